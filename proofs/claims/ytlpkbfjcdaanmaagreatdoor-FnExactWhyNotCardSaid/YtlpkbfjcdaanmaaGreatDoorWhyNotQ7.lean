/- Texts of this proof, joined: Dp8, Dp9, Dp11, Dp10, Dp12, Dp14, Dp15, Dp16, Dp17, Dp18, Dp19, Dp20, Fc, Dp21, Dp22, Dp23. What each holds is said at its theorems. -/
import Derived.Test.YtlpkbfjcdaanmaaGreatDoorWhyNotQ6
import Derived.Test.YtlpkbfjcdaanmaaGreatDoorWhyNotQ3
import Derived.Test.YtlpkbfjcdaanmaaGreatDoorProg
import Derived.OwnWalk
import Derived.Outline
import Derived.WalkSpells
import Derived.StillTailTactics
import Derived.BigQuiet
open Int renaming toNat_natCast→A4
open List renaming map→A0
open Option.some renaming inj→A3
open Go.Proofs.Tryz
set_option linter.unusedSimpArgs false
set_option linter.unusedVariables false
set_option maxRecDepth 1000000
set_option maxHeartbeats 4000000
namespace Go.Proofs.YtlpkbfjcdaanmaaGreatDoor
section
theorem ZbH {append_0:Zx} {String_1:Zc} {a_2:(List Zi)} {r:((List Zi) × Bool)} (h:QF append_0 String_1 a_2=some r):Zm prog J0 86 [(true,Qp append_0),(true,Zs String_1),(false,[.sl 162 2 (A0 ZR a_2)])] [(false,[(false,.sl 162 2 (A0 ZR r.1))]),(false,[(false,.bool r.2)])]:=by
 refine fnk func86 rfl ?_
 unfold QF at h
 simp only[fnS,f86,Zo,go_sem,seval]
 obtain ⟨_,g,h⟩:=Za h
 refine Zd (Ql g) ?_
 try simp only[*,go_sem,seval]
 refine yB h (fun _ h=>?_) fun _ h=>?_
 obtain ⟨_,k,h⟩:=Za h
 refine Zd (Zlb k) ?_
 try simp only[*,go_sem,seval]
 refine yB h (fun _ h=>?_) fun _ h=>?_
 obtain ⟨_,l,h⟩:=Za h
 refine Zd (Zas l) ?_
 try simp only[*,go_sem,seval]
 iterate 3 refine yB h (fun _ h=>?_) fun _ h=>?_
 cases h
 try simp only[*,go_sem,seval]
 obtain ⟨_,m,h⟩:=Za h
 refine Zd (Zhq m) ?_
 try simp only[*,go_sem,seval]
 refine Zh h (fun i a st=>IV [(4,.bp 0 0),(8,.p false [.row 1]),(45,yM (yU append_0.args)),(46,yL append_0.args.length),(47,yL i)] [zC 53 (Zs String_1),.row 162 2 (A0 ZR a) 2] st) [] [16,544] yF yD ?_ ?_
 rintro _ _ a ⟨_,_,_⟩ _ b d o h e
 simp only[go_sem,seval,Zb] at d
 obtain ⟨⟨_,_,q,_,_⟩,_,_,hn⟩:=d
 subst hn
 have t:=WF.slotL o q (j:=0) rfl
 have:=ZC b
 have:=ZE b
 have:=Zk (ZD b) t
 try simp only[*,go_sem,seval]
 obtain ⟨_,u,h⟩:=Za h
 refine Zd (QG u) ?_
 try simp only[*,go_sem,seval]
 refine yB h (fun _ h=>?_) fun _ h=>?_
 obtain ⟨_,_,_,v,h⟩:=ZcM h
 simp only[A4] at v
 try simp only[*,go_sem,seval]
 refine yB h (fun _ h=>?_) fun _ h=>?_
 refine ⟨_,[],[0,1],(A3 h).symm,yF,?_⟩
 try simp only[*,go_sem,seval]
 replace h:=Zr h e
 cases h
 try simp only[*,go_sem,seval]
 obtain ⟨_,_,_,w,h⟩:=ZcM h
 simp only[A4] at w
 try simp only[*,go_sem,seval]
 obtain ⟨_,x,h⟩:=Za h
 refine Zd (ZrV x) ?_
 try simp only[*,go_sem,seval]
 refine yB h (fun _ h=>?_) fun _ h=>?_
 refine ⟨_,[],[0,242],(A3 h).symm,yF,?_⟩
 try simp only[*,go_sem,seval]
 replace h:=Zr h e
 cases h
 try simp only[*,go_sem,seval]
 rintro a ⟨_,_,_⟩ f _ h
 simp only[go_sem,seval,Zb] at f
 obtain ⟨⟨_,_,_,_,_⟩,_,_,hn⟩:=f
 subst hn
 have:=ZB (append_0.args.length)
 iterate 5 (cases h;try simp only[*,go_sem,seval])
theorem ZhF {x_0:Zl} {r:Bool} (h:Zeh x_0=some r):Zm prog J0 149 [(true,ZJ x_0)] [(false,[(false,.bool r)])]:=by
 refine fnk func149 rfl ?_
 unfold Zeh at h
 have a:ZbS ⟨#[]⟩=true:=by decide
 simp only[fnS,f149,Zo,go_sem,seval,a]
 refine yB h (fun _ h=>?_) fun _ h=>?_
 obtain ⟨_,b,h⟩:=Za h
 refine Zd (Ql b) ?_
 try simp only[*,go_sem,seval]
 iterate 2 refine yB h (fun _ h=>?_) fun _ h=>?_
 iterate 3 (cases h;try simp only[*,go_sem,seval])
 refine yB h (fun _ h=>?_) fun _ h=>?_
 obtain ⟨_,c,h⟩:=Za h
 refine Zd (Ql c) ?_
 try simp only[*,go_sem,seval]
 iterate 2 refine yB h (fun _ h=>?_) fun _ h=>?_
 iterate 3 (cases h;try simp only[*,go_sem,seval])
 refine yB h (fun _ h=>?_) fun _ h=>?_
 obtain ⟨_,d,h⟩:=Za h
 refine Zd (Zap d) ?_
 try simp only[*,go_sem,seval]
 refine yB h (fun _ h=>?_) fun _ h=>?_
 obtain ⟨_,e,h⟩:=Za h
 refine Zd (Zap e) ?_
 try simp only[*,go_sem,seval]
 refine yB h (fun _ h=>?_) fun _ h=>?_
 obtain ⟨_,f,h⟩:=Za h
 refine Zd (ZaA f) ?_
 iterate 3 (cases h;try simp only[*,go_sem,seval])
 refine yB h (fun _ h=>?_) fun _ h=>?_
 obtain ⟨_,g,h⟩:=Za h
 refine Zd (Zap g) ?_
 try simp only[*,go_sem,seval]
 refine yB h (fun _ h=>?_) fun _ h=>?_
 obtain ⟨_,i,h⟩:=Za h
 refine Zd (Zap i) ?_
 try simp only[*,go_sem,seval]
 refine yB h (fun _ h=>?_) fun _ h=>?_
 obtain ⟨_,j,h⟩:=Za h
 refine Zd (ZaA j) ?_
 iterate 3 (cases h;try simp only[*,go_sem,seval])
 refine yB h (fun _ h=>?_) fun _ h=>?_
 obtain ⟨_,k,h⟩:=Za h
 refine Zd (Zap k) ?_
 try simp only[*,go_sem,seval]
 refine yB h (fun _ h=>?_) fun _ h=>?_
 obtain ⟨_,l,h⟩:=Za h
 refine Zd (Zap l) ?_
 try simp only[*,go_sem,seval]
 refine yB h (fun _ h=>?_) fun _ h=>?_
 obtain ⟨_,m,h⟩:=Za h
 refine Zd (ZaA m) ?_
 iterate 4 (cases h;try simp only[*,go_sem,seval])
theorem Zfi {p_0:Zx} {b_1:(List Zi)} {r:(Zc × Bool)} (h:QL p_0 b_1=some r):Zm prog J0 171 [(true,Qp p_0),(false,[.sl 162 2 (A0 ZR b_1)])] [(true,[(false,.str r.1.rel),(false,.sl 9 1 (A0 ZA r.1.args))]),(false,[(false,.bool r.2)])]:=by
 refine fnk func171 rfl ?_
 unfold QL at h
 simp only[fnS,f171,Zo,go_sem,seval]
 obtain ⟨_,f,h⟩:=Za h
 refine Zd (Ql f) ?_
 try simp only[*,go_sem,seval]
 refine yB h (fun _ h=>?_) fun _ h=>?_
 obtain ⟨_,g,h⟩:=Za h
 refine Zd (Zas g) ?_
 try simp only[*,go_sem,seval]
 refine yB h (fun _ h=>?_) fun _ h=>?_
 refine Zh h (fun i a st=>IV [(1,yM (yX b_1)),(4,.bp 0 0),(6,.bp 1 0),(24,yM (yU p_0.args)),(25,yL p_0.args.length),(26,yL i)] [.box 53 [.c (.str ⟨#[]⟩),.nil 9 1],.box 53 [.c (.str p_0.rel),.row 2],.row 9 1 (A0 ZA a) 2] st) [(true,224,1)] [16,224,320] yF yD ?_ ?_
 rintro _ _ a ⟨_,_,_⟩ _ b d k h l
 simp only[go_sem,seval,Zb] at d
 obtain ⟨⟨_,_,_,m,_,_⟩,_,_,_,hn⟩:=d
 subst hn
 have o:=WF.slotL k m (j:=0) rfl
 have:=ZC b
 have:=ZE b
 have:=Zk (ZD b) o
 try simp only[*,go_sem,seval]
 obtain ⟨_,q,h⟩:=Za h
 refine Zd (Zdw q) ?_
 try simp only[*,go_sem,seval]
 refine yB h (fun _ h=>?_) fun _ h=>?_
 obtain ⟨t,h⟩:=Zv h
 try simp only[Nat.reduceLeDiff] at t
 try simp only[*,go_sem,seval]
 refine ⟨_,[],[0,1,291],(A3 h).symm,yF,?_⟩
 try simp only[*,go_sem,seval]
 replace h:=Zr h l
 cases h
 try simp only[*,go_sem,seval]
 rintro a ⟨_,_,_⟩ e _ h
 simp only[go_sem,seval,Zb] at e
 obtain ⟨⟨_,_,_,_,_,_⟩,_,_,_,hn⟩:=e
 subst hn
 have:=ZB (p_0.args.length)
 iterate 3 (cases h;try simp only[*,go_sem,seval])
theorem ZqA {a:(List Zc)} {f_1:Zc} {r:(List Zc)} (h:Qv a f_1=some r):Zm prog J0 113 [(false,[.sl 53 2 (A0 Zs a)]),(true,Zs f_1)] [(false,[(false,.sl 53 2 (A0 Zs r))])]:=by
 refine fnk func113 rfl ?_
 unfold Qv at h
 simp only[fnS,f113,Zo,go_sem,seval]
 refine Zh h (fun i s st=>match s with | (b,d)=>IV [(3,.bp 0 0),(5,.p false [.row 1]),(6,yM (.bool d)),(9,yM (yT a)),(10,yL a.length),(11,yL i)] [zC 53 (Zs f_1),.row 53 2 (A0 Zs b) 2] st) [(false,5,0)] [0,112] yF yD ?_ ?_
 rintro _ _ ⟨b,d⟩ ⟨_,_,_⟩ _ e f l h _
 simp only[go_sem,seval,Zb] at f
 obtain ⟨⟨_,_,_,m,_,_⟩,_,_,hn⟩:=f
 subst hn
 have o:=WF.slotL l m (j:=0) rfl
 have:=ZC e
 have:=ZE e
 have:=Zk (ZD e) o
 try simp only[*,go_sem,seval]
 refine yB h (fun _ h=>?_) fun _ h=>?_
 obtain ⟨_,q,h⟩:=Za h
 refine Zd (YO q) ?_
 obtain ⟨t,h⟩:=Zv h
 try simp only[Nat.reduceLeDiff] at t
 try simp only[*,go_sem,seval]
 refine ⟨_,[],[0,274],(A3 h).symm,yF,?_⟩
 try simp only[*,go_sem,seval]
 obtain ⟨_,u,h⟩:=Za h
 refine Zd (ZeY u) ?_
 try simp only[*,go_sem,seval]
 refine yB h (fun _ h=>?_) fun _ h=>?_
 obtain ⟨_,v,h⟩:=Za h
 refine Zd (YO v) ?_
 obtain ⟨w,h⟩:=Zv h
 try simp only[Nat.reduceLeDiff] at w
 try simp only[*,go_sem,seval]
 obtain ⟨_,x,h⟩:=Za h
 refine Zd (YO x) ?_
 obtain ⟨y,h⟩:=Zv h
 try simp only[Nat.reduceLeDiff] at y
 try simp only[*,go_sem,seval]
 refine ⟨_,[],[0,386],(A3 h).symm,yF,?_⟩
 try simp only[*,go_sem,seval]
 obtain ⟨_,z,h⟩:=Za h
 refine Zd (YO z) ?_
 obtain ⟨A,h⟩:=Zv h
 try simp only[Nat.reduceLeDiff] at A
 try simp only[*,go_sem,seval]
 refine ⟨_,[],[0,274],(A3 h).symm,yF,?_⟩
 try simp only[*,go_sem,seval]
 rintro ⟨b,d⟩ ⟨_,_,_⟩ g _ h
 simp only[go_sem,seval,Zb] at g
 obtain ⟨⟨_,_,_,_,_,_⟩,_,_,hn⟩:=g
 subst hn
 have:=ZB (a.length)
 try simp only[*,go_sem,seval]
 refine yB h (fun _ h=>?_) fun _ h=>?_
 cases h
 try simp only[*,go_sem,seval]
 obtain ⟨_,B,h⟩:=Za h
 refine Zd (YO B) ?_
 obtain ⟨C,h⟩:=Zv h
 try simp only[Nat.reduceLeDiff] at C
 cases h
 try simp only[*,go_sem,seval]
theorem Zhl {r_0:Zg} {k_1:Int} {v_2:ByteArray} {r:Bool} (h:XT r_0 k_1 v_2=some r):Zm prog J0 247 [(true,ZL r_0),(false,[.int .i64 k_1]),(false,[.str v_2])] [(false,[(false,.bool r)])]:=by
 refine fnk func247 rfl ?_
 unfold XT at h
 simp only[fnS,f247,Zo,go_sem,seval]
 refine Zh h (fun i _ st=>IV [(1,yM (.int .i64 k_1)),(2,yM (.str v_2)),(3,.bp 0 0),(12,yM (yY r_0.cond)),(13,yL r_0.cond.length),(14,yL i)] [zC 76 (ZL r_0)] st) [] [0] yF yD ?_ ?_
 rintro _ _ ⟨⟩ ⟨_,_,_⟩ _ a d k h l
 simp only[go_sem,seval,Zb] at d
 obtain ⟨⟨_,_,_,m,_,_⟩,_,hn⟩:=d
 subst hn
 have o:=WF.slotL k m (j:=0) rfl
 have:=ZC a
 have:=ZE a
 have:=Zk (ZD a) o
 try simp only[*,go_sem,seval]
 refine yB h (fun _ h=>?_) fun _ h=>?_
 obtain ⟨_,q,h⟩:=Za h
 refine Zd (ZcA q) ?_
 try simp only[*,go_sem,seval]
 obtain ⟨_,t,h⟩:=Za h
 refine Zd (ZaB t) ?_
 try simp only[*,go_sem,seval]
 refine yB h (fun _ h=>?_) fun _ h=>?_
 replace h:=Zr h l
 cases h
 try simp only[*,go_sem,seval]
 refine ⟨_,[],[0],(A3 h).symm,yF,?_⟩
 try simp only[*,go_sem,seval]
 refine ⟨_,[],[0],(A3 h).symm,yF,?_⟩
 try simp only[*,go_sem,seval]
 rintro ⟨⟩ ⟨_,_,_⟩ e _ h
 simp only[go_sem,seval,Zb] at e
 obtain ⟨⟨_,_,_,_,_,_⟩,_,hn⟩:=e
 subst hn
 have:=ZB (r_0.cond.length)
 try simp only[*,go_sem,seval]
 refine Zh h (fun i _ st=>IV [(2,yM (.str v_2)),(30,yM (yZ r_0.thn)),(31,yL r_0.thn.length),(32,yL i)] [] st) [] [] yF yD ?_ ?_
 rintro _ _ ⟨⟩ ⟨_,_,_⟩ _ b f u h v
 simp only[go_sem,seval,Zb] at f
 obtain ⟨⟨_,w,_,_⟩,hn⟩:=f
 subst hn
 have x:=WF.slotL u w (j:=0) rfl
 have:=ZC b
 have:=ZE b
 have:=Zk (ZD b) x
 try simp only[*,go_sem,seval]
 obtain ⟨_,y,h⟩:=Za h
 refine Zd (ZaB y) ?_
 try simp only[*,go_sem,seval]
 refine yB h (fun _ h=>?_) fun _ h=>?_
 replace h:=Zr h v
 cases h
 try simp only[*,go_sem,seval]
 refine ⟨_,[],[],(A3 h).symm,yF,?_⟩
 try simp only[*,go_sem,seval]
 rintro ⟨⟩ ⟨_,_,_⟩ g _ h
 simp only[go_sem,seval,Zb] at g
 obtain ⟨⟨_,_,_,_⟩,hn⟩:=g
 subst hn
 have:=ZB (r_0.thn.length)
 cases h
 try simp only[*,go_sem,seval]
theorem Zou {a_0:Zu} {r:Bool} (h:ZeA a_0=some r):Zm prog J0 193 [(true,ZI a_0)] [(false,[(false,.bool r)])]:=by
 refine fnk func193 rfl ?_
 unfold ZeA at h
 simp only[fnS,f193,Zo,go_sem,seval]
 refine yB h (fun _ h=>?_) fun _ h=>?_
 obtain ⟨_,a,h⟩:=Za h
 refine Zd (Ql a) ?_
 cases h
 try simp only[*,go_sem,seval]
 refine yB h (fun _ h=>?_) fun _ h=>?_
 obtain ⟨_,b,h⟩:=Za h
 refine Zd (Ql b) ?_
 cases h
 try simp only[*,go_sem,seval]
 refine yB h (fun _ h=>?_) fun _ h=>?_
 obtain ⟨_,c,h⟩:=Za h
 refine Zd (ZaA c) ?_
 iterate 2 (cases h;try simp only[*,go_sem,seval])
theorem ZlB {l_0:(List Zl)} {r:(List ByteArray)} (h:ZbK l_0=some r):Zm prog J0 197 [(false,[.sl 80 5 (A0 ZJ l_0)])] [(false,[(false,.sl 9 1 (A0 ZA r))])]:=by
 refine fnk func197 rfl ?_
 unfold ZbK at h
 simp only[fnS,f197,Zo,go_sem,seval]
 refine Zh h (fun i a st=>IV [(3,.p false [.row 0]),(6,yM (yY l_0)),(7,yL l_0.length),(8,yL i)] [.row 9 1 (A0 ZA a) 2] st) [(false,3,0)] [80] yF yD ?_ ?_
 rintro _ _ a ⟨_,_,_⟩ _ b d f h _
 simp only[go_sem,seval,Zb] at d
 obtain ⟨⟨_,g,_,_⟩,_,hn⟩:=d
 subst hn
 have k:=WF.slotL f g (j:=0) rfl
 have:=ZC b
 have:=ZE b
 have:=Zk (ZD b) k
 try simp only[*,go_sem,seval]
 obtain ⟨_,l,h⟩:=Za h
 refine Zd (ZcA l) ?_
 obtain ⟨m,h⟩:=Zv h
 try simp only[Nat.reduceLeDiff] at m
 try simp only[*,go_sem,seval]
 refine ⟨_,[],[129],(A3 h).symm,yF,?_⟩
 try simp only[*,go_sem,seval]
 rintro a ⟨_,_,_⟩ e _ h
 simp only[go_sem,seval,Zb] at e
 obtain ⟨⟨_,_,_,_⟩,_,hn⟩:=e
 subst hn
 have:=ZB (l_0.length)
 cases h
 try simp only[*,go_sem,seval]
theorem Zom {l_0:(List Zc)} {r:Bool} (h:Zei l_0=some r):Zm prog J0 256 [(false,[.sl 53 2 (A0 Zs l_0)])] [(false,[(false,.bool r)])]:=by
 refine fnk func256 rfl ?_
 unfold Zei at h
 simp only[fnS,f256,Zo,go_sem,seval]
 refine yB h (fun _ h=>?_) fun _ h=>?_
 cases h
 try simp only[*,go_sem,seval]
 refine Zh h (fun i _ st=>IV [(0,yM (yT l_0)),(8,yM (yT l_0)),(9,yL l_0.length),(10,yL i)] [] st) [] [] yF yD ?_ ?_
 rintro _ _ ⟨⟩ ⟨_,_,_⟩ _ a b f h d
 simp only[go_sem,seval,Zb] at b
 obtain ⟨⟨g,_,_,_⟩,hn⟩:=b
 subst hn
 have k:=WF.slotL f g (j:=0) rfl
 have:=ZC a
 have:=ZE a
 have:=Zk (ZD a) k
 try simp only[*,go_sem,seval]
 obtain ⟨_,l,h⟩:=Za h
 refine Zd (Zlb l) ?_
 try simp only[*,go_sem,seval]
 iterate 2 refine yB h (fun _ h=>?_) fun _ h=>?_
 obtain ⟨_,_,_,_,h⟩:=ZcM h
 try simp only[*,go_sem,seval]
 obtain ⟨_,m,h⟩:=Za h
 refine Zd (ZeY m) ?_
 try simp only[*,go_sem,seval]
 refine yB h (fun _ h=>?_) fun _ h=>?_
 replace h:=Zr h d
 cases h
 try simp only[*,go_sem,seval]
 refine ⟨_,[],[],(A3 h).symm,yF,?_⟩
 try simp only[*,go_sem,seval]
 refine ⟨_,[],[],(A3 h).symm,yF,?_⟩
 try simp only[*,go_sem,seval]
 replace h:=Zr h d
 cases h
 try simp only[*,go_sem,seval]
 rintro ⟨⟩ ⟨_,_,_⟩ e _ h
 simp only[go_sem,seval,Zb] at e
 obtain ⟨⟨_,_,_,_⟩,hn⟩:=e
 subst hn
 have:=ZB (l_0.length)
 cases h
 try simp only[*,go_sem,seval]
theorem ZHc {p_0:Zx} {r:ByteArray} (h:ZGZ p_0=some r):Zm prog J0 150 [(true,Qp p_0)] [(false,[(false,.str r)])]:=by
 refine fnk func150 rfl ?_
 unfold ZGZ at h
 have d:ZbS ⟨#[40]⟩=true:=by decide
 have e:ZbS ⟨#[41]⟩=true:=by decide
 have f:ZbS ⟨#[44]⟩=true:=by decide
 have g:ZbS ⟨#[]⟩=true:=by decide
 simp only[fnS,f150,Zo,go_sem,seval,d,e,f,g]
 obtain ⟨_,i,h⟩:=Za h
 refine Zd (Ql i) ?_
 try simp only[*,go_sem,seval]
 refine yB h (fun _ h=>?_) fun _ h=>?_
 obtain ⟨a,h⟩:=Zv h
 try simp only[Nat.reduceLeDiff] at a
 try simp only[go_sem] at a
 try simp only[*,go_sem,seval]
 obtain ⟨_,j,h⟩:=Za h
 refine Zd (ZII j) ?_
 obtain ⟨b,h⟩:=Zv h
 try simp only[Nat.reduceLeDiff] at b
 try simp only[go_sem] at b
 obtain ⟨c,h⟩:=Zv h
 try simp only[Nat.reduceLeDiff] at c
 try simp only[go_sem] at c
 iterate 2 (cases h;try simp only[*,go_sem,seval])
theorem Qk {p_0:Zx} {r:Bool} (h:Xq p_0=some r):Zm prog J0 137 [(true,Qp p_0)] [(false,[(false,.bool r)])]:=by
 refine fnk func137 rfl ?_
 unfold Xq at h
 simp only[fnS,f137,Zo,go_sem,seval]
 refine Zh h (fun i _ st=>IV [(1,.bp 0 0),(3,yL i)] [.box 78 [.c (.str p_0.rel),.c (yU p_0.args)]] st) [] [0] yF yD ?_ ?_
 rintro _ _ ⟨⟩ ⟨_,_,_⟩ _ a b e h f
 simp only[go_sem,seval,Zb] at b
 obtain ⟨⟨_,_⟩,g,hn⟩:=b
 subst hn
 have k:=WF.boxL e g (j:=1) rfl
 have:=ZC a
 have:=ZE a
 have:=Zk (ZD a) k
 try simp only[*,go_sem,seval]
 obtain ⟨_,l,h⟩:=Za h
 refine Zd (Zar l) ?_
 try simp only[*,go_sem,seval]
 refine yB h (fun _ h=>?_) fun _ h=>?_
 refine ⟨_,[],[0],(A3 h).symm,yF,?_⟩
 try simp only[*,go_sem,seval]
 replace h:=Zr h f
 cases h
 try simp only[*,go_sem,seval]
 rintro ⟨⟩ ⟨_,_,_⟩ d _ h
 simp only[go_sem,seval,Zb] at d
 obtain ⟨⟨_,_⟩,_,hn⟩:=d
 subst hn
 have:=ZB (p_0.args.length)
 try simp only[*,go_sem,seval]
 obtain ⟨_,m,h⟩:=Za h
 refine Zd (Zg3 m) ?_
 try simp only[*,go_sem,seval]
 refine yB h (fun _ h=>?_) fun _ h=>?_
 iterate 2 (cases h;try simp only[*,go_sem,seval])
theorem ZbG {r_0:Zg} {n_1:Int} {r:(List ByteArray)} (h:QH r_0 n_1=some r):Zm prog J0 179 [(true,ZL r_0),(false,[.int .i64 n_1])] [(false,[(false,.sl 9 1 (A0 ZA r))])]:=by
 refine fnk func179 rfl ?_
 unfold QH at h
 simp only[fnS,f179,Zo,go_sem,seval]
 refine Zh h (fun i a st=>IV [(1,yM (.int .i64 n_1)),(2,.bp 0 0),(5,.p false [.row 1]),(6,yL i)] [zC 76 (ZL r_0),.row 9 1 (A0 ZA a) 2] st) [] [0,32] yF yD ?_ ?_
 rintro b _ a ⟨_,_,_⟩ _ d g q h t
 simp only[go_sem,seval,Zb] at g
 obtain ⟨⟨_,_,_,_⟩,u,_,hn⟩:=g
 subst hn
 have v:=WF.boxL q u (j:=2) rfl
 have:=ZC d
 have:=ZE d
 have:=Zk (ZD d) v
 try simp only[*,go_sem,seval]
 iterate 2 refine yB h (fun _ h=>?_) fun _ h=>?_
 obtain ⟨k,w,h⟩:=Za h
 refine Zd (Zc6 w) ?_
 try simp only[*,go_sem,seval]
 refine Zh h (fun i e st=>IV [(1,yM (.int .i64 n_1)),(2,.bp 0 0),(5,.p false [.row 1]),(6,yL b),(7,.p false [.row 2]),(8,yL i),(16,yL b),(17,yM (.int .i64 n_1)),(18,yM (.bool (decide (((b:Nat):Int)<n_1))))] [zC 76 (ZL r_0),.row 9 1 (A0 ZA e) 2,.row 9 1 (A0 ZA k) 2] st) [] [0,1,370] yF yD ?_ ?_
 rintro _ _ e ⟨_,_,_⟩ _ f l x h _
 simp only[go_sem,seval,Zb] at l
 obtain ⟨⟨_,_,_,_,_,_,_,_,_⟩,_,_,y,hn⟩:=l
 subst hn
 have z:=WF.rowL x y
 have:=ZC f
 have:=ZE f
 have:=Zk (ZD f) z
 try simp only[*,go_sem,seval]
 obtain ⟨_,A,h⟩:=Za h
 refine Zd (XF A) ?_
 try simp only[*,go_sem,seval]
 refine ⟨_,[],[0,147,2],(A3 h).symm,yF,?_⟩
 try simp only[*,go_sem,seval]
 rintro e ⟨_,_,_⟩ m _ h
 simp only[go_sem,seval,Zb] at m
 obtain ⟨⟨_,_,_,_,_,_,_,_,_⟩,_,_,_,hn⟩:=m
 subst hn
 have:=ZB (k.length)
 try simp only[*,go_sem,seval]
 refine ⟨_,[],[0,1],(A3 h).symm,yF,?_⟩
 try simp only[*,go_sem,seval]
 refine ⟨_,[],[0,1],(A3 h).symm,yF,?_⟩
 try simp only[*,go_sem,seval]
 replace h:=Zr h t
 cases h
 try simp only[*,go_sem,seval]
 rintro a ⟨_,_,_⟩ o _ h
 simp only[go_sem,seval,Zb] at o
 obtain ⟨⟨_,_,_,_⟩,_,_,hn⟩:=o
 subst hn
 have:=ZB (r_0.cond.length)
 cases h
 try simp only[*,go_sem,seval]
theorem ZaP {x_0:Zl} {r:(List ByteArray)} (h:X3 x_0=some r):Zm prog J0 180 [(true,ZJ x_0)] [(false,[(false,.sl 9 1 (A0 ZA r))])]:=by
 refine fnk func180 rfl ?_
 unfold X3 at h
 simp only[fnS,f180,Zo,go_sem,seval]
 obtain ⟨_,a,h⟩:=Za h
 refine Zd (Zc6 a) ?_
 try simp only[*,go_sem,seval]
 obtain ⟨_,b,h⟩:=Za h
 refine Zd (Zah b) ?_
 try simp only[*,go_sem,seval]
 refine yB h (fun _ h=>?_) fun _ h=>?_
 obtain ⟨_,c,h⟩:=Za h
 refine Zd (XF c) ?_
 try simp only[*,go_sem,seval]
 obtain ⟨_,d,h⟩:=Za h
 refine Zd (Zah d) ?_
 try simp only[*,go_sem,seval]
 refine yB h (fun _ h=>?_) fun _ h=>?_
 obtain ⟨_,e,h⟩:=Za h
 refine Zd (XF e) ?_
 iterate 2 (cases h;try simp only[*,go_sem,seval])
 obtain ⟨_,f,h⟩:=Za h
 refine Zd (Zah f) ?_
 try simp only[*,go_sem,seval]
 refine yB h (fun _ h=>?_) fun _ h=>?_
 obtain ⟨_,g,h⟩:=Za h
 refine Zd (XF g) ?_
 iterate 2 (cases h;try simp only[*,go_sem,seval])
end
section
theorem ZtP {a:(List Zc)} {f_1:Zc} {r:(List Zc)} (h:ZcF a f_1=some r):Zm prog J0 229 [(false,[.sl 53 2 (A0 Zs a)]),(true,Zs f_1)] [(false,[(false,.sl 53 2 (A0 Zs r))])]:=by
 refine fnk func229 rfl ?_
 unfold ZcF at h
 simp only[fnS,f229,Zo,go_sem,seval]
 refine Zh h (fun i s st=>match s with | (b,d)=>IV [(0,yM (yT a)),(3,.bp 0 0),(5,.p false [.row 1]),(6,yM (.bool d)),(7,yL i)] [zC 53 (Zs f_1),.row 53 2 (A0 Zs b) 2] st) [] [0,32] yF yD ?_ ?_
 rintro _ _ ⟨b,d⟩ ⟨_,_,_⟩ _ e f k h _
 simp only[go_sem,seval,Zb] at f
 obtain ⟨⟨l,_,_,_,_⟩,_,_,hn⟩:=f
 subst hn
 have m:=WF.slotL k l (j:=0) rfl
 have:=ZC e
 have:=ZE e
 have:=Zk (ZD e) m
 try simp only[*,go_sem,seval]
 refine yB h (fun _ h=>?_) fun _ h=>?_
 obtain ⟨_,o,h⟩:=Za h
 refine Zd (Xr o) ?_
 obtain ⟨q,h⟩:=Zv h
 try simp only[Nat.reduceLeDiff] at q
 try simp only[*,go_sem,seval]
 refine ⟨_,[],[0,354],(A3 h).symm,yF,?_⟩
 try simp only[*,go_sem,seval]
 obtain ⟨_,t,h⟩:=Za h
 refine Zd (ZbQ t) ?_
 try simp only[*,go_sem,seval]
 refine yB h (fun _ h=>?_) fun _ h=>?_
 obtain ⟨_,u,h⟩:=Za h
 refine Zd (ZbQ u) ?_
 try simp only[*,go_sem,seval]
 refine yB h (fun _ h=>?_) fun _ h=>?_
 obtain ⟨_,v,h⟩:=Za h
 refine Zd (Xr v) ?_
 obtain ⟨w,h⟩:=Zv h
 try simp only[Nat.reduceLeDiff] at w
 try simp only[*,go_sem,seval]
 obtain ⟨_,x,h⟩:=Za h
 refine Zd (Xr x) ?_
 obtain ⟨y,h⟩:=Zv h
 try simp only[Nat.reduceLeDiff] at y
 try simp only[*,go_sem,seval]
 refine ⟨_,[],[0,578],(A3 h).symm,yF,?_⟩
 try simp only[*,go_sem,seval]
 obtain ⟨_,z,h⟩:=Za h
 refine Zd (Xr z) ?_
 obtain ⟨A,h⟩:=Zv h
 try simp only[Nat.reduceLeDiff] at A
 try simp only[*,go_sem,seval]
 refine ⟨_,[],[0,482],(A3 h).symm,yF,?_⟩
 try simp only[*,go_sem,seval]
 obtain ⟨_,B,h⟩:=Za h
 refine Zd (Xr B) ?_
 obtain ⟨C,h⟩:=Zv h
 try simp only[Nat.reduceLeDiff] at C
 try simp only[*,go_sem,seval]
 refine ⟨_,[],[0,354],(A3 h).symm,yF,?_⟩
 try simp only[*,go_sem,seval]
 rintro ⟨b,d⟩ ⟨_,_,_⟩ g _ h
 simp only[go_sem,seval,Zb] at g
 obtain ⟨⟨_,_,_,_,_⟩,_,_,hn⟩:=g
 subst hn
 have:=ZB (a.length)
 try simp only[*,go_sem,seval]
 refine yB h (fun _ h=>?_) fun _ h=>?_
 cases h
 try simp only[*,go_sem,seval]
 obtain ⟨_,D,h⟩:=Za h
 refine Zd (Xr D) ?_
 obtain ⟨E,h⟩:=Zv h
 try simp only[Nat.reduceLeDiff] at E
 cases h
 try simp only[*,go_sem,seval]
theorem Zis {l_0:(List Zc)} {r:Bool} (h:Zcb l_0=some r):Zm prog J0 121 [(false,[.sl 53 2 (A0 Zs l_0)])] [(false,[(false,.bool r)])]:=by
 refine fnk func121 rfl ?_
 unfold Zcb at h
 simp only[fnS,f121,Zo,go_sem,seval]
 refine Zh h (fun i _ st=>IV [(0,yM (yT l_0)),(3,yL i)] [] st) [] [] yF yD ?_ ?_
 rintro _ _ ⟨⟩ ⟨_,_,_⟩ _ a b f h d
 simp only[go_sem,seval,Zb] at b
 obtain ⟨⟨g,_⟩,hn⟩:=b
 subst hn
 have k:=WF.slotL f g (j:=0) rfl
 have:=ZC a
 have:=ZE a
 have:=Zk (ZD a) k
 try simp only[*,go_sem,seval]
 obtain ⟨_,l,h⟩:=Za h
 refine Zd (Zk1 l) ?_
 try simp only[*,go_sem,seval]
 iterate 2 refine yB h (fun _ h=>?_) fun _ h=>?_
 obtain ⟨_,_,_,_,h⟩:=ZcM h
 try simp only[*,go_sem,seval]
 obtain ⟨_,m,h⟩:=Za h
 refine Zd (ZbQ m) ?_
 try simp only[*,go_sem,seval]
 refine yB h (fun _ h=>?_) fun _ h=>?_
 replace h:=Zr h d
 cases h
 try simp only[*,go_sem,seval]
 refine ⟨_,[],[],(A3 h).symm,yF,?_⟩
 try simp only[*,go_sem,seval]
 refine ⟨_,[],[],(A3 h).symm,yF,?_⟩
 try simp only[*,go_sem,seval]
 replace h:=Zr h d
 cases h
 try simp only[*,go_sem,seval]
 rintro ⟨⟩ ⟨_,_,_⟩ e _ h
 simp only[go_sem,seval,Zb] at e
 obtain ⟨⟨_,_⟩,hn⟩:=e
 subst hn
 have:=ZB (l_0.length)
 cases h
 try simp only[*,go_sem,seval]
theorem Zrp {b_0:(List Zi)} {v_1:ByteArray} {value_2:ByteArray} {r:((List Zi) × Bool)} (h:Zhm b_0 v_1 value_2=some r):Zm prog J0 139 [(false,[.sl 162 2 (A0 ZR b_0)]),(false,[.str v_1]),(false,[.str value_2])] [(false,[(false,.sl 162 2 (A0 ZR r.1))]),(false,[(false,.bool r.2)])]:=by
 refine fnk func139 rfl ?_
 unfold Zhm at h
 simp only[fnS,f139,Zo,go_sem,seval]
 obtain ⟨_,a,h⟩:=Za h
 refine Zd (Zan a) ?_
 try simp only[*,go_sem,seval]
 refine yB h (fun _ h=>?_) fun _ h=>?_
 obtain ⟨_,b,h⟩:=Za h
 refine Zd (Zah b) ?_
 try simp only[*,go_sem,seval]
 refine yB h (fun _ h=>?_) fun _ h=>?_
 obtain ⟨_,c,h⟩:=Za h
 refine Zd (QA c) ?_
 try simp only[*,go_sem,seval]
 refine yB h (fun _ h=>?_) fun _ h=>?_
 obtain ⟨_,d,h⟩:=Za h
 refine Zd (Zdu d) ?_
 try simp only[*,go_sem,seval]
 iterate 2 refine yB h (fun _ h=>?_) fun _ h=>?_
 obtain ⟨_,e,h⟩:=Za h
 refine Zd (ZeN e) ?_
 iterate 2 (cases h;try simp only[*,go_sem,seval])
 refine yB h (fun _ h=>?_) fun _ h=>?_
 cases h
 try simp only[*,go_sem,seval]
 obtain ⟨_,f,h⟩:=Za h
 refine Zd (ZtD f) ?_
 iterate 4 (cases h;try simp only[*,go_sem,seval])
theorem Zox {b:Zt} {r:(List Int)} (h:Zeb b=some r):Zm prog J0 277 [(true,Qu b)] [(false,[(false,.sl 3 1 (A0 ZO r))])]:=by
 refine fnk func277 rfl ?_
 unfold Zeb at h
 simp only[fnS,f277,Zo,go_sem,seval]
 obtain ⟨_,B,h⟩:=Za h
 refine Zd (ZeL B) ?_
 try simp only[*,go_sem,seval]
 refine yB h (fun _ h=>?_) fun _ h=>?_
 obtain ⟨_,h⟩:=Zv h
 try simp only[*,go_sem,seval]
 refine Xj h (fun s st=>match s with | (q,e)=>IV [(1,.bp 0 0),(3,.p false [.row 1]),(4,yM (.int .i64 e))] [.box 140 [.c (.int .i64 b.nodes),.c (zA b.reasons)],.row 3 1 (A0 ZO q) 2] st) [] [0,112] yF yD ?_
 rintro ⟨q,e⟩ ⟨_,_,_⟩ _ t _ h C
 simp only[go_sem,seval,Zb] at t
 obtain ⟨⟨_,_,_⟩,_,_,hn⟩:=t
 subst hn
 try simp only[*,go_sem,seval]
 refine yB h (fun _ h=>?_) fun _ h=>?_
 refine Zh h (fun i f st=>IV [(1,.bp 0 0),(3,.p false [.row 1]),(4,yM (.int .i64 e)),(5,yL i)] [.box 140 [.c (.int .i64 b.nodes),.c (zA b.reasons)],.row 3 1 (A0 ZO f) 2] st) [] [0,1] yF yD ?_ ?_
 rintro u d f ⟨_,_,_⟩ _ g v D h _
 simp only[go_sem,seval,Zb] at v
 obtain ⟨⟨_,_,_,_⟩,E,_,hn⟩:=v
 subst hn
 have F:=WF.boxL D E (j:=1) rfl
 have:=ZC g
 have:=ZE g
 have:=Zk (ZD g) F
 try simp only[*,go_sem,seval]
 refine Zh h (fun i k st=>IV [(1,.bp 0 0),(3,.p false [.row 1]),(4,yM (.int .i64 e)),(5,yL u),(6,.bp 2 0),(7,yL i)] [.box 140 [.c (.int .i64 b.nodes),.c (zA b.reasons)],.row 3 1 (A0 ZO k) 2,zC 179 (ZG d)] st) [] [0,1,162] yF yD ?_ ?_
 rintro _ _ k ⟨_,_,_⟩ _ l w G h _
 simp only[go_sem,seval,Zb] at w
 obtain ⟨⟨_,_,_,_,_,_⟩,_,_,H,hn⟩:=w
 subst hn
 have I:=WF.boxL G H (j:=1) rfl
 have:=ZC l
 have:=ZE l
 have:=Zk (ZD l) I
 obtain ⟨_,h⟩:=Zv h
 obtain ⟨_,_,h⟩:=Za h
 obtain ⟨_,h⟩:=Zv h
 obtain ⟨_,_,h⟩:=Za h
 try simp only[*,go_sem,seval]
 refine ⟨_,[],[0,1,2],(A3 h).symm,yF,?_⟩
 try simp only[*,go_sem,seval]
 rintro k ⟨_,_,_⟩ x _ h
 simp only[go_sem,seval,Zb] at x
 obtain ⟨⟨_,_,_,_,_,_⟩,_,_,_,hn⟩:=x
 subst hn
 have:=ZB (d.inn.length)
 try simp only[*,go_sem,seval]
 refine Zh h (fun i m st=>IV [(1,.bp 0 0),(3,.p false [.row 1]),(4,yM (.int .i64 e)),(5,yL u),(6,.bp 2 0),(8,yL i)] [.box 140 [.c (.int .i64 b.nodes),.c (zA b.reasons)],.row 3 1 (A0 ZO m) 2,zC 179 (ZG d)] st) [] [0,1,2] yF yD ?_ ?_
 rintro _ _ m ⟨_,_,_⟩ _ o y J h _
 simp only[go_sem,seval,Zb] at y
 obtain ⟨⟨_,_,_,_,_,_⟩,_,_,K,hn⟩:=y
 subst hn
 have L:=WF.boxL J K (j:=2) rfl
 have:=ZC o
 have:=ZE o
 have:=Zk (ZD o) L
 obtain ⟨_,h⟩:=Zv h
 obtain ⟨_,_,h⟩:=Za h
 obtain ⟨_,h⟩:=Zv h
 obtain ⟨_,_,h⟩:=Za h
 try simp only[*,go_sem,seval]
 refine ⟨_,[],[0,1,2],(A3 h).symm,yF,?_⟩
 try simp only[*,go_sem,seval]
 rintro m ⟨_,_,_⟩ z _ h
 simp only[go_sem,seval,Zb] at z
 obtain ⟨⟨_,_,_,_,_,_⟩,_,_,_,hn⟩:=z
 subst hn
 have:=ZB (d.outs.length)
 try simp only[*,go_sem,seval]
 refine ⟨_,[],[0,1],(A3 h).symm,yF,?_⟩
 try simp only[*,go_sem,seval]
 rintro f ⟨_,_,_⟩ A _ h
 simp only[go_sem,seval,Zb] at A
 obtain ⟨⟨_,_,_,_⟩,_,_,hn⟩:=A
 subst hn
 have:=ZB (b.reasons.length)
 try simp only[*,go_sem,seval]
 refine ⟨_,[],[0,1],(A3 h).symm,yF,?_⟩
 try simp only[*,go_sem,seval]
 replace h:=Zr h C
 iterate 2 (cases h;try simp only[*,go_sem,seval])
theorem ZH9 {b_0:(List Zi)} {aim_1:(List Zi)} {r:Bool} (h:ZHm b_0 aim_1=some r):Zm prog J0 140 [(false,[.sl 162 2 (A0 ZR b_0)]),(false,[.sl 162 2 (A0 ZR aim_1)])] [(false,[(false,.bool r)])]:=by
 refine fnk func140 rfl ?_
 unfold ZHm at h
 simp only[fnS,f140,Zo,go_sem,seval]
 refine Zh h (fun i _ st=>IV [(0,yM (yX b_0)),(1,yM (yX aim_1)),(5,yL i)] [] st) [] [] yF yD ?_ ?_
 rintro _ _ ⟨⟩ ⟨_,_,_⟩ _ a b e h f
 simp only[go_sem,seval,Zb] at b
 obtain ⟨⟨g,_,_⟩,hn⟩:=b
 subst hn
 have k:=WF.slotL e g (j:=0) rfl
 have:=ZC a
 have:=ZE a
 have:=Zk (ZD a) k
 try simp only[*,go_sem,seval]
 obtain ⟨_,l,h⟩:=Za h
 refine Zd (Zdu l) ?_
 try simp only[*,go_sem,seval]
 iterate 2 refine yB h (fun _ h=>?_) fun _ h=>?_
 refine ⟨_,[],[],(A3 h).symm,yF,?_⟩
 try simp only[*,go_sem,seval]
 replace h:=Zr h f
 cases h
 try simp only[*,go_sem,seval]
 refine ⟨_,[],[],(A3 h).symm,yF,?_⟩
 try simp only[*,go_sem,seval]
 rintro ⟨⟩ ⟨_,_,_⟩ d _ h
 simp only[go_sem,seval,Zb] at d
 obtain ⟨⟨_,_,_⟩,hn⟩:=d
 subst hn
 have:=ZB (b_0.length)
 cases h
 try simp only[*,go_sem,seval]
end
section
theorem Zfq {p_0:Zx} {b_1:(List Zi)} {r:(Zc × Bool)} (h:XA p_0 b_1=some r):Zm prog J0 173 [(true,Qp p_0),(false,[.sl 162 2 (A0 ZR b_1)])] [(true,[(false,.str r.1.rel),(false,.sl 9 1 (A0 ZA r.1.args))]),(false,[(false,.bool r.2)])]:=by
 refine fnk func173 rfl ?_
 unfold XA at h
 simp only[fnS,f173,Zo,go_sem,seval]
 obtain ⟨_,f,h⟩:=Za h
 refine Zd (Qk f) ?_
 try simp only[*,go_sem,seval]
 refine yB h (fun _ h=>?_) fun _ h=>?_
 obtain ⟨_,g,h⟩:=Za h
 refine Zd (Zan g) ?_
 try simp only[*,go_sem,seval]
 refine yB h (fun _ h=>?_) fun _ h=>?_
 refine Zh h (fun i a st=>IV [(1,yM (yX b_1)),(2,.bp 0 0),(4,.bp 1 0),(6,.bp 2 0),(7,yL i)] [.box 78 [.c (.str p_0.rel),.c (yU p_0.args)],.box 53 [.c (.str ⟨#[]⟩),.nil 9 1],.box 53 [.c (.str p_0.rel),.row 3],.row 9 1 (A0 ZA a) 2] st) [(true,224,1)] [0,16,224,272] yF yD ?_ ?_
 rintro _ _ a ⟨_,_,_⟩ _ b d k h l
 simp only[go_sem,seval,Zb] at d
 obtain ⟨⟨_,_,_,_,_⟩,m,_,_,_,hn⟩:=d
 subst hn
 have o:=WF.boxL k m (j:=1) rfl
 have:=ZC b
 have:=ZE b
 have:=Zk (ZD b) o
 try simp only[*,go_sem,seval]
 obtain ⟨_,q,h⟩:=Za h
 refine Zd (Zdu q) ?_
 try simp only[*,go_sem,seval]
 refine yB h (fun _ h=>?_) fun _ h=>?_
 obtain ⟨t,h⟩:=Zv h
 try simp only[Nat.reduceLeDiff] at t
 try simp only[*,go_sem,seval]
 refine ⟨_,[],[0,1,2,372],(A3 h).symm,yF,?_⟩
 try simp only[*,go_sem,seval]
 replace h:=Zr h l
 cases h
 try simp only[*,go_sem,seval]
 rintro a ⟨_,_,_⟩ e _ h
 simp only[go_sem,seval,Zb] at e
 obtain ⟨⟨_,_,_,_,_⟩,_,_,_,_,hn⟩:=e
 subst hn
 have:=ZB (p_0.args.length)
 iterate 3 (cases h;try simp only[*,go_sem,seval])
theorem ZoP {b:Zt} {r:(List Int)} (h:Zee b=some r):Zm prog J0 233 [(true,Qu b)] [(false,[(false,.sl 3 1 (A0 ZO r))])]:=by
 refine fnk func233 rfl ?_
 unfold Zee at h
 simp only[fnS,f233,Zo,go_sem,seval]
 obtain ⟨_,z,h⟩:=Za h
 refine Zd (ZeL z) ?_
 try simp only[*,go_sem,seval]
 refine yB h (fun _ h=>?_) fun _ h=>?_
 obtain ⟨d,A,h⟩:=Za h
 refine Zd (Zox A) ?_
 try simp only[*,go_sem,seval]
 refine Xj h (fun s st=>match s with | (l,m)=>IV [(1,.bp 0 0),(3,.p false [.row 1]),(4,.p false [.row 2]),(5,yM (.int .i64 m))] [.box 140 [.c (.int .i64 b.nodes),.c (zA b.reasons)],.row 3 1 (A0 ZO d) 2,.row 3 1 (A0 ZO l) 2] st) [] [0,96,128] yF yD ?_
 rintro ⟨l,m⟩ ⟨_,_,_⟩ _ o _ h B
 simp only[go_sem,seval,Zb] at o
 obtain ⟨⟨_,_,_,_⟩,_,_,_,hn⟩:=o
 subst hn
 try simp only[*,go_sem,seval]
 refine yB h (fun _ h=>?_) fun _ h=>?_
 obtain ⟨C,h⟩:=Zv h
 try simp only[Nat.reduceLeDiff] at C
 try simp only[*,go_sem,seval]
 refine ⟨_,[],[0,1,99],(A3 h).symm,yF,?_⟩
 try simp only[*,go_sem,seval]
 refine Xj h (fun s st=>match s with | (q,t,e)=>IV [(1,.bp 0 0),(3,.p false [.row 1]),(4,.p false [.row 2]),(6,yM (.int .i64 t)),(7,yM (.int .i64 e))] [.box 140 [.c (.int .i64 b.nodes),.c (zA b.reasons)],.row 3 1 (A0 ZO d) 2,.row 3 1 (A0 ZO q) 2] st) [] [0,1,2] yF yD ?_
 rintro ⟨q,t,e⟩ ⟨_,_,_⟩ _ u _ h D
 simp only[go_sem,seval,Zb] at u
 obtain ⟨⟨_,_,_,_,_⟩,_,_,_,hn⟩:=u
 subst hn
 try simp only[*,go_sem,seval]
 refine yB h (fun _ h=>?_) fun _ h=>?_
 obtain ⟨_,E,h⟩:=Za h
 refine Zd (ZiI E) ?_
 try simp only[*,go_sem,seval]
 refine Xj h (fun s st=>match s with | (v,f,g)=>IV [(1,.bp 0 0),(3,.p false [.row 1]),(4,.p false [.row 2]),(6,yM (.int .i64 g)),(7,yM (.int .i64 e)),(8,.p false [.row 3])] [.box 140 [.c (.int .i64 b.nodes),.c (zA b.reasons)],.row 3 1 (A0 ZO d) 2,.row 3 1 (A0 ZO v) 2,.row 3 1 (A0 ZO f) 2] st) [] [0,1,2,147] yF yD ?_
 rintro ⟨v,f,g⟩ ⟨_,_,_⟩ _ w _ h F
 simp only[go_sem,seval,Zb] at w
 obtain ⟨⟨_,_,_,_,_,_⟩,_,_,_,_,hn⟩:=w
 subst hn
 try simp only[*,go_sem,seval]
 refine yB h (fun _ h=>?_) fun _ h=>?_
 refine Zh h (fun i j st=>IV [(1,.bp 0 0),(3,.p false [.row 1]),(4,.p false [.row 2]),(6,yM (.int .i64 g)),(7,yM (.int .i64 e)),(8,.p false [.row 3]),(9,yL i)] [.box 140 [.c (.int .i64 b.nodes),.c (zA b.reasons)],.row 3 1 (A0 ZO d) 2,.row 3 1 (A0 ZO j) 2,.row 3 1 (A0 ZO f) 2] st) [] [0,1,2,3] yF yD ?_ ?_
 rintro _ _ j ⟨_,_,_⟩ _ k x G h _
 simp only[go_sem,seval,Zb] at x
 obtain ⟨⟨_,_,_,_,_,_,_⟩,_,_,_,H,hn⟩:=x
 subst hn
 have I:=WF.rowL G H
 have:=ZC k
 have:=ZE k
 have:=Zk (ZD k) I
 obtain ⟨_,h⟩:=Zv h
 obtain ⟨_,_,h⟩:=Za h
 try simp only[*,go_sem,seval]
 refine ⟨_,[],[0,1,2,3],(A3 h).symm,yF,?_⟩
 try simp only[*,go_sem,seval]
 rintro j ⟨_,_,_⟩ y _ h
 simp only[go_sem,seval,Zb] at y
 obtain ⟨⟨_,_,_,_,_,_,_⟩,_,_,_,_,hn⟩:=y
 subst hn
 have:=ZB (f.length)
 try simp only[*,go_sem,seval]
 obtain ⟨_,J,h⟩:=Za h
 refine Zd (ZiI J) ?_
 try simp only[*,go_sem,seval]
 refine ⟨_,[],[0,1,2,196],(A3 h).symm,yF,?_⟩
 try simp only[*,go_sem,seval]
 replace h:=Zr h F
 refine ⟨_,[],[0,1,2],(A3 h).symm,yF,?_⟩
 try simp only[*,go_sem,seval]
 replace h:=Zr h D
 replace h:=Zr h B
 iterate 2 (cases h;try simp only[*,go_sem,seval])
theorem ZHa {p_0:Zx} {r:ByteArray} (h:ZG1 p_0=some r):Zm prog J0 107 [(true,Qp p_0)] [(false,[(false,.str r)])]:=by
 refine fnk func107 rfl ?_
 unfold ZG1 at h
 have d:ZbS ⟨#[40]⟩=true:=by decide
 have e:ZbS ⟨#[41]⟩=true:=by decide
 have f:ZbS ⟨#[44]⟩=true:=by decide
 have g:ZbS ⟨#[]⟩=true:=by decide
 simp only[fnS,f107,Zo,go_sem,seval,d,e,f,g]
 obtain ⟨_,i,h⟩:=Za h
 refine Zd (Qk i) ?_
 try simp only[*,go_sem,seval]
 refine yB h (fun _ h=>?_) fun _ h=>?_
 obtain ⟨a,h⟩:=Zv h
 try simp only[Nat.reduceLeDiff] at a
 try simp only[go_sem] at a
 try simp only[*,go_sem,seval]
 obtain ⟨_,j,h⟩:=Za h
 refine Zd (ZIH j) ?_
 obtain ⟨b,h⟩:=Zv h
 try simp only[Nat.reduceLeDiff] at b
 try simp only[go_sem] at b
 obtain ⟨c,h⟩:=Zv h
 try simp only[Nat.reduceLeDiff] at c
 try simp only[go_sem] at c
 iterate 2 (cases h;try simp only[*,go_sem,seval])
end
section
theorem Zes {p_0:Zx} {b_1:(List Zi)} {facts_2:(List Zc)} {r:(List Zc)} (h:XO p_0 b_1 facts_2=some r):Zm prog J0 198 [(true,Qp p_0),(false,[.sl 162 2 (A0 ZR b_1)]),(false,[.sl 53 2 (A0 Zs facts_2)])] [(false,[(false,.sl 53 2 (A0 Zs r))])]:=by
 refine fnk func198 rfl ?_
 unfold XO at h
 simp only[fnS,f198,Zo,go_sem,seval]
 refine Zh h (fun i a st=>IV [(1,yM (yX b_1)),(3,.bp 0 0),(7,.p false [.row 1]),(12,yM (yT facts_2)),(13,yL facts_2.length),(14,yL i)] [.box 78 [.c (.str p_0.rel),.c (yU p_0.args)],.row 53 2 (A0 Zs a) 2] st) [(false,7,0)] [0,96] yF yD ?_ ?_
 rintro _ _ a ⟨_,_,_⟩ _ b d f h _
 simp only[go_sem,seval,Zb] at d
 obtain ⟨⟨_,_,_,g,_,_⟩,_,_,hn⟩:=d
 subst hn
 have k:=WF.slotL f g (j:=0) rfl
 have:=ZC b
 have:=ZE b
 have:=Zk (ZD b) k
 try simp only[*,go_sem,seval]
 obtain ⟨_,l,h⟩:=Za h
 refine Zd (ZbH l) ?_
 try simp only[*,go_sem,seval]
 refine yB h (fun _ h=>?_) fun _ h=>?_
 obtain ⟨_,m,h⟩:=Za h
 refine Zd (YO m) ?_
 obtain ⟨o,h⟩:=Zv h
 try simp only[Nat.reduceLeDiff] at o
 try simp only[*,go_sem,seval]
 refine ⟨_,[],[0,306],(A3 h).symm,yF,?_⟩
 try simp only[*,go_sem,seval]
 refine ⟨_,[],[0,1],(A3 h).symm,yF,?_⟩
 try simp only[*,go_sem,seval]
 rintro a ⟨_,_,_⟩ e _ h
 simp only[go_sem,seval,Zb] at e
 obtain ⟨⟨_,_,_,_,_,_⟩,_,_,hn⟩:=e
 subst hn
 have:=ZB (facts_2.length)
 cases h
 try simp only[*,go_sem,seval]
theorem Zrl {x_0:Zl} {r:Bool} (h:ZjH x_0=some r):Zm prog J0 249 [(true,ZJ x_0)] [(false,[(false,.bool r)])]:=by
 refine fnk func249 rfl ?_
 unfold ZjH at h
 simp only[fnS,f249,Zo,go_sem,seval]
 obtain ⟨_,a,h⟩:=Za h
 refine Zd (ZhF a) ?_
 try simp only[*,go_sem,seval]
 refine yB h (fun _ h=>?_) fun _ h=>?_
 iterate 2 (cases h;try simp only[*,go_sem,seval])
theorem Ziz {r_0:Zg} {k_1:Int} {r:Bool} (h:Zcd r_0 k_1=some r):Zm prog J0 191 [(true,ZL r_0),(false,[.int .i64 k_1])] [(false,[(false,.bool r)])]:=by
 refine fnk func191 rfl ?_
 unfold Zcd at h
 simp only[fnS,f191,Zo,go_sem,seval]
 obtain ⟨a,_,_,_,h⟩:=ZcM h
 try simp only[*,go_sem,seval]
 obtain ⟨j,k,h⟩:=Za h
 refine Zd (ZdR k) ?_
 try simp only[*,go_sem,seval]
 obtain ⟨b,l,h⟩:=Za h
 refine Zd (ZcA l) ?_
 try simp only[*,go_sem,seval]
 refine Zh h (fun i _ st=>IV [(1,yM (.int .i64 k_1)),(2,.bp 0 0),(5,.bp 1 0),(6,.p false [.row 2]),(18,.p false [.row 3]),(19,yL b.length),(20,yL i)] [zC 76 (ZL r_0),zC 80 (ZJ a),.row 9 1 (A0 ZA j) 2,.row 9 1 (A0 ZA b) 2] st) [] [0,112,176,224] yF yD ?_ ?_
 rintro _ _ ⟨⟩ ⟨_,_,_⟩ _ d e m h f
 simp only[go_sem,seval,Zb] at e
 obtain ⟨⟨_,_,_,_,_,_,_⟩,_,_,_,o,hn⟩:=e
 subst hn
 have q:=WF.rowL m o
 have:=ZC d
 have:=ZE d
 have:=Zk (ZD d) q
 try simp only[*,go_sem,seval]
 refine yB h (fun _ h=>?_) fun _ h=>?_
 refine ⟨_,[],[0,1,2,3],(A3 h).symm,yF,?_⟩
 try simp only[*,go_sem,seval]
 obtain ⟨_,t,h⟩:=Za h
 refine Zd (ZaB t) ?_
 try simp only[*,go_sem,seval]
 refine yB h (fun _ h=>?_) fun _ h=>?_
 refine ⟨_,[],[0,1,2,3],(A3 h).symm,yF,?_⟩
 try simp only[*,go_sem,seval]
 refine yB h (fun _ h=>?_) fun _ h=>?_
 replace h:=Zr h f
 cases h
 try simp only[*,go_sem,seval]
 obtain ⟨_,u,h⟩:=Za h
 refine Zd (Zhl u) ?_
 try simp only[*,go_sem,seval]
 refine yB h (fun _ h=>?_) fun _ h=>?_
 replace h:=Zr h f
 cases h
 try simp only[*,go_sem,seval]
 refine ⟨_,[],[0,1,2,3],(A3 h).symm,yF,?_⟩
 try simp only[*,go_sem,seval]
 rintro ⟨⟩ ⟨_,_,_⟩ g _ h
 simp only[go_sem,seval,Zb] at g
 obtain ⟨⟨_,_,_,_,_,_,_⟩,_,_,_,_,hn⟩:=g
 subst hn
 have:=ZB (b.length)
 cases h
 try simp only[*,go_sem,seval]
theorem ZgO {x_0:Zl} {r:Bool} (h:Zej x_0=some r):Zm prog J0 106 [(true,ZJ x_0)] [(false,[(false,.bool r)])]:=by
 refine fnk func106 rfl ?_
 unfold Zej at h
 have a:ZbS ⟨#[]⟩=true:=by decide
 simp only[fnS,f106,Zo,go_sem,seval,a]
 refine yB h (fun _ h=>?_) fun _ h=>?_
 obtain ⟨_,b,h⟩:=Za h
 refine Zd (Qk b) ?_
 try simp only[*,go_sem,seval]
 iterate 2 refine yB h (fun _ h=>?_) fun _ h=>?_
 iterate 3 (cases h;try simp only[*,go_sem,seval])
 refine yB h (fun _ h=>?_) fun _ h=>?_
 obtain ⟨_,c,h⟩:=Za h
 refine Zd (Qk c) ?_
 try simp only[*,go_sem,seval]
 iterate 2 refine yB h (fun _ h=>?_) fun _ h=>?_
 iterate 3 (cases h;try simp only[*,go_sem,seval])
 iterate 3 refine yB h (fun _ h=>?_) fun _ h=>?_
 obtain ⟨_,d,h⟩:=Za h
 refine Zd (Zar d) ?_
 try simp only[*,go_sem,seval]
 refine yB h (fun _ h=>?_) fun _ h=>?_
 obtain ⟨_,e,h⟩:=Za h
 refine Zd (Zar e) ?_
 iterate 4 (cases h;try simp only[*,go_sem,seval])
 iterate 3 refine yB h (fun _ h=>?_) fun _ h=>?_
 obtain ⟨_,f,h⟩:=Za h
 refine Zd (Zar f) ?_
 try simp only[*,go_sem,seval]
 refine yB h (fun _ h=>?_) fun _ h=>?_
 obtain ⟨_,g,h⟩:=Za h
 refine Zd (Zar g) ?_
 iterate 4 (cases h;try simp only[*,go_sem,seval])
 iterate 3 refine yB h (fun _ h=>?_) fun _ h=>?_
 obtain ⟨_,i,h⟩:=Za h
 refine Zd (Zar i) ?_
 try simp only[*,go_sem,seval]
 refine yB h (fun _ h=>?_) fun _ h=>?_
 obtain ⟨_,j,h⟩:=Za h
 refine Zd (Zar j) ?_
 iterate 5 (cases h;try simp only[*,go_sem,seval])
theorem Zfu {r_0:Zg} {i_1:Int} {v_2:ByteArray} {r:Bool} (h:X5 r_0 i_1 v_2=some r):Zm prog J0 183 [(true,ZL r_0),(false,[.int .i64 i_1]),(false,[.str v_2])] [(false,[(false,.bool r)])]:=by
 refine fnk func183 rfl ?_
 unfold X5 at h
 simp only[fnS,f183,Zo,go_sem,seval]
 refine Zh h (fun i _ st=>IV [(1,yM (.int .i64 i_1)),(2,yM (.str v_2)),(3,.bp 0 0),(7,yL i)] [zC 76 (ZL r_0)] st) [] [0] yF yD ?_ ?_
 rintro _ _ ⟨⟩ ⟨_,_,_⟩ _ a d k h l
 simp only[go_sem,seval,Zb] at d
 obtain ⟨⟨_,_,_,_⟩,m,hn⟩:=d
 subst hn
 have o:=WF.boxL k m (j:=2) rfl
 have:=ZC a
 have:=ZE a
 have:=Zk (ZD a) o
 try simp only[*,go_sem,seval]
 refine yB h (fun _ h=>?_) fun _ h=>?_
 obtain ⟨_,q,h⟩:=Za h
 refine Zd (ZaP q) ?_
 try simp only[*,go_sem,seval]
 obtain ⟨_,t,h⟩:=Za h
 refine Zd (YQ t) ?_
 try simp only[*,go_sem,seval]
 refine yB h (fun _ h=>?_) fun _ h=>?_
 replace h:=Zr h l
 cases h
 try simp only[*,go_sem,seval]
 refine ⟨_,[],[0],(A3 h).symm,yF,?_⟩
 try simp only[*,go_sem,seval]
 refine ⟨_,[],[0],(A3 h).symm,yF,?_⟩
 try simp only[*,go_sem,seval]
 rintro ⟨⟩ ⟨_,_,_⟩ e _ h
 simp only[go_sem,seval,Zb] at e
 obtain ⟨⟨_,_,_,_⟩,_,hn⟩:=e
 subst hn
 have:=ZB (r_0.cond.length)
 try simp only[*,go_sem,seval]
 refine Zh h (fun i _ st=>IV [(2,yM (.str v_2)),(3,.bp 0 0),(8,yL i)] [zC 76 (ZL r_0)] st) [] [0] yF yD ?_ ?_
 rintro _ _ ⟨⟩ ⟨_,_,_⟩ _ b f u h v
 simp only[go_sem,seval,Zb] at f
 obtain ⟨⟨_,_,_⟩,w,hn⟩:=f
 subst hn
 have x:=WF.boxL u w (j:=3) rfl
 have:=ZC b
 have:=ZE b
 have:=Zk (ZD b) x
 try simp only[*,go_sem,seval]
 obtain ⟨_,y,h⟩:=Za h
 refine Zd (Zc6 y) ?_
 try simp only[*,go_sem,seval]
 obtain ⟨_,z,h⟩:=Za h
 refine Zd (YQ z) ?_
 try simp only[*,go_sem,seval]
 refine yB h (fun _ h=>?_) fun _ h=>?_
 replace h:=Zr h v
 cases h
 try simp only[*,go_sem,seval]
 refine ⟨_,[],[0],(A3 h).symm,yF,?_⟩
 try simp only[*,go_sem,seval]
 rintro ⟨⟩ ⟨_,_,_⟩ g _ h
 simp only[go_sem,seval,Zb] at g
 obtain ⟨⟨_,_,_⟩,_,hn⟩:=g
 subst hn
 have:=ZB (r_0.thn.length)
 cases h
 try simp only[*,go_sem,seval]
theorem Zn1 {a_0:Zu} {r:Bool} (h:Zer a_0=some r):Zm prog J0 184 [(true,ZI a_0)] [(false,[(false,.bool r)])]:=by
 refine fnk func184 rfl ?_
 unfold Zer at h
 have a:ZbS ⟨#[]⟩=true:=by decide
 simp only[fnS,f184,Zo,go_sem,seval,a]
 refine yB h (fun _ h=>?_) fun _ h=>?_
 obtain ⟨_,b,h⟩:=Za h
 refine Zd (Qk b) ?_
 cases h
 try simp only[*,go_sem,seval]
 refine yB h (fun _ h=>?_) fun _ h=>?_
 obtain ⟨_,c,h⟩:=Za h
 refine Zd (Qk c) ?_
 cases h
 try simp only[*,go_sem,seval]
 iterate 2 refine yB h (fun _ h=>?_) fun _ h=>?_
 iterate 3 (cases h;try simp only[*,go_sem,seval])
theorem Zof {r_0:Zg} {r:(List ByteArray)} (h:Zed r_0=some r):Zm prog J0 186 [(true,ZL r_0)] [(false,[(false,.sl 9 1 (A0 ZA r))])]:=by
 refine fnk func186 rfl ?_
 unfold Zed at h
 simp only[fnS,f186,Zo,go_sem,seval]
 refine Zh h (fun i a st=>IV [(1,.bp 0 0),(3,.p false [.row 1]),(4,yL i)] [zC 76 (ZL r_0),.row 9 1 (A0 ZA a) 2] st) [] [0,32] yF yD ?_ ?_
 rintro A _ a ⟨_,_,_⟩ _ b m B h _
 simp only[go_sem,seval,Zb] at m
 obtain ⟨⟨_,_,_⟩,C,_,hn⟩:=m
 subst hn
 have D:=WF.boxL B C (j:=2) rfl
 have:=ZC b
 have:=ZE b
 have:=Zk (ZD b) D
 try simp only[*,go_sem,seval]
 obtain ⟨o,E,h⟩:=Za h
 refine Zd (ZaP E) ?_
 try simp only[*,go_sem,seval]
 refine Zh h (fun i d st=>IV [(1,.bp 0 0),(3,.p false [.row 1]),(4,yL A),(5,.p false [.row 2]),(6,yL i)] [zC 76 (ZL r_0),.row 9 1 (A0 ZA d) 2,.row 9 1 (A0 ZA o) 2] st) [] [0,1,162] yF yD ?_ ?_
 rintro _ _ d ⟨_,_,_⟩ _ e q F h _
 simp only[go_sem,seval,Zb] at q
 obtain ⟨⟨_,_,_,_,_⟩,_,_,G,hn⟩:=q
 subst hn
 have H:=WF.rowL F G
 have:=ZC e
 have:=ZE e
 have:=Zk (ZD e) H
 try simp only[*,go_sem,seval]
 obtain ⟨_,I,h⟩:=Za h
 refine Zd (XF I) ?_
 try simp only[*,go_sem,seval]
 refine ⟨_,[],[0,147,2],(A3 h).symm,yF,?_⟩
 try simp only[*,go_sem,seval]
 rintro d ⟨_,_,_⟩ t _ h
 simp only[go_sem,seval,Zb] at t
 obtain ⟨⟨_,_,_,_,_⟩,_,_,_,hn⟩:=t
 subst hn
 have:=ZB (o.length)
 try simp only[*,go_sem,seval]
 refine ⟨_,[],[0,1],(A3 h).symm,yF,?_⟩
 try simp only[*,go_sem,seval]
 rintro a ⟨_,_,_⟩ u _ h
 simp only[go_sem,seval,Zb] at u
 obtain ⟨⟨_,_,_⟩,_,_,hn⟩:=u
 subst hn
 have:=ZB (r_0.cond.length)
 try simp only[*,go_sem,seval]
 refine Zh h (fun i f st=>IV [(1,.bp 0 0),(3,.p false [.row 1]),(7,yL i)] [zC 76 (ZL r_0),.row 9 1 (A0 ZA f) 2] st) [] [0,1] yF yD ?_ ?_
 rintro J _ f ⟨_,_,_⟩ _ g v K h _
 simp only[go_sem,seval,Zb] at v
 obtain ⟨⟨_,_,_⟩,L,_,hn⟩:=v
 subst hn
 have M:=WF.boxL K L (j:=3) rfl
 have:=ZC g
 have:=ZE g
 have:=Zk (ZD g) M
 try simp only[*,go_sem,seval]
 obtain ⟨w,N,h⟩:=Za h
 refine Zd (Zc6 N) ?_
 try simp only[*,go_sem,seval]
 refine Zh h (fun i k st=>IV [(1,.bp 0 0),(3,.p false [.row 1]),(7,yL J),(8,.p false [.row 2]),(9,yL i)] [zC 76 (ZL r_0),.row 9 1 (A0 ZA k) 2,.row 9 1 (A0 ZA w) 2] st) [] [0,1,178] yF yD ?_ ?_
 rintro _ _ k ⟨_,_,_⟩ _ l x O h _
 simp only[go_sem,seval,Zb] at x
 obtain ⟨⟨_,_,_,_,_⟩,_,_,P,hn⟩:=x
 subst hn
 have Q:=WF.rowL O P
 have:=ZC l
 have:=ZE l
 have:=Zk (ZD l) Q
 try simp only[*,go_sem,seval]
 obtain ⟨_,R,h⟩:=Za h
 refine Zd (XF R) ?_
 try simp only[*,go_sem,seval]
 refine ⟨_,[],[0,147,2],(A3 h).symm,yF,?_⟩
 try simp only[*,go_sem,seval]
 rintro k ⟨_,_,_⟩ y _ h
 simp only[go_sem,seval,Zb] at y
 obtain ⟨⟨_,_,_,_,_⟩,_,_,_,hn⟩:=y
 subst hn
 have:=ZB (w.length)
 try simp only[*,go_sem,seval]
 refine ⟨_,[],[0,1],(A3 h).symm,yF,?_⟩
 try simp only[*,go_sem,seval]
 rintro f ⟨_,_,_⟩ z _ h
 simp only[go_sem,seval,Zb] at z
 obtain ⟨⟨_,_,_⟩,_,_,hn⟩:=z
 subst hn
 have:=ZB (r_0.thn.length)
 cases h
 try simp only[*,go_sem,seval]
theorem Zg5 {append_0:Zx} {String_1:Zc} {a_2:(List Zi)} {r:((List Zi) × Bool)} (h:Zbp append_0 String_1 a_2=some r):Zm prog J0 81 [(true,Qp append_0),(true,Zs String_1),(false,[.sl 162 2 (A0 ZR a_2)])] [(false,[(false,.sl 162 2 (A0 ZR r.1))]),(false,[(false,.bool r.2)])]:=by
 refine fnk func81 rfl ?_
 unfold Zbp at h
 simp only[fnS,f81,Zo,go_sem,seval]
 obtain ⟨_,g,h⟩:=Za h
 refine Zd (Qk g) ?_
 try simp only[*,go_sem,seval]
 refine yB h (fun _ h=>?_) fun _ h=>?_
 obtain ⟨_,k,h⟩:=Za h
 refine Zd (Zk1 k) ?_
 try simp only[*,go_sem,seval]
 refine yB h (fun _ h=>?_) fun _ h=>?_
 obtain ⟨_,l,h⟩:=Za h
 refine Zd (Zan l) ?_
 try simp only[*,go_sem,seval]
 iterate 3 refine yB h (fun _ h=>?_) fun _ h=>?_
 cases h
 try simp only[*,go_sem,seval]
 obtain ⟨_,m,h⟩:=Za h
 refine Zd (ZeN m) ?_
 try simp only[*,go_sem,seval]
 refine Zh h (fun i a st=>IV [(3,.bp 0 0),(4,.bp 1 0),(8,.p false [.row 2]),(9,yL i)] [.box 78 [.c (.str append_0.rel),.c (yU append_0.args)],zC 53 (Zs String_1),.row 162 2 (A0 ZR a) 2] st) [] [0,16,544] yF yD ?_ ?_
 rintro _ _ a ⟨_,_,_⟩ _ b d o h e
 simp only[go_sem,seval,Zb] at d
 obtain ⟨⟨_,_,_,_⟩,q,_,_,hn⟩:=d
 subst hn
 have t:=WF.boxL o q (j:=1) rfl
 have:=ZC b
 have:=ZE b
 have:=Zk (ZD b) t
 try simp only[*,go_sem,seval]
 obtain ⟨_,u,h⟩:=Za h
 refine Zd (QA u) ?_
 try simp only[*,go_sem,seval]
 refine yB h (fun _ h=>?_) fun _ h=>?_
 obtain ⟨_,_,_,v,h⟩:=ZcM h
 simp only[A4] at v
 try simp only[*,go_sem,seval]
 refine yB h (fun _ h=>?_) fun _ h=>?_
 refine ⟨_,[],[0,1,2],(A3 h).symm,yF,?_⟩
 try simp only[*,go_sem,seval]
 replace h:=Zr h e
 cases h
 try simp only[*,go_sem,seval]
 obtain ⟨_,_,_,w,h⟩:=ZcM h
 simp only[A4] at w
 try simp only[*,go_sem,seval]
 obtain ⟨_,x,h⟩:=Za h
 refine Zd (Zrp x) ?_
 try simp only[*,go_sem,seval]
 refine yB h (fun _ h=>?_) fun _ h=>?_
 refine ⟨_,[],[0,1,355],(A3 h).symm,yF,?_⟩
 try simp only[*,go_sem,seval]
 replace h:=Zr h e
 cases h
 try simp only[*,go_sem,seval]
 rintro a ⟨_,_,_⟩ f _ h
 simp only[go_sem,seval,Zb] at f
 obtain ⟨⟨_,_,_,_⟩,_,_,_,hn⟩:=f
 subst hn
 have:=ZB (append_0.args.length)
 iterate 5 (cases h;try simp only[*,go_sem,seval])
end
section
theorem ZmA {append_0:Zl} {String_1:(List Zi)} {r:Bool} (h:Zc9 append_0 String_1=some r):Zm prog J0 199 [(true,ZJ append_0),(false,[.sl 162 2 (A0 ZR String_1)])] [(false,[(false,.bool r)])]:=by
 refine fnk func199 rfl ?_
 unfold Zc9 at h
 simp only[fnS,f199,Zo,go_sem,seval]
 obtain ⟨_,a,h⟩:=Za h
 refine Zd (Zrl a) ?_
 try simp only[*,go_sem,seval]
 refine yB h (fun _ h=>?_) fun _ h=>?_
 obtain ⟨_,b,h⟩:=Za h
 refine Zd (Zas b) ?_
 try simp only[*,go_sem,seval]
 refine yB h (fun _ h=>?_) fun _ h=>?_
 obtain ⟨_,c,h⟩:=Za h
 refine Zd (Zdw c) ?_
 try simp only[*,go_sem,seval]
 obtain ⟨_,d,h⟩:=Za h
 refine Zd (Zdw d) ?_
 try simp only[*,go_sem,seval]
 iterate 3 refine yB h (fun _ h=>?_) fun _ h=>?_
 cases h
 try simp only[*,go_sem,seval]
 refine yB h (fun _ h=>?_) fun _ h=>?_
 cases h
 try simp only[*,go_sem,seval]
 obtain ⟨_,e,h⟩:=Za h
 refine Zd (ZcG e) ?_
 try simp only[*,go_sem,seval]
 obtain ⟨_,f,h⟩:=Za h
 refine Zd (ZcG f) ?_
 try simp only[*,go_sem,seval]
 iterate 2 refine yB h (fun _ h=>?_) fun _ h=>?_
 iterate 7 (cases h;try simp only[*,go_sem,seval])
theorem ZhM {append_0:Zg} {r:Bool} (h:Zex append_0=some r):Zm prog J0 129 [(true,ZL append_0)] [(false,[(false,.bool r)])]:=by
 refine fnk func129 rfl ?_
 unfold Zex at h
 simp only[fnS,f129,Zo,go_sem,seval]
 obtain ⟨_,v,h⟩:=Za h
 refine Zd (Zhr v) ?_
 try simp only[*,go_sem,seval]
 iterate 2 refine yB h (fun _ h=>?_) fun _ h=>?_
 iterate 5 (cases h;(try simp only[*,go_sem,seval]);refine Ze h (fun _ h=>?_) fun _ h=>?_<;>try simp only[*,go_sem,seval])
 cases h
 try simp only[*,go_sem,seval]
 refine Zh h (fun i _ st=>IV [(1,.bp 0 0),(49,yM (yY append_0.cond)),(50,yL append_0.cond.length),(51,yL i)] [zC 76 (ZL append_0)] st) [] [0] yF yD ?_ ?_
 rintro _ _ ⟨⟩ ⟨_,_,_⟩ _ a g w h b
 simp only[go_sem,seval,Zb] at g
 obtain ⟨⟨_,x,_,_⟩,_,hn⟩:=g
 subst hn
 have y:=WF.slotL w x (j:=0) rfl
 have:=ZC a
 have:=ZE a
 have:=Zk (ZD a) y
 try simp only[*,go_sem,seval]
 obtain ⟨_,z,h⟩:=Za h
 refine Zd (ZhF z) ?_
 try simp only[*,go_sem,seval]
 iterate 3 refine yB h (fun _ h=>?_) fun _ h=>?_
 replace h:=Zr h b
 cases h
 try simp only[*,go_sem,seval]
 obtain ⟨_,A,h⟩:=Za h
 refine Zd (Ziz A) ?_
 try simp only[*,go_sem,seval]
 refine yB h (fun _ h=>?_) fun _ h=>?_
 refine ⟨_,[],[0],(A3 h).symm,yF,?_⟩
 try simp only[*,go_sem,seval]
 replace h:=Zr h b
 cases h
 try simp only[*,go_sem,seval]
 obtain ⟨_,B,h⟩:=Za h
 refine Zd (Ziz B) ?_
 try simp only[*,go_sem,seval]
 refine yB h (fun _ h=>?_) fun _ h=>?_
 refine ⟨_,[],[0],(A3 h).symm,yF,?_⟩
 iterate 2 ((try simp only[*,go_sem,seval]);replace h:=Zr h b;cases h)
 try simp only[*,go_sem,seval]
 rintro ⟨⟩ ⟨_,_,_⟩ k _ h
 simp only[go_sem,seval,Zb] at k
 obtain ⟨⟨_,_,_,_⟩,_,hn⟩:=k
 subst hn
 have:=ZB (append_0.cond.length)
 try simp only[*,go_sem,seval]
 obtain ⟨l,C,h⟩:=Za h
 refine Zd (ZdR C) ?_
 try simp only[*,go_sem,seval]
 refine Zh h (fun i _ st=>IV [(1,.bp 0 0),(5,.p false [.row 1]),(81,yM (yZ append_0.thn)),(82,yL append_0.thn.length),(83,yL i)] [zC 76 (ZL append_0),.row 9 1 (A0 ZA l) 2] st) [] [0,81] yF yD ?_ ?_
 rintro D _ ⟨⟩ ⟨_,_,_⟩ _ d m E h o
 simp only[go_sem,seval,Zb] at m
 obtain ⟨⟨_,_,F,_,_⟩,_,_,hn⟩:=m
 subst hn
 have G:=WF.slotL E F (j:=0) rfl
 have:=ZC d
 have:=ZE d
 have:=Zk (ZD d) G
 try simp only[*,go_sem,seval]
 obtain ⟨_,H,h⟩:=Za h
 refine Zd (Zou H) ?_
 try simp only[*,go_sem,seval]
 refine yB h (fun _ h=>?_) fun _ h=>?_
 obtain ⟨e,I,h⟩:=Za h
 refine Zd (Zep I) ?_
 try simp only[*,go_sem,seval]
 refine Zh h (fun i _ st=>IV [(1,.bp 0 0),(5,.p false [.row 1]),(81,yM (yZ append_0.thn)),(82,yL append_0.thn.length),(83,yL D),(93,.p false [.row 2]),(94,yL e.length),(95,yL i)] [zC 76 (ZL append_0),.row 9 1 (A0 ZA l) 2,.row 9 1 (A0 ZA e) 2] st) [] [0,1,178] yF yD ?_ ?_
 rintro _ _ ⟨⟩ ⟨_,_,_⟩ _ f q J h K
 simp only[go_sem,seval,Zb] at q
 obtain ⟨⟨_,_,_,_,_,_,_,_⟩,_,_,L,hn⟩:=q
 subst hn
 have M:=WF.rowL J L
 have:=ZC f
 have:=ZE f
 have:=Zk (ZD f) M
 try simp only[*,go_sem,seval]
 obtain ⟨_,N,h⟩:=Za h
 refine Zd (ZaB N) ?_
 try simp only[*,go_sem,seval]
 refine yB h (fun _ h=>?_) fun _ h=>?_
 refine ⟨_,[],[0,1,2],(A3 h).symm,yF,?_⟩
 try simp only[*,go_sem,seval]
 replace h:=Zr h K
 replace h:=Zr h o
 cases h
 try simp only[*,go_sem,seval]
 rintro ⟨⟩ ⟨_,_,_⟩ t _ h
 simp only[go_sem,seval,Zb] at t
 obtain ⟨⟨_,_,_,_,_,_,_,_⟩,_,_,_,hn⟩:=t
 subst hn
 have:=ZB (e.length)
 try simp only[*,go_sem,seval]
 refine ⟨_,[],[0,1],(A3 h).symm,yF,?_⟩
 try simp only[*,go_sem,seval]
 replace h:=Zr h o
 cases h
 try simp only[*,go_sem,seval]
 rintro ⟨⟩ ⟨_,_,_⟩ u _ h
 simp only[go_sem,seval,Zb] at u
 obtain ⟨⟨_,_,_,_,_⟩,_,_,hn⟩:=u
 subst hn
 have:=ZB (append_0.thn.length)
 try simp only[*,go_sem,seval]
 obtain ⟨_,O,h⟩:=Za h
 refine Zd (ZlB O) ?_
 try simp only[*,go_sem,seval]
 obtain ⟨_,P,h⟩:=Za h
 refine Zd (Qy P) ?_
 iterate 2 (cases h;try simp only[*,go_sem,seval])
theorem Zhi {x_0:Zl} {r:Bool} (h:ZbV x_0=some r):Zm prog J0 182 [(true,ZJ x_0)] [(false,[(false,.bool r)])]:=by
 refine fnk func182 rfl ?_
 unfold ZbV at h
 simp only[fnS,f182,Zo,go_sem,seval]
 obtain ⟨_,a,h⟩:=Za h
 refine Zd (ZgO a) ?_
 try simp only[*,go_sem,seval]
 refine yB h (fun _ h=>?_) fun _ h=>?_
 iterate 2 (cases h;try simp only[*,go_sem,seval])
theorem Zd2 {p_0:Zx} {b_1:(List Zi)} {facts_2:(List Zc)} {r:(List Zc)} (h:XQ p_0 b_1 facts_2=some r):Zm prog J0 283 [(true,Qp p_0),(false,[.sl 162 2 (A0 ZR b_1)]),(false,[.sl 53 2 (A0 Zs facts_2)])] [(false,[(false,.sl 53 2 (A0 Zs r))])]:=by
 refine fnk func283 rfl ?_
 unfold XQ at h
 simp only[fnS,f283,Zo,go_sem,seval]
 refine Zh h (fun i a st=>IV [(1,yM (yX b_1)),(2,yM (yT facts_2)),(3,.bp 0 0),(7,.p false [.row 1]),(8,yL i)] [.box 78 [.c (.str p_0.rel),.c (yU p_0.args)],.row 53 2 (A0 Zs a) 2] st) [] [0,32] yF yD ?_ ?_
 rintro _ _ a ⟨_,_,_⟩ _ b d f h _
 simp only[go_sem,seval,Zb] at d
 obtain ⟨⟨_,g,_,_,_⟩,_,_,hn⟩:=d
 subst hn
 have k:=WF.slotL f g (j:=0) rfl
 have:=ZC b
 have:=ZE b
 have:=Zk (ZD b) k
 try simp only[*,go_sem,seval]
 obtain ⟨_,l,h⟩:=Za h
 refine Zd (Zg5 l) ?_
 try simp only[*,go_sem,seval]
 refine yB h (fun _ h=>?_) fun _ h=>?_
 obtain ⟨_,m,h⟩:=Za h
 refine Zd (Xr m) ?_
 obtain ⟨o,h⟩:=Zv h
 try simp only[Nat.reduceLeDiff] at o
 try simp only[*,go_sem,seval]
 refine ⟨_,[],[0,386],(A3 h).symm,yF,?_⟩
 try simp only[*,go_sem,seval]
 refine ⟨_,[],[0,1],(A3 h).symm,yF,?_⟩
 try simp only[*,go_sem,seval]
 rintro a ⟨_,_,_⟩ e _ h
 simp only[go_sem,seval,Zb] at e
 obtain ⟨⟨_,_,_,_,_⟩,_,_,hn⟩:=e
 subst hn
 have:=ZB (facts_2.length)
 cases h
 try simp only[*,go_sem,seval]
theorem ZnO {append_0:Zg} {String_1:Int} {a_2:Zq} {a_3:(List Zc)} {r:Zf} (h:ZbA append_0 String_1 a_2 a_3=some r):Zm prog J0 211 [(true,ZL append_0),(false,[.int .i64 String_1]),(true,YU a_2),(false,[.sl 53 2 (A0 Zs a_3)])] [(true,[(false,.int .i64 r.for_),(false,.sl 3 1 (A0 ZO r.inn)),(false,.sl 3 1 (A0 ZO r.outs))])]:=by
 refine fnk func211 rfl ?_
 unfold ZbA at h
 simp only[fnS,f211,Zo,go_sem,seval]
 obtain ⟨_,_,_,_,h⟩:=ZcM h
 try simp only[*,go_sem,seval]
 obtain ⟨d,g,h⟩:=Za h
 refine Zd (Zfq g) ?_
 try simp only[*,go_sem,seval]
 refine Zh h (fun i a st=>IV [(3,yM (yT a_3)),(4,.bp 0 0),(6,.bp 1 0),(8,.bp 2 0),(9,.bp 3 0),(11,.p false [.row 5]),(12,yL i)] [zC 76 (ZL append_0),zC 111 (YU a_2),.box 179 [.c (.int .i64 0),.nil 3 1,.nil 3 1],.box 53 [.c (.str d.1.rel),.row 4],.row 9 1 (A0 ZA d.1.args) 2,.row 53 2 (A0 Zs a) 2] st) [] [0,16,32,240,176,288] yF yD ?_ ?_
 rintro _ _ a ⟨_,_,_⟩ _ b e k h _
 simp only[go_sem,seval,Zb] at e
 obtain ⟨⟨_,_,_,_,_,_,_⟩,l,_,_,_,_,_,hn⟩:=e
 subst hn
 have m:=WF.boxL k l (j:=2) rfl
 have:=ZC b
 have:=ZE b
 have:=Zk (ZD b) m
 try simp only[*,go_sem,seval]
 refine yB h (fun _ h=>?_) fun _ h=>?_
 obtain ⟨_,o,h⟩:=Za h
 refine Zd (Zfq o) ?_
 obtain ⟨q,h⟩:=Zv h
 try simp only[Nat.reduceLeDiff] at q
 try simp only[*,go_sem,seval]
 refine ⟨_,[],[0,1,2,3,4,486],(A3 h).symm,yF,?_⟩
 try simp only[*,go_sem,seval]
 refine ⟨_,[],[0,1,2,3,4,5],(A3 h).symm,yF,?_⟩
 try simp only[*,go_sem,seval]
 rintro a ⟨_,_,_⟩ f _ h
 simp only[go_sem,seval,Zb] at f
 obtain ⟨⟨_,_,_,_,_,_,_⟩,_,_,_,_,_,_,hn⟩:=f
 subst hn
 have:=ZB (append_0.cond.length)
 try simp only[*,go_sem,seval]
 obtain ⟨_,t,h⟩:=Za h
 refine Zd (Zfa t) ?_
 try simp only[*,go_sem,seval]
 obtain ⟨_,u,h⟩:=Za h
 refine Zd (ZiF u) ?_
 try simp only[*,go_sem,seval]
 obtain ⟨_,v,h⟩:=Za h
 refine Zd (ZiF v) ?_
 cases h
 try simp only[*,go_sem,seval]
theorem Zog {b_0:Zt} {r:(List Bool)} (h:Zeu b_0=some r):Zm prog J0 164 [(true,Qu b_0)] [(false,[(false,.sl 4 1 (A0 Ze4 r))])]:=by
 refine fnk func164 rfl ?_
 unfold Zeu at h
 simp only[fnS,f164,Zo,go_sem,seval]
 obtain ⟨d,g,h⟩:=Za h
 refine Zd (ZoP g) ?_
 try simp only[*,go_sem,seval]
 refine Zh h (fun i a st=>IV [(3,.p false [.row 0]),(4,.p false [.row 1]),(5,yL i)] [.row 3 1 (A0 ZO d) 2,.row 4 1 (A0 Ze4 a) 2] st) [] [48,80] yF yD ?_ ?_
 rintro _ _ a ⟨_,_,_⟩ _ b e j h _
 simp only[go_sem,seval,Zb] at e
 obtain ⟨⟨_,_,_⟩,k,_,hn⟩:=e
 subst hn
 have l:=WF.rowL j k
 have:=ZC b
 have:=ZE b
 have:=Zk (ZD b) l
 obtain ⟨m,h⟩:=Zv h
 try simp only[Nat.reduceLeDiff] at m
 try simp only[*,go_sem,seval]
 refine ⟨_,[],[0,178],(A3 h).symm,yF,?_⟩
 try simp only[*,go_sem,seval]
 rintro a ⟨_,_,_⟩ f _ h
 simp only[go_sem,seval,Zb] at f
 obtain ⟨⟨_,_,_⟩,_,_,hn⟩:=f
 subst hn
 have:=ZB (d.length)
 cases h
 try simp only[*,go_sem,seval]
theorem ZHQ {x_0:Zl} {r:ByteArray} (h:ZG7 x_0=some r):Zm prog J0 46 [(true,ZJ x_0)] [(false,[(false,.str r)])]:=by
 refine fnk func46 rfl ?_
 unfold ZG7 at h
 have d:ZbS ⟨#[110,111,116,32]⟩=true:=by decide
 have e:ZbS ⟨#[]⟩=true:=by decide
 simp only[fnS,f46,Zo,go_sem,seval,d,e]
 obtain ⟨_,f,h⟩:=Za h
 refine Zd (ZgO f) ?_
 try simp only[*,go_sem,seval]
 iterate 2 refine yB h (fun _ h=>?_) fun _ h=>?_
 obtain ⟨_,g,h⟩:=Za h
 refine Zd (ZHa g) ?_
 cases h
 try simp only[*,go_sem,seval]
 refine yB h (fun _ h=>?_) fun _ h=>?_
 obtain ⟨_,i,h⟩:=Za h
 refine Zd (ZHa i) ?_
 obtain ⟨a,h⟩:=Zv h
 try simp only[Nat.reduceLeDiff] at a
 try simp only[go_sem] at a
 cases h
 try simp only[*,go_sem,seval]
 obtain ⟨_,j,h⟩:=Za h
 refine Zd (ZIj j) ?_
 obtain ⟨b,h⟩:=Zv h
 try simp only[Nat.reduceLeDiff] at b
 try simp only[go_sem] at b
 obtain ⟨c,h⟩:=Zv h
 try simp only[Nat.reduceLeDiff] at c
 try simp only[go_sem] at c
 iterate 2 (cases h;try simp only[*,go_sem,seval])
end
section
theorem Zhh {x_0:Zl} {b_1:(List Zi)} {facts_2:(List Zc)} {r:Bool} (h:ZcY x_0 b_1 facts_2=some r):Zm prog J0 131 [(true,ZJ x_0),(false,[.sl 162 2 (A0 ZR b_1)]),(false,[.sl 53 2 (A0 Zs facts_2)])] [(false,[(false,.bool r)])]:=by
 refine fnk func131 rfl ?_
 unfold ZcY at h
 simp only[fnS,f131,Zo,go_sem,seval]
 obtain ⟨_,a,h⟩:=Za h
 refine Zd (ZhF a) ?_
 try simp only[*,go_sem,seval]
 refine yB h (fun _ h=>?_) fun _ h=>?_
 obtain ⟨_,b,h⟩:=Za h
 refine Zd (Zas b) ?_
 try simp only[*,go_sem,seval]
 iterate 2 refine yB h (fun _ h=>?_) fun _ h=>?_
 obtain ⟨_,c,h⟩:=Za h
 refine Zd (Zes c) ?_
 cases h
 try simp only[*,go_sem,seval]
 refine yB h (fun _ h=>?_) fun _ h=>?_
 obtain ⟨_,d,h⟩:=Za h
 refine Zd (Zes d) ?_
 cases h
 try simp only[*,go_sem,seval]
 obtain ⟨_,e,h⟩:=Za h
 refine Zd (ZmA e) ?_
 iterate 3 (cases h;try simp only[*,go_sem,seval])
theorem Zoo {l_0:(List Zg)} {r:Bool} (h:Zd7 l_0=some r):Zm prog J0 291 [(false,[.sl 76 4 (A0 ZL l_0)])] [(false,[(false,.bool r)])]:=by
 refine fnk func291 rfl ?_
 unfold Zd7 at h
 simp only[fnS,f291,Zo,go_sem,seval]
 refine yB h (fun _ h=>?_) fun _ h=>?_
 cases h
 try simp only[*,go_sem,seval]
 refine Zh h (fun i _ st=>IV [(0,yM (yW l_0)),(8,yM (yW l_0)),(9,yL l_0.length),(10,yL i)] [] st) [] [] yF yD ?_ ?_
 rintro _ _ ⟨⟩ ⟨_,_,_⟩ _ a b f h d
 simp only[go_sem,seval,Zb] at b
 obtain ⟨⟨g,_,_,_⟩,hn⟩:=b
 subst hn
 have k:=WF.slotL f g (j:=0) rfl
 have:=ZC a
 have:=ZE a
 have:=Zk (ZD a) k
 try simp only[*,go_sem,seval]
 obtain ⟨_,l,h⟩:=Za h
 refine Zd (ZhM l) ?_
 try simp only[*,go_sem,seval]
 refine yB h (fun _ h=>?_) fun _ h=>?_
 obtain ⟨_,m,h⟩:=Za h
 refine Zd (ZoE m) ?_
 try simp only[*,go_sem,seval]
 refine yB h (fun _ h=>?_) fun _ h=>?_
 replace h:=Zr h d
 cases h
 try simp only[*,go_sem,seval]
 refine ⟨_,[],[],(A3 h).symm,yF,?_⟩
 try simp only[*,go_sem,seval]
 replace h:=Zr h d
 cases h
 try simp only[*,go_sem,seval]
 rintro ⟨⟩ ⟨_,_,_⟩ e _ h
 simp only[go_sem,seval,Zb] at e
 obtain ⟨⟨_,_,_,_⟩,hn⟩:=e
 subst hn
 have:=ZB (l_0.length)
 cases h
 try simp only[*,go_sem,seval]
theorem Zl7 {r_0:Zg} {r:Bool} (h:Zc0 r_0=some r):Zm prog J0 292 [(true,ZL r_0)] [(false,[(false,.bool r)])]:=by
 refine fnk func292 rfl ?_
 unfold Zc0 at h
 simp only[fnS,f292,Zo,go_sem,seval]
 obtain ⟨_,l,h⟩:=Za h
 refine Zd (ZhM l) ?_
 try simp only[*,go_sem,seval]
 refine yB h (fun _ h=>?_) fun _ h=>?_
 obtain ⟨_,m,h⟩:=Za h
 refine Zd (ZoM m) ?_
 try simp only[*,go_sem,seval]
 refine yB h (fun _ h=>?_) fun _ h=>?_
 refine Zh h (fun i _ st=>IV [(1,.bp 0 0),(17,yM (yY r_0.cond)),(18,yL r_0.cond.length),(19,yL i)] [zC 76 (ZL r_0)] st) [] [0] yF yD ?_ ?_
 rintro o _ ⟨⟩ ⟨_,_,_⟩ _ a e q h t
 simp only[go_sem,seval,Zb] at e
 obtain ⟨⟨_,u,_,_⟩,_,hn⟩:=e
 subst hn
 have v:=WF.slotL q u (j:=0) rfl
 have:=ZC a
 have:=ZE a
 have:=Zk (ZD a) v
 try simp only[*,go_sem,seval]
 refine yB h (fun _ h=>?_) fun _ h=>?_
 refine ⟨_,[],[0],(A3 h).symm,yF,?_⟩
 try simp only[*,go_sem,seval]
 obtain ⟨w,x,h⟩:=Za h
 refine Zd (ZdR x) ?_
 try simp only[*,go_sem,seval]
 obtain ⟨b,y,h⟩:=Za h
 refine Zd (ZcA y) ?_
 try simp only[*,go_sem,seval]
 refine Zh h (fun i _ st=>IV [(1,.bp 0 0),(5,.p false [.row 1]),(17,yM (yY r_0.cond)),(18,yL r_0.cond.length),(19,yL o),(31,.p false [.row 2]),(32,yL b.length),(33,yL i)] [zC 76 (ZL r_0),.row 9 1 (A0 ZA w) 2,.row 9 1 (A0 ZA b) 2] st) [] [0,193,241] yF yD ?_ ?_
 rintro _ _ ⟨⟩ ⟨_,_,_⟩ _ d f z h A
 simp only[go_sem,seval,Zb] at f
 obtain ⟨⟨_,_,_,_,_,_,_,_⟩,_,_,B,hn⟩:=f
 subst hn
 have C:=WF.rowL z B
 have:=ZC d
 have:=ZE d
 have:=Zk (ZD d) C
 try simp only[*,go_sem,seval]
 obtain ⟨_,D,h⟩:=Za h
 refine Zd (ZaB D) ?_
 try simp only[*,go_sem,seval]
 refine yB h (fun _ h=>?_) fun _ h=>?_
 refine ⟨_,[],[0,1,2],(A3 h).symm,yF,?_⟩
 try simp only[*,go_sem,seval]
 replace h:=Zr h A
 replace h:=Zr h t
 cases h
 try simp only[*,go_sem,seval]
 rintro ⟨⟩ ⟨_,_,_⟩ g _ h
 simp only[go_sem,seval,Zb] at g
 obtain ⟨⟨_,_,_,_,_,_,_,_⟩,_,_,_,hn⟩:=g
 subst hn
 have:=ZB (b.length)
 try simp only[*,go_sem,seval]
 refine ⟨_,[],[0],(A3 h).symm,yF,?_⟩
 try simp only[*,go_sem,seval]
 rintro ⟨⟩ ⟨_,_,_⟩ k _ h
 simp only[go_sem,seval,Zb] at k
 obtain ⟨⟨_,_,_,_⟩,_,hn⟩:=k
 subst hn
 have:=ZB (r_0.cond.length)
 iterate 3 (cases h;try simp only[*,go_sem,seval])
theorem ZeX {append_0:Zg} {r:Bool} (h:ZcZ append_0=some r):Zm prog J0 120 [(true,ZL append_0)] [(false,[(false,.bool r)])]:=by
 refine fnk func120 rfl ?_
 unfold ZcZ at h
 simp only[fnS,f120,Zo,go_sem,seval]
 obtain ⟨_,H,h⟩:=Za h
 refine Zd (Zg3 H) ?_
 try simp only[*,go_sem,seval]
 refine yB h (fun _ h=>?_) fun _ h=>?_
 obtain ⟨_,I,h⟩:=Za h
 refine Zd (XM I) ?_
 try simp only[*,go_sem,seval]
 refine yB h (fun _ h=>?_) fun _ h=>?_
 obtain ⟨_,J,h⟩:=Za h
 refine Zd (XM J) ?_
 try simp only[*,go_sem,seval]
 refine yB h (fun _ h=>?_) fun _ h=>?_
 obtain ⟨_,K,h⟩:=Za h
 refine Zd (XM K) ?_
 try simp only[*,go_sem,seval]
 refine yB h (fun _ h=>?_) fun _ h=>?_
 obtain ⟨e,L,h⟩:=Za h
 refine Zd (ZbG L) ?_
 try simp only[*,go_sem,seval]
 refine Zh h (fun i _ st=>IV [(1,.bp 0 0),(3,.p false [.row 1]),(4,yL i)] [zC 76 (ZL append_0),.row 9 1 (A0 ZA e) 2] st) [] [0,480] yF yD ?_ ?_
 rintro b a ⟨⟩ ⟨_,_,_⟩ _ f o M h d
 simp only[go_sem,seval,Zb] at o
 obtain ⟨⟨_,_,_⟩,N,_,hn⟩:=o
 subst hn
 have O:=WF.boxL M N (j:=2) rfl
 have:=ZC f
 have:=ZE f
 have:=Zk (ZD f) O
 try simp only[*,go_sem,seval]
 obtain ⟨_,P,h⟩:=Za h
 refine Zd (ZgO P) ?_
 try simp only[*,go_sem,seval]
 iterate 3 refine yB h (fun _ h=>?_) fun _ h=>?_
 replace h:=Zr h d
 cases h
 try simp only[*,go_sem,seval]
 obtain ⟨Q,R,h⟩:=Za h
 refine Zd (ZbG R) ?_
 try simp only[*,go_sem,seval]
 obtain ⟨q,S,h⟩:=Za h
 refine Zd (ZaP S) ?_
 try simp only[*,go_sem,seval]
 refine Zh h (fun i _ st=>IV [(1,.bp 0 0),(3,.p false [.row 1]),(4,yL b),(5,.bp 2 0),(6,.p false [.row 3]),(7,.p false [.row 4]),(8,yL i),(58,yL b),(59,yM (.bool (((b:Nat):Int)==0))),(60,yM (.bool (((b:Nat):Int)==0))),(61,.bp 2 0),(62,yM (.int .i64 a.kind)),(63,yM (.bool (a.kind != 1))),(64,yM (.bool (a.kind != 1)))] [zC 76 (ZL append_0),.row 9 1 (A0 ZA e) 2,zC 80 (ZJ a),.row 9 1 (A0 ZA Q) 2,.row 9 1 (A0 ZA q) 2] st) [] [0,1,162,418,466] yF yD ?_ ?_
 rintro _ _ ⟨⟩ ⟨_,_,_⟩ _ g t T h u
 simp only[go_sem,seval,Zb] at t
 obtain ⟨⟨_,_,_,_,_,_,_,_,_,_,_,_,_,_⟩,_,_,_,_,U,hn⟩:=t
 subst hn
 have V:=WF.rowL T U
 have:=ZC g
 have:=ZE g
 have:=Zk (ZD g) V
 try simp only[*,go_sem,seval]
 obtain ⟨_,W,h⟩:=Za h
 refine Zd (YQ W) ?_
 try simp only[*,go_sem,seval]
 obtain ⟨_,X,h⟩:=Za h
 refine Zd (Zhi X) ?_
 try simp only[*,go_sem,seval]
 iterate 3 refine yB h (fun _ h=>?_) fun _ h=>?_
 refine ⟨_,[],[0,1,2,3,4],(A3 h).symm,yF,?_⟩
 try simp only[*,go_sem,seval]
 refine ⟨_,[],[0,1,2,3,4],(A3 h).symm,yF,?_⟩
 try simp only[*,go_sem,seval]
 replace h:=Zr h u
 replace h:=Zr h d
 cases h
 try simp only[*,go_sem,seval]
 iterate 2 refine yB h (fun _ h=>?_) fun _ h=>?_
 refine ⟨_,[],[0,1,2,3,4],(A3 h).symm,yF,?_⟩
 try simp only[*,go_sem,seval]
 obtain ⟨_,Y,h⟩:=Za h
 refine Zd (Zfu Y) ?_
 try simp only[*,go_sem,seval]
 refine yB h (fun _ h=>?_) fun _ h=>?_
 replace h:=Zr h u
 replace h:=Zr h d
 cases h
 try simp only[*,go_sem,seval]
 refine ⟨_,[],[0,1,2,3,4],(A3 h).symm,yF,?_⟩
 try simp only[*,go_sem,seval]
 refine ⟨_,[],[0,1,2,3,4],(A3 h).symm,yF,?_⟩
 try simp only[*,go_sem,seval]
 rintro ⟨⟩ ⟨_,_,_⟩ v _ h
 simp only[go_sem,seval,Zb] at v
 obtain ⟨⟨_,_,_,_,_,_,_,_,_,_,_,_,_,_⟩,_,_,_,_,_,hn⟩:=v
 subst hn
 have:=ZB (q.length)
 try simp only[*,go_sem,seval]
 refine ⟨_,[],[0,1],(A3 h).symm,yF,?_⟩
 try simp only[*,go_sem,seval]
 obtain ⟨Z,aa,h⟩:=Za h
 refine Zd (ZbG aa) ?_
 try simp only[*,go_sem,seval]
 obtain ⟨w,ab,h⟩:=Za h
 refine Zd (ZaP ab) ?_
 try simp only[*,go_sem,seval]
 refine Zh h (fun i _ st=>IV [(1,.bp 0 0),(3,.p false [.row 1]),(4,yL b),(5,.bp 2 0),(6,.p false [.row 3]),(7,.p false [.row 4]),(8,yL i),(58,yL b),(59,yM (.bool (((b:Nat):Int)==0))),(60,yM (.bool (((b:Nat):Int)==0))),(64,yM (.bool false))] [zC 76 (ZL append_0),.row 9 1 (A0 ZA e) 2,zC 80 (ZJ a),.row 9 1 (A0 ZA Z) 2,.row 9 1 (A0 ZA w) 2] st) [] [0,1,162,418,466] yF yD ?_ ?_
 rintro _ _ ⟨⟩ ⟨_,_,_⟩ _ k x ac h y
 simp only[go_sem,seval,Zb] at x
 obtain ⟨⟨_,_,_,_,_,_,_,_,_,_,_⟩,_,_,_,_,ad,hn⟩:=x
 subst hn
 have ae:=WF.rowL ac ad
 have:=ZC k
 have:=ZE k
 have:=Zk (ZD k) ae
 try simp only[*,go_sem,seval]
 obtain ⟨_,af,h⟩:=Za h
 refine Zd (YQ af) ?_
 try simp only[*,go_sem,seval]
 obtain ⟨_,ag,h⟩:=Za h
 refine Zd (Zhi ag) ?_
 try simp only[*,go_sem,seval]
 iterate 3 refine yB h (fun _ h=>?_) fun _ h=>?_
 refine ⟨_,[],[0,1,2,3,4],(A3 h).symm,yF,?_⟩
 try simp only[*,go_sem,seval]
 refine ⟨_,[],[0,1,2,3,4],(A3 h).symm,yF,?_⟩
 try simp only[*,go_sem,seval]
 replace h:=Zr h y
 replace h:=Zr h d
 cases h
 try simp only[*,go_sem,seval]
 iterate 2 refine yB h (fun _ h=>?_) fun _ h=>?_
 refine ⟨_,[],[0,1,2,3,4],(A3 h).symm,yF,?_⟩
 try simp only[*,go_sem,seval]
 obtain ⟨_,ah,h⟩:=Za h
 refine Zd (Zfu ah) ?_
 try simp only[*,go_sem,seval]
 refine yB h (fun _ h=>?_) fun _ h=>?_
 replace h:=Zr h y
 replace h:=Zr h d
 cases h
 try simp only[*,go_sem,seval]
 refine ⟨_,[],[0,1,2,3,4],(A3 h).symm,yF,?_⟩
 try simp only[*,go_sem,seval]
 refine ⟨_,[],[0,1,2,3,4],(A3 h).symm,yF,?_⟩
 try simp only[*,go_sem,seval]
 rintro ⟨⟩ ⟨_,_,_⟩ z _ h
 simp only[go_sem,seval,Zb] at z
 obtain ⟨⟨_,_,_,_,_,_,_,_,_,_,_⟩,_,_,_,_,_,hn⟩:=z
 subst hn
 have:=ZB (w.length)
 try simp only[*,go_sem,seval]
 refine ⟨_,[],[0,1],(A3 h).symm,yF,?_⟩
 try simp only[*,go_sem,seval]
 replace h:=Zr h d
 cases h
 try simp only[*,go_sem,seval]
 rintro ⟨⟩ ⟨_,_,_⟩ A _ h
 simp only[go_sem,seval,Zb] at A
 obtain ⟨⟨_,_,_⟩,_,_,hn⟩:=A
 subst hn
 have:=ZB (append_0.cond.length)
 try simp only[*,go_sem,seval]
 refine Zh h (fun i _ st=>IV [(1,.bp 0 0),(3,.p false [.row 1]),(10,yL i)] [zC 76 (ZL append_0),.row 9 1 (A0 ZA e) 2] st) [] [0,1] yF yD ?_ ?_
 rintro ai _ ⟨⟩ ⟨_,_,_⟩ _ l B aj h C
 simp only[go_sem,seval,Zb] at B
 obtain ⟨⟨_,_,_⟩,ak,_,hn⟩:=B
 subst hn
 have al:=WF.boxL aj ak (j:=3) rfl
 have:=ZC l
 have:=ZE l
 have:=Zk (ZD l) al
 try simp only[*,go_sem,seval]
 obtain ⟨_,am,h⟩:=Za h
 refine Zd (Zn1 am) ?_
 try simp only[*,go_sem,seval]
 refine yB h (fun _ h=>?_) fun _ h=>?_
 obtain ⟨D,an,h⟩:=Za h
 refine Zd (Zc6 an) ?_
 try simp only[*,go_sem,seval]
 refine Zh h (fun i _ st=>IV [(1,.bp 0 0),(3,.p false [.row 1]),(10,yL ai),(11,.p false [.row 2]),(12,yL i)] [zC 76 (ZL append_0),.row 9 1 (A0 ZA e) 2,.row 9 1 (A0 ZA D) 2] st) [] [0,1,290] yF yD ?_ ?_
 rintro _ _ ⟨⟩ ⟨_,_,_⟩ _ m E ao h ap
 simp only[go_sem,seval,Zb] at E
 obtain ⟨⟨_,_,_,_,_⟩,_,_,aq,hn⟩:=E
 subst hn
 have ar:=WF.rowL ao aq
 have:=ZC m
 have:=ZE m
 have:=Zk (ZD m) ar
 try simp only[*,go_sem,seval]
 obtain ⟨_,au,h⟩:=Za h
 refine Zd (YQ au) ?_
 try simp only[*,go_sem,seval]
 refine yB h (fun _ h=>?_) fun _ h=>?_
 refine ⟨_,[],[0,1,2],(A3 h).symm,yF,?_⟩
 try simp only[*,go_sem,seval]
 replace h:=Zr h ap
 replace h:=Zr h C
 cases h
 try simp only[*,go_sem,seval]
 rintro ⟨⟩ ⟨_,_,_⟩ F _ h
 simp only[go_sem,seval,Zb] at F
 obtain ⟨⟨_,_,_,_,_⟩,_,_,_,hn⟩:=F
 subst hn
 have:=ZB (D.length)
 try simp only[*,go_sem,seval]
 refine ⟨_,[],[0,1],(A3 h).symm,yF,?_⟩
 try simp only[*,go_sem,seval]
 replace h:=Zr h C
 cases h
 try simp only[*,go_sem,seval]
 rintro ⟨⟩ ⟨_,_,_⟩ G _ h
 simp only[go_sem,seval,Zb] at G
 obtain ⟨⟨_,_,_⟩,_,_,hn⟩:=G
 subst hn
 have:=ZB (append_0.thn.length)
 try simp only[*,go_sem,seval]
 obtain ⟨_,av,h⟩:=Za h
 refine Zd (Zof av) ?_
 iterate 5 (cases h;try simp only[*,go_sem,seval])
theorem Zmo {x_0:Zl} {b_1:(List Zi)} {r:Bool} (h:ZcI x_0 b_1=some r):Zm prog J0 284 [(true,ZJ x_0),(false,[.sl 162 2 (A0 ZR b_1)])] [(false,[(false,.bool r)])]:=by
 refine fnk func284 rfl ?_
 unfold ZcI at h
 simp only[fnS,f284,Zo,go_sem,seval]
 obtain ⟨_,a,h⟩:=Za h
 refine Zd (Zhi a) ?_
 try simp only[*,go_sem,seval]
 refine yB h (fun _ h=>?_) fun _ h=>?_
 obtain ⟨_,b,h⟩:=Za h
 refine Zd (Zan b) ?_
 try simp only[*,go_sem,seval]
 refine yB h (fun _ h=>?_) fun _ h=>?_
 obtain ⟨_,c,h⟩:=Za h
 refine Zd (Zdu c) ?_
 try simp only[*,go_sem,seval]
 obtain ⟨_,d,h⟩:=Za h
 refine Zd (Zdu d) ?_
 try simp only[*,go_sem,seval]
 iterate 3 refine yB h (fun _ h=>?_) fun _ h=>?_
 cases h
 try simp only[*,go_sem,seval]
 refine yB h (fun _ h=>?_) fun _ h=>?_
 cases h
 try simp only[*,go_sem,seval]
 obtain ⟨_,e,h⟩:=Za h
 refine Zd (Ziy e) ?_
 try simp only[*,go_sem,seval]
 refine yB h (fun _ h=>?_) fun _ h=>?_
 obtain ⟨_,f,h⟩:=Za h
 refine Zd (Ziy f) ?_
 try simp only[*,go_sem,seval]
 refine yB h (fun _ h=>?_) fun _ h=>?_
 obtain ⟨_,g,h⟩:=Za h
 refine Zd (ZeI g) ?_
 iterate 7 (cases h;try simp only[*,go_sem,seval])
theorem Zul {l_0:(List Zc)} {b_1:Zt} {r:(List Zc)} (h:ZjI l_0 b_1=some r):Zm prog J0 103 [(false,[.sl 53 2 (A0 Zs l_0)]),(true,Qu b_1)] [(false,[(false,.sl 53 2 (A0 Zs r))])]:=by
 refine fnk func103 rfl ?_
 unfold ZjI at h
 simp only[fnS,f103,Zo,go_sem,seval]
 obtain ⟨f,g,h⟩:=Za h
 refine Zd (Zog g) ?_
 try simp only[*,go_sem,seval]
 refine Zh h (fun i a st=>IV [(0,yM (yT l_0)),(5,.p false [.row 0]),(6,.p false [.row 1]),(7,yL i)] [.row 53 2 (A0 Zs a) 2,.row 4 1 (A0 Ze4 f) 2] st) [] [32,80] yF yD ?_ ?_
 rintro _ _ a ⟨_,_,_⟩ _ b d k h l
 simp only[go_sem,seval,Zb] at d
 obtain ⟨⟨m,_,_,_⟩,_,_,hn⟩:=d
 subst hn
 have o:=WF.slotL k m (j:=0) rfl
 have:=ZC b
 have:=ZE b
 have:=Zk (ZD b) o
 try simp only[*,go_sem,seval]
 refine yB h (fun _ h=>?_) fun _ h=>?_
 obtain ⟨_,h⟩:=Zv h
 obtain ⟨_,_,h⟩:=Za h
 try simp only[*,go_sem,seval]
 refine yB h (fun _ h=>?_) fun _ h=>?_
 obtain ⟨_,q,h⟩:=Za h
 refine Zd (Xr q) ?_
 obtain ⟨t,h⟩:=Zv h
 try simp only[Nat.reduceLeDiff] at t
 try simp only[*,go_sem,seval]
 refine ⟨_,[],[338,1],(A3 h).symm,yF,?_⟩
 try simp only[*,go_sem,seval]
 refine ⟨_,[],[0,1],(A3 h).symm,yF,?_⟩
 try simp only[*,go_sem,seval]
 replace h:=Zr h l
 cases h
 try simp only[*,go_sem,seval]
 rintro a ⟨_,_,_⟩ e _ h
 simp only[go_sem,seval,Zb] at e
 obtain ⟨⟨_,_,_,_⟩,_,_,hn⟩:=e
 subst hn
 have:=ZB (l_0.length)
 cases h
 try simp only[*,go_sem,seval]
end
section
theorem Ziw {append_0:(List Zl)} {String_1:(List Zc)} {r:(List Zq)} (h:Zao append_0 String_1=some r):Zm prog J0 70 [(false,[.sl 80 5 (A0 ZJ append_0)]),(false,[.sl 53 2 (A0 Zs String_1)])] [(false,[(true,.sl 111 2 (A0 YU r))])]:=by
 refine fnk func70 rfl ?_
 unfold Zao at h
 simp only[fnS,f70,Zo,go_sem,seval]
 refine Zh h (fun i b st=>IV [(1,yM (yT String_1)),(5,.p false [.row 0]),(17,yM (yY append_0)),(18,yL append_0.length),(19,yL i)] [.row 111 2 (A0 YU b) 1] st) [(true,32,1)] [32] yF yD ?_ ?_
 rintro l a b ⟨_,_,_⟩ _ d m x h _
 simp only[go_sem,seval,Zb] at m
 obtain ⟨⟨_,_,y,_,_⟩,_,hn⟩:=m
 subst hn
 have z:=WF.slotL x y (j:=0) rfl
 have:=ZC d
 have:=ZE d
 have:=Zk (ZD d) z
 try simp only[*,go_sem,seval]
 refine Zh h (fun i e st=>IV [(1,yM (yT String_1)),(7,.bp 0 0),(8,.p false [.row 1]),(17,yM (yY append_0)),(18,yL append_0.length),(19,yL l),(23,.p false [.row 2]),(24,yL b.length),(25,yL i)] [zC 80 (ZJ a),.row 111 2 (A0 YU e) 1,.row 111 2 (A0 YU b) 1] st) [(false,8,0),(true,145,1)] [49,145,0] yF yD ?_ ?_
 rintro A o e ⟨_,_,_⟩ _ f q B h _
 simp only[go_sem,seval,Zb] at q
 obtain ⟨⟨_,_,_,_,_,_,_,_,_⟩,_,_,C,hn⟩:=q
 subst hn
 have D:=WF.rowL B C
 have:=ZC f
 have:=ZE f
 have:=Zk (ZD f) D
 try simp only[*,go_sem,seval]
 refine yB h (fun _ h=>?_) fun _ h=>?_
 obtain ⟨_,E,h⟩:=Za h
 refine Zd (Zhh E) ?_
 try simp only[*,go_sem,seval]
 refine yB h (fun _ h=>?_) fun _ h=>?_
 obtain ⟨F,h⟩:=Zv h
 try simp only[Nat.reduceLeDiff] at F
 try simp only[*,go_sem,seval]
 refine ⟨_,[],[0,259,2],(A3 h).symm,yF,?_⟩
 try simp only[*,go_sem,seval]
 refine ⟨_,[],[0,1,2],(A3 h).symm,yF,?_⟩
 try simp only[*,go_sem,seval]
 refine Zh h (fun i g st=>IV [(1,yM (yT String_1)),(7,.bp 0 0),(8,.p false [.row 1]),(10,.bp 2 0),(17,yM (yY append_0)),(18,yL append_0.length),(19,yL l),(23,.p false [.row 3]),(24,yL b.length),(25,yL A),(41,yM (yT String_1)),(42,yL String_1.length),(43,yL i)] [zC 80 (ZJ a),.row 111 2 (A0 YU g) 1,zC 111 (YU o),.row 111 2 (A0 YU b) 1] st) [] [0,1,51,2] yF yD ?_ ?_
 rintro _ _ g ⟨_,_,_⟩ _ k t G h _
 simp only[go_sem,seval,Zb] at t
 obtain ⟨⟨H,_,_,_,_,_,_,_,_,_,_,_,_⟩,_,_,_,_,hn⟩:=t
 subst hn
 have I:=WF.slotL G H (j:=0) rfl
 have:=ZC k
 have:=ZE k
 have:=Zk (ZD k) I
 try simp only[*,go_sem,seval]
 obtain ⟨_,J,h⟩:=Za h
 refine Zd (ZbH J) ?_
 try simp only[*,go_sem,seval]
 refine yB h (fun _ h=>?_) fun _ h=>?_
 obtain ⟨_,K,h⟩:=Za h
 refine Zd (ZdW K) ?_
 try simp only[*,go_sem,seval]
 obtain ⟨_,L,h⟩:=Za h
 refine Zd (YO L) ?_
 obtain ⟨M,h⟩:=Zv h
 try simp only[Nat.reduceLeDiff] at M
 obtain ⟨N,h⟩:=Zv h
 try simp only[Nat.reduceLeDiff] at N
 try simp only[*,go_sem,seval]
 refine ⟨_,[],[0,452,2,3],(A3 h).symm,yF,?_⟩
 try simp only[*,go_sem,seval]
 refine ⟨_,[],[0,1,2,3],(A3 h).symm,yF,?_⟩
 try simp only[*,go_sem,seval]
 rintro g ⟨_,_,_⟩ u _ h
 simp only[go_sem,seval,Zb] at u
 obtain ⟨⟨_,_,_,_,_,_,_,_,_,_,_,_,_⟩,_,_,_,_,hn⟩:=u
 subst hn
 have:=ZB (String_1.length)
 try simp only[*,go_sem,seval]
 refine ⟨_,[],[0,1,3],(A3 h).symm,yF,?_⟩
 try simp only[*,go_sem,seval]
 rintro e ⟨_,_,_⟩ v _ h
 simp only[go_sem,seval,Zb] at v
 obtain ⟨⟨_,_,_,_,_,_,_,_,_⟩,_,_,_,hn⟩:=v
 subst hn
 have:=ZB (b.length)
 try simp only[*,go_sem,seval]
 refine ⟨_,[],[1],(A3 h).symm,yF,?_⟩
 try simp only[*,go_sem,seval]
 rintro b ⟨_,_,_⟩ w _ h
 simp only[go_sem,seval,Zb] at w
 obtain ⟨⟨_,_,_,_,_⟩,_,hn⟩:=w
 subst hn
 have:=ZB (append_0.length)
 cases h
 try simp only[*,go_sem,seval]
theorem ZlT {rules_0:(List Zg)} {r:Bool} (h:ZbT rules_0=some r):Zm prog J0 255 [(false,[.sl 76 4 (A0 ZL rules_0)])] [(false,[(false,.bool r)])]:=by
 refine fnk func255 rfl ?_
 unfold ZbT at h
 simp only[fnS,f255,Zo,go_sem,seval]
 obtain ⟨_,y,h⟩:=Za h
 refine Zd (Zoo y) ?_
 try simp only[*,go_sem,seval]
 refine yB h (fun _ h=>?_) fun _ h=>?_
 refine Zh h (fun i _ st=>IV [(0,yM (yW rules_0)),(13,yM (yW rules_0)),(14,yL rules_0.length),(15,yL i)] [] st) [] [] yF yD ?_ ?_
 rintro l a ⟨⟩ ⟨_,_,_⟩ _ d m z h e
 simp only[go_sem,seval,Zb] at m
 obtain ⟨⟨A,_,_,_⟩,hn⟩:=m
 subst hn
 have B:=WF.slotL z A (j:=0) rfl
 have:=ZC d
 have:=ZE d
 have:=Zk (ZD d) B
 try simp only[*,go_sem,seval]
 obtain ⟨_,C,h⟩:=Za h
 refine Zd (Zl7 C) ?_
 try simp only[*,go_sem,seval]
 refine yB h (fun _ h=>?_) fun _ h=>?_
 refine Zh h (fun i _ st=>IV [(0,yM (yW rules_0)),(4,.bp 0 0),(13,yM (yW rules_0)),(14,yL rules_0.length),(15,yL l),(23,yM (yY a.cond)),(24,yL a.cond.length),(25,yL i)] [zC 76 (ZL a)] st) [] [48] yF yD ?_ ?_
 rintro D b ⟨⟩ ⟨_,_,_⟩ _ f o E h q
 simp only[go_sem,seval,Zb] at o
 obtain ⟨⟨_,_,_,_,_,F,_,_⟩,_,hn⟩:=o
 subst hn
 have G:=WF.slotL E F (j:=0) rfl
 have:=ZC f
 have:=ZE f
 have:=Zk (ZD f) G
 try simp only[*,go_sem,seval]
 refine yB h (fun _ h=>?_) fun _ h=>?_
 refine ⟨_,[],[0],(A3 h).symm,yF,?_⟩
 try simp only[*,go_sem,seval]
 obtain ⟨H,I,h⟩:=Za h
 refine ZDu (ZoC I) ?_
 try simp only[*,go_sem,seval]
 obtain ⟨g,J,h⟩:=Za h
 refine Zd (Zit J) ?_
 try simp only[*,go_sem,seval]
 refine Zh h (fun i _ st=>IV [(0,yM (yW rules_0)),(4,.bp 0 0),(6,.bp 1 0),(7,.p false [.row 2]),(13,yM (yW rules_0)),(14,yL rules_0.length),(15,yL l),(23,yM (yY a.cond)),(24,yL a.cond.length),(25,yL D),(38,.p false [.row 3]),(39,yL g.length),(40,yL i)] [zC 76 (ZL a),zC 80 (ZJ b),.map .str .bool (A0 eSB H),.row 9 1 (A0 ZA g) 2] st) [] [0,49,193,241] yF yD ?_ ?_
 rintro _ _ ⟨⟩ ⟨_,_,_⟩ _ k t K h u
 simp only[go_sem,seval,Zb] at t
 obtain ⟨⟨_,_,_,_,_,_,_,_,_,_,_,_,_⟩,_,_,_,L,hn⟩:=t
 subst hn
 have M:=WF.rowL K L
 have:=ZC k
 have:=ZE k
 have:=Zk (ZD k) M
 try simp only[*,go_sem,seval]
 refine yB h (fun _ h=>?_) fun _ h=>?_
 replace h:=Zr h u
 replace h:=Zr h q
 replace h:=Zr h e
 cases h
 try simp only[*,go_sem,seval]
 refine yB h (fun _ h=>?_) fun _ h=>?_
 replace h:=Zr h u
 replace h:=Zr h q
 replace h:=Zr h e
 cases h
 try simp only[*,go_sem,seval]
 refine ⟨_,[],[0,1,2,3],(A3 h).symm,yF,?_⟩
 try simp only[*,go_sem,seval]
 rintro ⟨⟩ ⟨_,_,_⟩ v _ h
 simp only[go_sem,seval,Zb] at v
 obtain ⟨⟨_,_,_,_,_,_,_,_,_,_,_,_,_⟩,_,_,_,_,hn⟩:=v
 subst hn
 have:=ZB (g.length)
 try simp only[*,go_sem,seval]
 refine ⟨_,[],[0],(A3 h).symm,yF,?_⟩
 try simp only[*,go_sem,seval]
 rintro ⟨⟩ ⟨_,_,_⟩ w _ h
 simp only[go_sem,seval,Zb] at w
 obtain ⟨⟨_,_,_,_,_,_,_,_⟩,_,hn⟩:=w
 subst hn
 have:=ZB (a.cond.length)
 try simp only[*,go_sem,seval]
 refine ⟨_,[],[],(A3 h).symm,yF,?_⟩
 try simp only[*,go_sem,seval]
 replace h:=Zr h e
 cases h
 try simp only[*,go_sem,seval]
 rintro ⟨⟩ ⟨_,_,_⟩ x _ h
 simp only[go_sem,seval,Zb] at x
 obtain ⟨⟨_,_,_,_⟩,hn⟩:=x
 subst hn
 have:=ZB (rules_0.length)
 iterate 2 (cases h;try simp only[*,go_sem,seval])
theorem Znz {x_0:Zl} {b_1:(List Zi)} {facts_2:(List Zc)} {r:Bool} (h:ZcP x_0 b_1 facts_2=some r):Zm prog J0 243 [(true,ZJ x_0),(false,[.sl 162 2 (A0 ZR b_1)]),(false,[.sl 53 2 (A0 Zs facts_2)])] [(false,[(false,.bool r)])]:=by
 refine fnk func243 rfl ?_
 unfold ZcP at h
 simp only[fnS,f243,Zo,go_sem,seval]
 obtain ⟨_,a,h⟩:=Za h
 refine Zd (ZgO a) ?_
 try simp only[*,go_sem,seval]
 refine yB h (fun _ h=>?_) fun _ h=>?_
 obtain ⟨_,b,h⟩:=Za h
 refine Zd (Zan b) ?_
 try simp only[*,go_sem,seval]
 iterate 2 refine yB h (fun _ h=>?_) fun _ h=>?_
 obtain ⟨_,c,h⟩:=Za h
 refine Zd (Zd2 c) ?_
 cases h
 try simp only[*,go_sem,seval]
 refine yB h (fun _ h=>?_) fun _ h=>?_
 obtain ⟨_,d,h⟩:=Za h
 refine Zd (Zd2 d) ?_
 cases h
 try simp only[*,go_sem,seval]
 obtain ⟨_,e,h⟩:=Za h
 refine Zd (Zmo e) ?_
 iterate 3 (cases h;try simp only[*,go_sem,seval])
theorem Znx {r_0:Zg} {r:Bool} (h:Zc1 r_0=some r):Zm prog J0 271 [(true,ZL r_0)] [(false,[(false,.bool r)])]:=by
 refine fnk func271 rfl ?_
 unfold Zc1 at h
 simp only[fnS,f271,Zo,go_sem,seval]
 obtain ⟨_,k,h⟩:=Za h
 refine Zd (ZeX k) ?_
 try simp only[*,go_sem,seval]
 refine yB h (fun _ h=>?_) fun _ h=>?_
 refine Zh h (fun i _ st=>IV [(1,.bp 0 0),(3,yL i)] [zC 76 (ZL r_0)] st) [] [0] yF yD ?_ ?_
 rintro _ _ ⟨⟩ ⟨_,_,_⟩ _ a d l h m
 simp only[go_sem,seval,Zb] at d
 obtain ⟨⟨_,_⟩,o,hn⟩:=d
 subst hn
 have q:=WF.boxL l o (j:=2) rfl
 have:=ZC a
 have:=ZE a
 have:=Zk (ZD a) q
 try simp only[*,go_sem,seval]
 refine yB h (fun _ h=>?_) fun _ h=>?_
 obtain ⟨_,t,h⟩:=Za h
 refine Zd (ZaP t) ?_
 try simp only[*,go_sem,seval]
 obtain ⟨_,u,h⟩:=Za h
 refine Zd (ZbG u) ?_
 try simp only[*,go_sem,seval]
 obtain ⟨_,v,h⟩:=Za h
 refine Zd (Zop v) ?_
 try simp only[*,go_sem,seval]
 refine yB h (fun _ h=>?_) fun _ h=>?_
 refine ⟨_,[],[0],(A3 h).symm,yF,?_⟩
 try simp only[*,go_sem,seval]
 replace h:=Zr h m
 cases h
 try simp only[*,go_sem,seval]
 refine ⟨_,[],[0],(A3 h).symm,yF,?_⟩
 try simp only[*,go_sem,seval]
 rintro ⟨⟩ ⟨_,_,_⟩ e _ h
 simp only[go_sem,seval,Zb] at e
 obtain ⟨⟨_,_⟩,_,hn⟩:=e
 subst hn
 have:=ZB (r_0.cond.length)
 try simp only[*,go_sem,seval]
 refine Zh h (fun i _ st=>IV [(1,.bp 0 0),(4,yL i)] [zC 76 (ZL r_0)] st) [] [0] yF yD ?_ ?_
 rintro _ _ ⟨⟩ ⟨_,_,_⟩ _ b f w h x
 simp only[go_sem,seval,Zb] at f
 obtain ⟨⟨_,_⟩,y,hn⟩:=f
 subst hn
 have z:=WF.boxL w y (j:=3) rfl
 have:=ZC b
 have:=ZE b
 have:=Zk (ZD b) z
 try simp only[*,go_sem,seval]
 refine yB h (fun _ h=>?_) fun _ h=>?_
 replace h:=Zr h x
 cases h
 try simp only[*,go_sem,seval]
 refine ⟨_,[],[0],(A3 h).symm,yF,?_⟩
 try simp only[*,go_sem,seval]
 rintro ⟨⟩ ⟨_,_,_⟩ g _ h
 simp only[go_sem,seval,Zb] at g
 obtain ⟨⟨_,_⟩,_,hn⟩:=g
 subst hn
 have:=ZB (r_0.thn.length)
 iterate 2 (cases h;try simp only[*,go_sem,seval])
theorem Zn8 {l_0:(List Zg)} {r:Bool} (h:Zd4 l_0=some r):Zm prog J0 274 [(false,[.sl 76 4 (A0 ZL l_0)])] [(false,[(false,.bool r)])]:=by
 refine fnk func274 rfl ?_
 unfold Zd4 at h
 simp only[fnS,f274,Zo,go_sem,seval]
 refine Zh h (fun i _ st=>IV [(0,yM (yW l_0)),(3,yL i)] [] st) [] [] yF yD ?_ ?_
 rintro _ _ ⟨⟩ ⟨_,_,_⟩ _ a b f h d
 simp only[go_sem,seval,Zb] at b
 obtain ⟨⟨g,_⟩,hn⟩:=b
 subst hn
 have k:=WF.slotL f g (j:=0) rfl
 have:=ZC a
 have:=ZE a
 have:=Zk (ZD a) k
 try simp only[*,go_sem,seval]
 obtain ⟨_,l,h⟩:=Za h
 refine Zd (ZeX l) ?_
 try simp only[*,go_sem,seval]
 refine yB h (fun _ h=>?_) fun _ h=>?_
 obtain ⟨_,m,h⟩:=Za h
 refine Zd (Zob m) ?_
 try simp only[*,go_sem,seval]
 refine yB h (fun _ h=>?_) fun _ h=>?_
 replace h:=Zr h d
 cases h
 try simp only[*,go_sem,seval]
 refine ⟨_,[],[],(A3 h).symm,yF,?_⟩
 try simp only[*,go_sem,seval]
 replace h:=Zr h d
 cases h
 try simp only[*,go_sem,seval]
 rintro ⟨⟩ ⟨_,_,_⟩ e _ h
 simp only[go_sem,seval,Zb] at e
 obtain ⟨⟨_,_⟩,hn⟩:=e
 subst hn
 have:=ZB (l_0.length)
 cases h
 try simp only[*,go_sem,seval]
end
section
theorem Zjc {a:(List Zg)} {String_1:(List Zc)} {r:((List Zc) × Bool)} (h:YB a String_1=some r):Zm prog J0 215 [(false,[.sl 76 4 (A0 ZL a)]),(false,[.sl 53 2 (A0 Zs String_1)])] [(false,[(false,.sl 53 2 (A0 Zs r.1))]),(false,[(false,.bool r.2)])]:=by
 refine fnn 4 func215 rfl ?_
 unfold YB at h
 simp only[fnN,f215,Zo,go_sem,seval]
 obtain ⟨_,H,h⟩:=Za h
 refine Zd (ZlT H) ?_
 try simp only[*,go_sem,seval]
 refine yB h (fun _ h=>?_) fun _ h=>?_
 obtain ⟨_,I,h⟩:=Za h
 refine Zd (Zom I) ?_
 try simp only[*,go_sem,seval]
 refine yB h (fun _ h=>?_) fun _ h=>?_
 obtain ⟨_,J,h⟩:=Za h
 refine Zd (ZdW J) ?_
 try simp only[*,go_sem,seval]
 refine Xj h (fun s st=>match s with | (v,w)=>IV [(0,yM (yW a)),(6,.p false [.n (yT v)]),(7,yM (.bool w))] [] st) [(false,6,4096)] [] yF yD ?_
 rintro ⟨v,w⟩ ⟨_,_,_⟩ _ x _ h y
 simp only[go_sem,seval,Zb] at x
 obtain ⟨⟨_,_,_⟩,hn⟩:=x
 subst hn
 try simp only[*,go_sem,seval]
 refine yB h (fun _ h=>?_) fun _ h=>?_
 refine Zh h (fun i s st=>match s with | (f,g)=>IV [(0,yM (yW a)),(6,.p false [.n (yT f)]),(7,yM (.bool g)),(27,yM (yW a)),(28,yL a.length),(29,yL i)] [] st) [] [] yF yD ?_ ?_
 rintro z d ⟨f,g⟩ ⟨_,_,_⟩ _ k A K h L
 simp only[go_sem,seval,Zb] at A
 obtain ⟨⟨M,_,_,_,_,_⟩,hn⟩:=A
 subst hn
 have N:=WF.slotL K M (j:=0) rfl
 have:=ZC k
 have:=ZE k
 have:=Zk (ZD k) N
 try simp only[*,go_sem,seval]
 obtain ⟨_,O,h⟩:=Za h
 refine ZnA (ZfN O) ?_
 try simp only[*,go_sem,seval]
 obtain ⟨e,P,h⟩:=Za h
 refine ZnA (Ziw P) ?_
 try simp only[*,go_sem,seval]
 refine Zh h (fun i s st=>match s with | (l,m)=>IV [(0,yM (yW a)),(6,.p false [.n (yT l)]),(7,yM (.bool m)),(9,.bp 0 0),(27,yM (yW a)),(28,yL a.length),(29,yL z),(36,yM (zB e)),(37,yL e.length),(38,yL i)] [zC 76 (ZL d)] st) [] [48] yF yD ?_ ?_
 rintro Q B ⟨l,m⟩ ⟨_,_,_⟩ _ o C R h S
 simp only[go_sem,seval,Zb] at C
 obtain ⟨⟨_,_,_,_,_,_,_,T,_,_⟩,_,hn⟩:=C
 subst hn
 have U:=WF.slotL R T (j:=0) rfl
 have:=ZC o
 have:=ZE o
 have:=Zk (ZD o) U
 try simp only[*,go_sem,seval]
 refine Zh h (fun i s st=>match s with | (q,t)=>IV [(0,yM (yW a)),(6,.p false [.n (yT q)]),(7,yM (.bool t)),(9,.bp 0 0),(11,.bp 1 0),(27,yM (yW a)),(28,yL a.length),(29,yL z),(36,yM (zB e)),(37,yL e.length),(38,yL Q),(43,yM (yZ d.thn)),(44,yL d.thn.length),(45,yL i)] [zC 76 (ZL d),zC 111 (YU B)] st) [] [0,49] yF yD ?_ ?_
 rintro _ _ ⟨q,t⟩ ⟨_,_,_⟩ _ u D V h W
 simp only[go_sem,seval,Zb] at D
 obtain ⟨⟨_,_,_,_,_,_,_,_,_,_,_,X,_,_⟩,_,_,hn⟩:=D
 subst hn
 have Y:=WF.slotL V X (j:=0) rfl
 have:=ZC u
 have:=ZE u
 have:=Zk (ZD u) Y
 try simp only[*,go_sem,seval]
 obtain ⟨_,Z,h⟩:=Za h
 refine Zd (Zfi Z) ?_
 try simp only[*,go_sem,seval]
 obtain ⟨_,aa,h⟩:=Za h
 refine Zd (ZcD aa) ?_
 try simp only[*,go_sem,seval]
 refine yB h (fun _ h=>?_) fun _ h=>?_
 refine ⟨_,[],[0,1],(A3 h).symm,yF,?_⟩
 try simp only[*,go_sem,seval]
 refine yB h (fun _ h=>?_) fun _ h=>?_
 replace h:=Zr h W
 replace h:=Zr h S
 replace h:=Zr h L
 replace h:=Zr h y
 cases h
 try simp only[*,go_sem,seval]
 obtain ⟨_,ab,h⟩:=Za h
 refine Zd (ZqA ab) ?_
 try simp only[*,go_sem,seval]
 refine ⟨_,[(false,6,4096)],[0,1],(A3 h).symm,yF,?_⟩
 try simp only[*,go_sem,seval]
 rintro ⟨q,t⟩ ⟨_,_,_⟩ E _ h
 simp only[go_sem,seval,Zb] at E
 obtain ⟨⟨_,_,_,_,_,_,_,_,_,_,_,_,_,_⟩,_,_,hn⟩:=E
 subst hn
 have:=ZB (d.thn.length)
 try simp only[*,go_sem,seval]
 refine ⟨_,[],[0],(A3 h).symm,yF,?_⟩
 try simp only[*,go_sem,seval]
 rintro ⟨l,m⟩ ⟨_,_,_⟩ F _ h
 simp only[go_sem,seval,Zb] at F
 obtain ⟨⟨_,_,_,_,_,_,_,_,_,_⟩,_,hn⟩:=F
 subst hn
 have:=ZB (e.length)
 try simp only[*,go_sem,seval]
 refine ⟨_,[],[],(A3 h).symm,yF,?_⟩
 try simp only[*,go_sem,seval]
 rintro ⟨f,g⟩ ⟨_,_,_⟩ G _ h
 simp only[go_sem,seval,Zb] at G
 obtain ⟨⟨_,_,_,_,_,_⟩,hn⟩:=G
 subst hn
 have:=ZB (a.length)
 try simp only[*,go_sem,seval]
 refine ⟨_,[],[],(A3 h).symm,yF,?_⟩
 try simp only[*,go_sem,seval]
 replace h:=Zr h y
 iterate 3 (cases h;try simp only[*,go_sem,seval])
theorem ZH0 {a:Zg} {d:(List Zc)} {e:(List Zi)} {r:Int} (h:ZHb a d e=some r):Zm prog J0 87 [(true,ZL a),(false,[.sl 53 2 (A0 Zs d)]),(false,[.sl 162 2 (A0 ZR e)])] [(false,[(false,.int .i64 r)])]:=by
 refine fnk func87 rfl ?_
 unfold ZHb at h
 simp only[fnS,f87,Zo,go_sem,seval]
 refine Xj h (fun s st=>match s with | (f,g)=>IV [(1,yM (yT d)),(2,yM (yX e)),(3,.bp 0 0),(7,yM (.int .i64 f)),(8,yM (.int .i64 g))] [zC 76 (ZL a)] st) [] [0] yF yD ?_
 rintro ⟨f,g⟩ ⟨_,_,_⟩ _ m _ h t
 simp only[go_sem,seval,Zb] at m
 obtain ⟨⟨_,_,_,_,_⟩,_,hn⟩:=m
 subst hn
 try simp only[*,go_sem,seval]
 refine yB h (fun _ h=>?_) fun _ h=>?_
 obtain ⟨_,h⟩:=Zv h
 try simp only[*,go_sem,seval]
 obtain ⟨k,u,h⟩:=Za h
 refine ZnA (by have hh:=Ziw u;first|exact hh|(simp only[*,go_sem] at hh;exact hh)) ?_
 try simp only[*,go_sem,seval]
 refine Zh h (fun i _ st=>IV [(1,yM (yT d)),(2,yM (yX e)),(3,.bp 0 0),(7,yM (.int .i64 f)),(8,yM (.int .i64 g)),(23,yM (zB k)),(24,yL k.length),(25,yL i)] [zC 76 (ZL a)] st) [] [0] yF yD ?_ ?_
 rintro _ _ ⟨⟩ ⟨_,_,_⟩ _ l o v h w
 simp only[go_sem,seval,Zb] at o
 obtain ⟨⟨_,_,_,_,_,x,_,_⟩,_,hn⟩:=o
 subst hn
 have y:=WF.slotL v x (j:=0) rfl
 have:=ZC l
 have:=ZE l
 have:=Zk (ZD l) y
 try simp only[*,go_sem,seval]
 obtain ⟨_,z,h⟩:=Za h
 refine Zd (by have hh:=ZIo z;first|exact hh|(simp only[*,go_sem] at hh;exact hh)) ?_
 try simp only[*,go_sem,seval]
 refine yB h (fun _ h=>?_) fun _ h=>?_
 replace h:=Zr h w
 refine ⟨_,[],[0],(A3 h).symm,yF,?_⟩
 try simp only[*,go_sem,seval]
 refine ⟨_,[],[0],(A3 h).symm,yF,?_⟩
 try simp only[*,go_sem,seval]
 rintro ⟨⟩ ⟨_,_,_⟩ q _ h
 simp only[go_sem,seval,Zb] at q
 obtain ⟨⟨_,_,_,_,_,_,_,_⟩,_,hn⟩:=q
 subst hn
 have:=ZB (k.length)
 try simp only[*,go_sem,seval]
 refine ⟨_,[],[0],(A3 h).symm,yF,?_⟩
 try simp only[*,go_sem,seval]
 replace h:=Zr h t
 cases h
 try simp only[*,go_sem,seval]
theorem Zsv {append_0:(List Zq)} {a:Zl} {a_2:(List Zc)} {r:(List Zq)} (h:Zhz append_0 a a_2=some r):Zm prog J0 187 [(false,[.sl 111 2 (A0 YU append_0)]),(true,ZJ a),(false,[.sl 53 2 (A0 Zs a_2)])] [(false,[(false,.sl 111 2 (A0 YU r))])]:=by
 refine fnk func187 rfl ?_
 unfold Zhz at h
 simp only[fnS,f187,Zo,go_sem,seval]
 refine Zh h (fun i b st=>IV [(0,yM (zB append_0)),(2,yM (yT a_2)),(4,.bp 0 0),(7,.p false [.row 1]),(8,yL i)] [zC 80 (ZJ a),.row 111 2 (A0 YU b) 2] st) [] [0,32] yF yD ?_ ?_
 rintro o _ b ⟨_,_,_⟩ _ d g q h _
 simp only[go_sem,seval,Zb] at g
 obtain ⟨⟨t,_,_,_,_⟩,_,_,hn⟩:=g
 subst hn
 have u:=WF.slotL q t (j:=0) rfl
 have:=ZC d
 have:=ZE d
 have:=Zk (ZD d) u
 try simp only[*,go_sem,seval]
 refine yB h (fun _ h=>?_) fun _ h=>?_
 obtain ⟨_,v,h⟩:=Za h
 refine Zd (Znz v) ?_
 try simp only[*,go_sem,seval]
 refine yB h (fun _ h=>?_) fun _ h=>?_
 obtain ⟨_,w,h⟩:=Za h
 refine Zd (ZrY w) ?_
 obtain ⟨x,h⟩:=Zv h
 try simp only[Nat.reduceLeDiff] at x
 try simp only[*,go_sem,seval]
 refine ⟨_,[],[0,354],(A3 h).symm,yF,?_⟩
 try simp only[*,go_sem,seval]
 refine ⟨_,[],[0,1],(A3 h).symm,yF,?_⟩
 try simp only[*,go_sem,seval]
 refine Zh h (fun i e st=>IV [(0,yM (zB append_0)),(2,yM (yT a_2)),(4,.bp 0 0),(7,.p false [.row 1]),(8,yL o),(9,yL i)] [zC 80 (ZJ a),.row 111 2 (A0 YU e) 2] st) [] [0,1] yF yD ?_ ?_
 rintro _ _ e ⟨_,_,_⟩ _ f k y h _
 simp only[go_sem,seval,Zb] at k
 obtain ⟨⟨_,z,_,_,_,_⟩,_,_,hn⟩:=k
 subst hn
 have A:=WF.slotL y z (j:=0) rfl
 have:=ZC f
 have:=ZE f
 have:=Zk (ZD f) A
 try simp only[*,go_sem,seval]
 obtain ⟨_,B,h⟩:=Za h
 refine Zd (Zg5 B) ?_
 try simp only[*,go_sem,seval]
 refine yB h (fun _ h=>?_) fun _ h=>?_
 obtain ⟨_,C,h⟩:=Za h
 refine Zd (Zfo C) ?_
 try simp only[*,go_sem,seval]
 obtain ⟨_,D,h⟩:=Za h
 refine Zd (Xr D) ?_
 obtain ⟨E,h⟩:=Zv h
 try simp only[Nat.reduceLeDiff] at E
 obtain ⟨F,h⟩:=Zv h
 try simp only[Nat.reduceLeDiff] at F
 try simp only[*,go_sem,seval]
 refine ⟨_,[],[0,626],(A3 h).symm,yF,?_⟩
 try simp only[*,go_sem,seval]
 refine ⟨_,[],[0,1],(A3 h).symm,yF,?_⟩
 try simp only[*,go_sem,seval]
 rintro e ⟨_,_,_⟩ l _ h
 simp only[go_sem,seval,Zb] at l
 obtain ⟨⟨_,_,_,_,_,_⟩,_,_,hn⟩:=l
 subst hn
 have:=ZB (a_2.length)
 try simp only[*,go_sem,seval]
 refine ⟨_,[],[0,1],(A3 h).symm,yF,?_⟩
 try simp only[*,go_sem,seval]
 rintro b ⟨_,_,_⟩ m _ h
 simp only[go_sem,seval,Zb] at m
 obtain ⟨⟨_,_,_,_,_⟩,_,_,hn⟩:=m
 subst hn
 have:=ZB (append_0.length)
 cases h
 try simp only[*,go_sem,seval]
theorem ZlH {append_0:(List Zg)} {r:Bool} (h:Zb0 append_0=some r):Zm prog J0 227 [(false,[.sl 76 4 (A0 ZL append_0)])] [(false,[(false,.bool r)])]:=by
 refine fnk func227 rfl ?_
 unfold Zb0 at h
 simp only[fnS,f227,Zo,go_sem,seval]
 refine Zh h (fun i _ st=>IV [(0,yM (yW append_0)),(3,yL i)] [] st) [] [] yF yD ?_ ?_
 rintro l x ⟨⟩ ⟨_,_,_⟩ _ b m y h d
 simp only[go_sem,seval,Zb] at m
 obtain ⟨⟨z,_⟩,hn⟩:=m
 subst hn
 have A:=WF.slotL y z (j:=0) rfl
 have:=ZC b
 have:=ZE b
 have:=Zk (ZD b) A
 try simp only[*,go_sem,seval]
 obtain ⟨_,B,h⟩:=Za h
 refine Zd (Znx B) ?_
 try simp only[*,go_sem,seval]
 refine yB h (fun _ h=>?_) fun _ h=>?_
 obtain ⟨e,C,h⟩:=Za h
 refine Zd (Zij C) ?_
 try simp only[*,go_sem,seval]
 refine Zh h (fun i _ st=>IV [(0,yM (yW append_0)),(3,yL l),(4,.p false [.row 0]),(5,yL i)] [.row 9 1 (A0 ZA e) 2] st) [] [224] yF yD ?_ ?_
 rintro D a ⟨⟩ ⟨_,_,_⟩ _ f o E h q
 simp only[go_sem,seval,Zb] at o
 obtain ⟨⟨F,_,_,_⟩,_,hn⟩:=o
 subst hn
 have G:=WF.elL (WF.slotD E F (j:=0) rfl) b (j:=2) rfl
 have:=ZC f
 have:=ZE f
 have:=Zk (ZD f) G
 try simp only[*,go_sem,seval]
 refine Zh h (fun i _ st=>IV [(0,yM (yW append_0)),(3,yL l),(4,.p false [.row 0]),(5,yL D),(6,.bp 1 0),(7,yL i)] [.row 9 1 (A0 ZA e) 2,zC 80 (ZJ a)] st) [] [0,257] yF yD ?_ ?_
 rintro _ _ ⟨⟩ ⟨_,_,_⟩ _ g t H h k
 simp only[go_sem,seval,Zb] at t
 obtain ⟨⟨_,_,_,_,_,_⟩,I,_,hn⟩:=t
 subst hn
 have J:=WF.rowL H I
 have:=ZC g
 have:=ZE g
 have:=Zk (ZD g) J
 try simp only[*,go_sem,seval]
 iterate 2 refine yB h (fun _ h=>?_) fun _ h=>?_
 replace h:=Zr h k
 replace h:=Zr h q
 replace h:=Zr h d
 cases h
 try simp only[*,go_sem,seval]
 obtain ⟨_,K,h⟩:=Za h
 refine Zd (ZlL K) ?_
 try simp only[*,go_sem,seval]
 refine yB h (fun _ h=>?_) fun _ h=>?_
 replace h:=Zr h k
 replace h:=Zr h q
 replace h:=Zr h d
 cases h
 try simp only[*,go_sem,seval]
 refine ⟨_,[],[0,1],(A3 h).symm,yF,?_⟩
 try simp only[*,go_sem,seval]
 replace h:=Zr h k
 refine ⟨_,[],[0],(A3 h).symm,yF,?_⟩
 try simp only[*,go_sem,seval]
 rintro ⟨⟩ ⟨_,_,_⟩ u _ h
 simp only[go_sem,seval,Zb] at u
 obtain ⟨⟨_,_,_,_,_,_⟩,_,_,hn⟩:=u
 subst hn
 have:=ZB (e.length)
 try simp only[*,go_sem,seval]
 refine ⟨_,[],[0],(A3 h).symm,yF,?_⟩
 try simp only[*,go_sem,seval]
 rintro ⟨⟩ ⟨_,_,_⟩ v _ h
 simp only[go_sem,seval,Zb] at v
 obtain ⟨⟨_,_,_,_⟩,_,hn⟩:=v
 subst hn
 have:=ZB (x.cond.length)
 try simp only[*,go_sem,seval]
 refine ⟨_,[],[],(A3 h).symm,yF,?_⟩
 try simp only[*,go_sem,seval]
 replace h:=Zr h d
 cases h
 try simp only[*,go_sem,seval]
 rintro ⟨⟩ ⟨_,_,_⟩ w _ h
 simp only[go_sem,seval,Zb] at w
 obtain ⟨⟨_,_⟩,hn⟩:=w
 subst hn
 have:=ZB (append_0.length)
 try simp only[*,go_sem,seval]
 obtain ⟨_,L,h⟩:=Za h
 refine Zd (Zn8 L) ?_
 cases h
 try simp only[*,go_sem,seval]
end
section
theorem Zq2 {d:(List Zg)} {g:(List Zc)} {r:((List Zc) × Zt × (List Za4) × Bool)} (h:ZbJ d g=some r):Zm prog J0 157 [(false,[.sl 76 4 (A0 ZL d)]),(false,[.sl 53 2 (A0 Zs g)])] [(false,[(false,.sl 53 2 (A0 Zs r.1))]),(true,[(false,.int .i64 r.2.1.nodes),(false,.sl 179 3 (A0 ZG r.2.1.reasons))]),(false,[(false,.any)]),(false,[(false,.bool r.2.2.2)])]:=by
 refine fnn 4 func157 rfl ?_
 unfold ZbJ at h
 simp only[fnN,f157,Zo,go_sem,seval]
 obtain ⟨e,P,h⟩:=Za h
 refine Zd (Zjc P) ?_
 try simp only[*,go_sem,seval]
 refine yB h (fun _ h=>?_) fun _ h=>?_
 refine Zh h (fun i s st=>match s with | (q,t)=>IV [(0,yM (yW d)),(5,.bp 0 0),(8,.p false [.n (yT e.1)]),(10,.bp 1 0),(11,.p false [.row 3]),(40,yM (yT g)),(41,yL g.length),(42,yL i)] [.box 140 [.c (.int .i64 0),.nil 179 3],.box 140 [.c (.int .i64 ((e.1.length:Nat):Int)),.row 2],.row 179 3 (A0 ZG q) 2,.row 187 2 (A0 Zh4 t) 2] st) [(false,8,4096),(false,11,0),(true,272,1)] [16,272,369,368] yF yD ?_ ?_
 rintro _ _ ⟨q,t⟩ ⟨_,_,_⟩ _ u E Q h _
 simp only[go_sem,seval,Zb] at E
 obtain ⟨⟨_,_,_,_,_,R,_,_⟩,_,_,_,_,hn⟩:=E
 subst hn
 have S:=WF.slotL Q R (j:=0) rfl
 have:=ZC u
 have:=ZE u
 have:=Zk (ZD u) S
 try simp only[*,go_sem,seval]
 obtain ⟨_,T,h⟩:=Za h
 refine Zd (ZcD T) ?_
 obtain ⟨U,h⟩:=Zv h
 try simp only[Nat.reduceLeDiff] at U
 obtain ⟨V,h⟩:=Zv h
 try simp only[Nat.reduceLeDiff] at V
 try simp only[*,go_sem,seval]
 refine ⟨_,[],[0,1,196,292],(A3 h).symm,yF,?_⟩
 try simp only[*,go_sem,seval]
 rintro ⟨q,t⟩ ⟨_,_,_⟩ F _ h
 simp only[go_sem,seval,Zb] at F
 obtain ⟨⟨_,_,_,_,_,_,_,_⟩,_,_,_,_,hn⟩:=F
 subst hn
 have:=ZB (g.length)
 try simp only[*,go_sem,seval]
 refine Zh h (fun i s st=>match s with | (v,w)=>IV [(5,.bp 0 0),(8,.p false [.n (yT e.1)]),(10,.bp 1 0),(11,.p false [.row 3]),(60,yM (yW d)),(61,yL d.length),(62,yL i)] [.box 140 [.c (.int .i64 0),.nil 179 3],.box 140 [.c (.int .i64 ((e.1.length:Nat):Int)),.row 2],.row 179 3 (A0 ZG v) 2,.row 187 2 (A0 Zh4 w) 1] st) [(true,3,1)] [0,1,2,3] yF yD ?_ ?_
 rintro x b ⟨v,w⟩ ⟨_,_,_⟩ _ y G W h _
 simp only[go_sem,seval,Zb] at G
 obtain ⟨⟨_,_,_,_,X,_,_⟩,_,_,_,_,hn⟩:=G
 subst hn
 have Y:=WF.slotL W X (j:=0) rfl
 have:=ZC y
 have:=ZE y
 have:=Zk (ZD y) Y
 try simp only[*,go_sem,seval]
 obtain ⟨_,Z,h⟩:=Za h
 refine ZnA (ZfN Z) ?_
 try simp only[*,go_sem,seval]
 obtain ⟨f,aa,h⟩:=Za h
 refine ZnA (Ziw aa) ?_
 try simp only[*,go_sem,seval]
 refine Zh h (fun i s st=>match s with | (k,l)=>IV [(5,.bp 0 0),(8,.p false [.n (yT e.1)]),(10,.bp 1 0),(11,.p false [.row 3]),(15,.bp 4 0),(60,yM (yW d)),(61,yL d.length),(62,yL x),(69,yM (zB f)),(70,yL f.length),(71,yL i)] [.box 140 [.c (.int .i64 0),.nil 179 3],.box 140 [.c (.int .i64 ((e.1.length:Nat):Int)),.row 2],.row 179 3 (A0 ZG k) 2,.row 187 2 (A0 Zh4 l) 1,zC 76 (ZL b)] st) [] [0,1,2,3,52] yF yD ?_ ?_
 rintro H m ⟨k,l⟩ ⟨_,_,_⟩ _ z I ab h _
 simp only[go_sem,seval,Zb] at I
 obtain ⟨⟨_,_,_,_,_,_,_,_,ac,_,_⟩,_,_,_,_,_,hn⟩:=I
 subst hn
 have ad:=WF.slotL ab ac (j:=0) rfl
 have:=ZC z
 have:=ZE z
 have:=Zk (ZD z) ad
 try simp only[*,go_sem,seval]
 refine Zh h (fun i o st=>IV [(5,.bp 0 0),(8,.p false [.n (yT e.1)]),(10,.bp 1 0),(11,.p false [.row 3]),(15,.bp 4 0),(17,.bp 5 0),(18,.p false [.row 6]),(60,yM (yW d)),(61,yL d.length),(62,yL x),(69,yM (zB f)),(70,yL f.length),(71,yL H),(76,yM (yY b.cond)),(77,yL b.cond.length),(78,yL i)] [.box 140 [.c (.int .i64 0),.nil 179 3],.box 140 [.c (.int .i64 ((e.1.length:Nat):Int)),.row 2],.row 179 3 (A0 ZG k) 2,.row 187 2 (A0 Zh4 l) 1,zC 76 (ZL b),zC 111 (YU m),.row 53 2 (A0 Zs o) 2] st) [(false,18,0)] [0,1,2,3,4,53,165] yF yD ?_ ?_
 rintro _ _ o ⟨_,_,_⟩ _ A J ae h _
 simp only[go_sem,seval,Zb] at J
 obtain ⟨⟨_,_,_,_,_,_,_,_,_,_,_,_,_,af,_,_⟩,_,_,_,_,_,_,_,hn⟩:=J
 subst hn
 have ag:=WF.slotL ae af (j:=0) rfl
 have:=ZC A
 have:=ZE A
 have:=Zk (ZD A) ag
 try simp only[*,go_sem,seval]
 refine yB h (fun _ h=>?_) fun _ h=>?_
 obtain ⟨_,ah,h⟩:=Za h
 refine Zd (Zfi ah) ?_
 obtain ⟨ai,h⟩:=Zv h
 try simp only[Nat.reduceLeDiff] at ai
 try simp only[*,go_sem,seval]
 refine ⟨_,[],[0,1,2,3,4,5,359],(A3 h).symm,yF,?_⟩
 try simp only[*,go_sem,seval]
 refine ⟨_,[],[0,1,2,3,4,5,6],(A3 h).symm,yF,?_⟩
 try simp only[*,go_sem,seval]
 rintro o ⟨_,_,_⟩ K _ h
 simp only[go_sem,seval,Zb] at K
 obtain ⟨⟨_,_,_,_,_,_,_,_,_,_,_,_,_,_,_,_⟩,_,_,_,_,_,_,_,hn⟩:=K
 subst hn
 have:=ZB (b.cond.length)
 try simp only[*,go_sem,seval]
 refine Zh h (fun i s st=>match s with | (B,C)=>IV [(5,.bp 0 0),(8,.p false [.n (yT e.1)]),(10,.bp 1 0),(11,.p false [.row 3]),(15,.bp 4 0),(17,.bp 5 0),(18,.p false [.row 6]),(60,yM (yW d)),(61,yL d.length),(62,yL x),(69,yM (zB f)),(70,yL f.length),(71,yL H),(99,yM (yZ b.thn)),(100,yL b.thn.length),(101,yL i)] [.box 140 [.c (.int .i64 0),.nil 179 3],.box 140 [.c (.int .i64 ((e.1.length:Nat):Int)),.row 2],.row 179 3 (A0 ZG B) 2,.row 187 2 (A0 Zh4 C) 1,zC 76 (ZL b),zC 111 (YU m),.row 53 2 (A0 Zs o) 2] st) [] [0,1,2,3,4,5,6] yF yD ?_ ?_
 rintro _ _ ⟨B,C⟩ ⟨_,_,_⟩ _ D L aj h _
 simp only[go_sem,seval,Zb] at L
 obtain ⟨⟨_,_,_,_,_,_,_,_,_,_,_,_,_,ak,_,_⟩,_,_,_,_,_,_,_,hn⟩:=L
 subst hn
 have al:=WF.slotL aj ak (j:=0) rfl
 have:=ZC D
 have:=ZE D
 have:=Zk (ZD D) al
 try simp only[*,go_sem,seval]
 obtain ⟨_,am,h⟩:=Za h
 refine Zd (Zfi am) ?_
 try simp only[*,go_sem,seval]
 obtain ⟨_,an,h⟩:=Za h
 refine Zd (ZcD an) ?_
 try simp only[*,go_sem,seval]
 obtain ⟨_,ao,h⟩:=Za h
 refine Zd (ZjT ao) ?_
 try simp only[*,go_sem,seval]
 obtain ⟨_,ap,h⟩:=Za h
 refine Zd (ZjT ap) ?_
 try simp only[*,go_sem,seval]
 obtain ⟨_,aq,h⟩:=Za h
 refine Zd (Znn aq) ?_
 try simp only[*,go_sem,seval]
 refine yB h (fun _ h=>?_) fun _ h=>?_
 refine ⟨_,[],[0,1,2,3,4,5,6],(A3 h).symm,yF,?_⟩
 try simp only[*,go_sem,seval]
 obtain ⟨ar,h⟩:=Zv h
 try simp only[Nat.reduceLeDiff] at ar
 obtain ⟨au,h⟩:=Zv h
 try simp only[Nat.reduceLeDiff] at au
 try simp only[*,go_sem,seval]
 refine ⟨_,[],[0,1,615,775,4,5,6],(A3 h).symm,yF,?_⟩
 try simp only[*,go_sem,seval]
 rintro ⟨B,C⟩ ⟨_,_,_⟩ M _ h
 simp only[go_sem,seval,Zb] at M
 obtain ⟨⟨_,_,_,_,_,_,_,_,_,_,_,_,_,_,_,_⟩,_,_,_,_,_,_,_,hn⟩:=M
 subst hn
 have:=ZB (b.thn.length)
 try simp only[*,go_sem,seval]
 refine ⟨_,[],[0,1,2,3,4],(A3 h).symm,yF,?_⟩
 try simp only[*,go_sem,seval]
 rintro ⟨k,l⟩ ⟨_,_,_⟩ N _ h
 simp only[go_sem,seval,Zb] at N
 obtain ⟨⟨_,_,_,_,_,_,_,_,_,_,_⟩,_,_,_,_,_,hn⟩:=N
 subst hn
 have:=ZB (f.length)
 try simp only[*,go_sem,seval]
 refine ⟨_,[],[0,1,2,3],(A3 h).symm,yF,?_⟩
 try simp only[*,go_sem,seval]
 rintro ⟨v,w⟩ ⟨_,_,_⟩ O _ h
 simp only[go_sem,seval,Zb] at O
 obtain ⟨⟨_,_,_,_,_,_,_⟩,_,_,_,_,hn⟩:=O
 subst hn
 have:=ZB (d.length)
 try simp only[*,go_sem,seval]
 refine yB h (fun _ h=>?_) fun _ h=>?_
 iterate 3 (cases h;try simp only[*,go_sem,seval])
end
section
theorem Zfj {l_0:(List Zl)} {facts_1:(List Zc)} {r:(List Zq)} (h:Zaa l_0 facts_1=some r):Zm prog J0 123 [(false,[.sl 80 5 (A0 ZJ l_0)]),(false,[.sl 53 2 (A0 Zs facts_1)])] [(false,[(false,.sl 111 2 (A0 YU r))])]:=by
 refine fnk func123 rfl ?_
 unfold Zaa at h
 simp only[fnS,f123,Zo,go_sem,seval]
 refine Zh h (fun i a st=>IV [(0,yM (yY l_0)),(1,yM (yT facts_1)),(5,.p false [.row 0]),(6,yL i)] [.row 111 2 (A0 YU a) 2] st) [] [32] yF yD ?_ ?_
 rintro _ _ a ⟨_,_,_⟩ _ b d f h _
 simp only[go_sem,seval,Zb] at d
 obtain ⟨⟨g,_,_,_⟩,_,hn⟩:=d
 subst hn
 have k:=WF.slotL f g (j:=0) rfl
 have:=ZC b
 have:=ZE b
 have:=Zk (ZD b) k
 try simp only[*,go_sem,seval]
 obtain ⟨_,l,h⟩:=Za h
 refine Zd (Zsv l) ?_
 try simp only[*,go_sem,seval]
 refine ⟨_,[],[161],(A3 h).symm,yF,?_⟩
 try simp only[*,go_sem,seval]
 rintro a ⟨_,_,_⟩ e _ h
 simp only[go_sem,seval,Zb] at e
 obtain ⟨⟨_,_,_,_⟩,_,hn⟩:=e
 subst hn
 have:=ZB (l_0.length)
 cases h
 try simp only[*,go_sem,seval]
end
section
theorem Zji {rules_0:(List Zg)} {base_1:(List Zc)} {r:((List Zc) × Zt × Bool)} (h:QV rules_0 base_1=some r):Zm prog J0 127 [(false,[.sl 76 4 (A0 ZL rules_0)]),(false,[.sl 53 2 (A0 Zs base_1)])] [(false,[(false,.sl 53 2 (A0 Zs r.1))]),(true,[(false,.int .i64 r.2.1.nodes),(false,.sl 179 3 (A0 ZG r.2.1.reasons))]),(false,[(false,.bool r.2.2)])]:=by
 refine fnk func127 rfl ?_
 unfold QV at h
 simp only[fnS,f127,Zo,go_sem,seval]
 obtain ⟨_,a,h⟩:=Za h
 refine Zd (Zq2 a) ?_
 cases h
 try simp only[*,go_sem,seval]
theorem Zjb {a:(List Zg)} {String_1:(List Zc)} {r:((List Zc) × Bool)} (h:YA a String_1=some r):Zm prog J0 161 [(false,[.sl 76 4 (A0 ZL a)]),(false,[.sl 53 2 (A0 Zs String_1)])] [(false,[(false,.sl 53 2 (A0 Zs r.1))]),(false,[(false,.bool r.2)])]:=by
 refine fnn 4 func161 rfl ?_
 unfold YA at h
 simp only[fnN,f161,Zo,go_sem,seval]
 obtain ⟨_,B,h⟩:=Za h
 refine Zd (ZlH B) ?_
 try simp only[*,go_sem,seval]
 refine yB h (fun _ h=>?_) fun _ h=>?_
 obtain ⟨_,C,h⟩:=Za h
 refine Zd (Zis C) ?_
 try simp only[*,go_sem,seval]
 refine yB h (fun _ h=>?_) fun _ h=>?_
 obtain ⟨_,D,h⟩:=Za h
 refine Zd (Zfo D) ?_
 try simp only[*,go_sem,seval]
 refine Xj h (fun s st=>match s with | (b,o)=>IV [(0,yM (yW a)),(6,.p false [.n (yT b)]),(7,yM (.bool o))] [] st) [(false,6,4096)] [] yF yD ?_
 rintro ⟨b,o⟩ ⟨_,_,_⟩ _ q _ h t
 simp only[go_sem,seval,Zb] at q
 obtain ⟨⟨_,_,_⟩,hn⟩:=q
 subst hn
 try simp only[*,go_sem,seval]
 refine yB h (fun _ h=>?_) fun _ h=>?_
 refine Zh h (fun i e st=>IV [(0,yM (yW a)),(6,.p false [.n (yT e)]),(8,.p false [.n (yT b)]),(9,yL i)] [] st) [] [] yF yD ?_ ?_
 rintro u E e ⟨_,_,_⟩ _ d v F h G
 simp only[go_sem,seval,Zb] at v
 obtain ⟨⟨H,_,_,_⟩,hn⟩:=v
 subst hn
 have I:=WF.slotL F H (j:=0) rfl
 have:=ZC d
 have:=ZE d
 have:=Zk (ZD d) I
 try simp only[*,go_sem,seval]
 obtain ⟨_,J,h⟩:=Za h
 refine ZnA (ZfX J) ?_
 try simp only[*,go_sem,seval]
 obtain ⟨f,K,h⟩:=Za h
 refine Zd (Zfj K) ?_
 try simp only[*,go_sem,seval]
 refine Zh h (fun i g st=>IV [(0,yM (yW a)),(6,.p false [.n (yT g)]),(8,.p false [.n (yT b)]),(9,yL u),(10,.p false [.row 0]),(11,yL i)] [.row 111 2 (A0 YU f) 2] st) [] [160] yF yD ?_ ?_
 rintro L _ g ⟨_,_,_⟩ _ k w M h _
 simp only[go_sem,seval,Zb] at w
 obtain ⟨⟨_,_,_,_,_,_⟩,N,hn⟩:=w
 subst hn
 have O:=WF.rowL M N
 have:=ZC k
 have:=ZE k
 have:=Zk (ZD k) O
 try simp only[*,go_sem,seval]
 refine Zh h (fun i l st=>IV [(0,yM (yW a)),(6,.p false [.n (yT l)]),(8,.p false [.n (yT b)]),(9,yL u),(10,.p false [.row 0]),(11,yL L),(12,yL i)] [.row 111 2 (A0 YU f) 2] st) [] [0] yF yD ?_ ?_
 rintro _ _ l ⟨_,_,_⟩ _ m x P h _
 simp only[go_sem,seval,Zb] at x
 obtain ⟨⟨Q,_,_,_,_,_,_⟩,_,hn⟩:=x
 subst hn
 have R:=WF.elL (WF.slotD P Q (j:=0) rfl) d (j:=3) rfl
 have:=ZC m
 have:=ZE m
 have:=Zk (ZD m) R
 try simp only[*,go_sem,seval]
 obtain ⟨_,S,h⟩:=Za h
 refine Zd (Zfq S) ?_
 try simp only[*,go_sem,seval]
 obtain ⟨_,T,h⟩:=Za h
 refine Zd (ZtP T) ?_
 try simp only[*,go_sem,seval]
 refine ⟨_,[(false,6,4096)],[0],(A3 h).symm,yF,?_⟩
 try simp only[*,go_sem,seval]
 rintro l ⟨_,_,_⟩ y _ h
 simp only[go_sem,seval,Zb] at y
 obtain ⟨⟨_,_,_,_,_,_,_⟩,_,hn⟩:=y
 subst hn
 have:=ZB (E.thn.length)
 try simp only[*,go_sem,seval]
 refine ⟨_,[],[0],(A3 h).symm,yF,?_⟩
 try simp only[*,go_sem,seval]
 rintro g ⟨_,_,_⟩ z _ h
 simp only[go_sem,seval,Zb] at z
 obtain ⟨⟨_,_,_,_,_,_⟩,_,hn⟩:=z
 subst hn
 have:=ZB (f.length)
 try simp only[*,go_sem,seval]
 refine yB h (fun _ h=>?_) fun _ h=>?_
 replace h:=Zr h G
 replace h:=Zr h t
 cases h
 try simp only[*,go_sem,seval]
 refine ⟨_,[],[],(A3 h).symm,yF,?_⟩
 try simp only[*,go_sem,seval]
 rintro e ⟨_,_,_⟩ A _ h
 simp only[go_sem,seval,Zb] at A
 obtain ⟨⟨_,_,_,_⟩,hn⟩:=A
 subst hn
 have:=ZB (a.length)
 try simp only[*,go_sem,seval]
 refine ⟨_,[],[],(A3 h).symm,yF,?_⟩
 try simp only[*,go_sem,seval]
 replace h:=Zr h t
 iterate 3 (cases h;try simp only[*,go_sem,seval])
theorem ZoO {r_0:Zg} {n_1:Int} {facts_2:(List Zc)} {r:(List Zq)} (h:Zck r_0 n_1 facts_2=some r):Zm prog J0 62 [(true,ZL r_0),(false,[.int .i64 n_1]),(false,[.sl 53 2 (A0 Zs facts_2)])] [(false,[(false,.sl 111 2 (A0 YU r))])]:=by
 refine fnk func62 rfl ?_
 unfold Zck at h
 simp only[fnS,f62,Zo,go_sem,seval]
 obtain ⟨_,a,h⟩:=Za h
 refine Zd (by have hh:=ZeX a;first|exact hh|(simp only[*,go_sem] at hh;exact hh)) ?_
 try simp only[*,go_sem,seval]
 refine yB h (fun _ h=>?_) fun _ h=>?_
 obtain ⟨_,b,h⟩:=Za h
 refine Zd (by have hh:=Zis b;first|exact hh|(simp only[*,go_sem] at hh;exact hh)) ?_
 try simp only[*,go_sem,seval]
 refine yB h (fun _ h=>?_) fun _ h=>?_
 obtain ⟨_,c,h⟩:=Za h
 refine Zd (by have hh:=XM c;first|exact hh|(simp only[*,go_sem] at hh;exact hh)) ?_
 try simp only[*,go_sem,seval]
 refine yB h (fun _ h=>?_) fun _ h=>?_
 obtain ⟨_,h⟩:=Zv h
 try simp only[*,go_sem,seval]
 obtain ⟨_,d,h⟩:=Za h
 refine Zd (by have hh:=Zfj d;first|exact hh|(simp only[*,go_sem] at hh;exact hh)) ?_
 iterate 4 (cases h;try simp only[*,go_sem,seval])
end
section
theorem Zqu {rules_0:(List Zg)} {base_1:(List Zc)} {r:((List Zc) × Bool)} (h:Zbi rules_0 base_1=some r):Zm prog J0 68 [(false,[.sl 76 4 (A0 ZL rules_0)]),(false,[.sl 53 2 (A0 Zs base_1)])] [(false,[(false,.sl 53 2 (A0 Zs r.1))]),(false,[(false,.bool r.2)])]:=by
 refine fnk func68 rfl ?_
 unfold Zbi at h
 simp only[fnS,f68,Zo,go_sem,seval]
 obtain ⟨_,a,h⟩:=Za h
 refine Zd (Zji a) ?_
 try simp only[*,go_sem,seval]
 refine yB h (fun _ h=>?_) fun _ h=>?_
 obtain ⟨_,b,h⟩:=Za h
 refine Zd (ZoA b) ?_
 iterate 2 (cases h;try simp only[*,go_sem,seval])
theorem Zmr {d:(List Zg)} {e:(List Zc)} {r:((List Zc) × Zt × (List XR) × Bool)} (h:XZ d e=some r):Zm prog J0 151 [(false,[.sl 76 4 (A0 ZL d)]),(false,[.sl 53 2 (A0 Zs e)])] [(false,[(false,.sl 53 2 (A0 Zs r.1))]),(true,[(false,.int .i64 r.2.1.nodes),(false,.sl 179 3 (A0 ZG r.2.1.reasons))]),(false,[(false,.any)]),(false,[(false,.bool r.2.2.2)])]:=by
 refine fnk func151 rfl ?_
 unfold XZ at h
 simp only[fnS,f151,Zo,go_sem,seval]
 obtain ⟨b,I,h⟩:=Za h
 refine Zd (Zjb I) ?_
 try simp only[*,go_sem,seval]
 refine yB h (fun _ h=>?_) fun _ h=>?_
 refine Zh h (fun i s st=>match s with | (g,k)=>IV [(0,yM (yW d)),(1,yM (yT e)),(5,.bp 0 0),(8,.p false [.row 1]),(10,.bp 2 0),(11,.p false [.row 4]),(12,yL i)] [.box 140 [.c (.int .i64 0),.nil 179 3],.row 53 2 (A0 Zs b.1) 2,.box 140 [.c (.int .i64 ((b.1.length:Nat):Int)),.row 3],.row 179 3 (A0 ZG g) 2,.row 181 3 (A0 ZfI k) 2] st) [(true,240,1)] [16,96,240,352,272] yF yD ?_ ?_
 rintro _ _ ⟨g,k⟩ ⟨_,_,_⟩ _ l z J h _
 simp only[go_sem,seval,Zb] at z
 obtain ⟨⟨_,K,_,_,_,_,_⟩,_,_,_,_,_,hn⟩:=z
 subst hn
 have L:=WF.slotL J K (j:=0) rfl
 have:=ZC l
 have:=ZE l
 have:=Zk (ZD l) L
 try simp only[*,go_sem,seval]
 obtain ⟨_,M,h⟩:=Za h
 refine Zd (Zfa M) ?_
 obtain ⟨N,h⟩:=Zv h
 try simp only[Nat.reduceLeDiff] at N
 obtain ⟨O,h⟩:=Zv h
 try simp only[Nat.reduceLeDiff] at O
 try simp only[*,go_sem,seval]
 refine ⟨_,[],[0,1,2,229,325],(A3 h).symm,yF,?_⟩
 try simp only[*,go_sem,seval]
 rintro ⟨g,k⟩ ⟨_,_,_⟩ A _ h
 simp only[go_sem,seval,Zb] at A
 obtain ⟨⟨_,_,_,_,_,_,_⟩,_,_,_,_,_,hn⟩:=A
 subst hn
 have:=ZB (e.length)
 try simp only[*,go_sem,seval]
 refine Zh h (fun i s st=>match s with | (m,o)=>IV [(0,yM (yW d)),(5,.bp 0 0),(8,.p false [.row 1]),(10,.bp 2 0),(11,.p false [.row 4]),(13,yL i)] [.box 140 [.c (.int .i64 0),.nil 179 3],.row 53 2 (A0 Zs b.1) 2,.box 140 [.c (.int .i64 ((b.1.length:Nat):Int)),.row 3],.row 179 3 (A0 ZG m) 2,.row 181 3 (A0 ZfI o) 1] st) [(true,4,1)] [0,1,2,3,4] yF yD ?_ ?_
 rintro B P ⟨m,o⟩ ⟨_,_,_⟩ _ f C Q h R
 simp only[go_sem,seval,Zb] at C
 obtain ⟨⟨S,_,_,_,_,_⟩,_,_,_,_,_,hn⟩:=C
 subst hn
 have T:=WF.slotL Q S (j:=0) rfl
 have:=ZC f
 have:=ZE f
 have:=Zk (ZD f) T
 try simp only[*,go_sem,seval]
 obtain ⟨_,U,h⟩:=Za h
 refine ZnA (ZfX U) ?_
 try simp only[*,go_sem,seval]
 obtain ⟨q,V,h⟩:=Za h
 refine Zd (Zfj V) ?_
 try simp only[*,go_sem,seval]
 refine Zh h (fun i s st=>match s with | (t,u)=>IV [(0,yM (yW d)),(5,.bp 0 0),(8,.p false [.row 1]),(10,.bp 2 0),(11,.p false [.row 4]),(13,yL B),(14,.p false [.row 5]),(15,yL i)] [.box 140 [.c (.int .i64 0),.nil 179 3],.row 53 2 (A0 Zs b.1) 2,.box 140 [.c (.int .i64 ((b.1.length:Nat):Int)),.row 3],.row 179 3 (A0 ZG t) 2,.row 181 3 (A0 ZfI u) 1,.row 111 2 (A0 YU q) 2] st) [] [0,1,2,3,4,165] yF yD ?_ ?_
 rintro W _ ⟨t,u⟩ ⟨_,_,_⟩ _ v D X h Y
 simp only[go_sem,seval,Zb] at D
 obtain ⟨⟨_,_,_,_,_,_,_,_⟩,_,_,_,_,_,Z,hn⟩:=D
 subst hn
 have aa:=WF.rowL X Z
 have:=ZC v
 have:=ZE v
 have:=Zk (ZD v) aa
 try simp only[*,go_sem,seval]
 refine Zh h (fun i s st=>match s with | (w,x)=>IV [(0,yM (yW d)),(5,.bp 0 0),(8,.p false [.row 1]),(10,.bp 2 0),(11,.p false [.row 4]),(13,yL B),(14,.p false [.row 5]),(15,yL W),(16,yL i)] [.box 140 [.c (.int .i64 0),.nil 179 3],.row 53 2 (A0 Zs b.1) 2,.box 140 [.c (.int .i64 ((b.1.length:Nat):Int)),.row 3],.row 179 3 (A0 ZG w) 2,.row 181 3 (A0 ZfI x) 1,.row 111 2 (A0 YU q) 2] st) [] [0,1,2,3,4,5] yF yD ?_ ?_
 rintro _ _ ⟨w,x⟩ ⟨_,_,_⟩ _ y E ab h ac
 simp only[go_sem,seval,Zb] at E
 obtain ⟨⟨ad,_,_,_,_,_,_,_,_⟩,_,_,_,_,_,_,hn⟩:=E
 subst hn
 have ae:=WF.elL (WF.slotD ab ad (j:=0) rfl) f (j:=3) rfl
 have:=ZC y
 have:=ZE y
 have:=Zk (ZD y) ae
 try simp only[*,go_sem,seval]
 obtain ⟨_,af,h⟩:=Za h
 refine Zd (ZnO af) ?_
 try simp only[*,go_sem,seval]
 obtain ⟨_,ag,h⟩:=Za h
 refine Zd (ZqY ag) ?_
 try simp only[*,go_sem,seval]
 refine yB h (fun _ h=>?_) fun _ h=>?_
 refine ⟨_,[],[0,1,2,3,4,5],(A3 h).symm,yF,?_⟩
 try simp only[*,go_sem,seval]
 refine yB h (fun _ h=>?_) fun _ h=>?_
 replace h:=Zr h ac
 replace h:=Zr h Y
 replace h:=Zr h R
 cases h
 try simp only[*,go_sem,seval]
 obtain ⟨ah,h⟩:=Zv h
 try simp only[Nat.reduceLeDiff] at ah
 obtain ⟨ai,h⟩:=Zv h
 try simp only[Nat.reduceLeDiff] at ai
 try simp only[*,go_sem,seval]
 refine ⟨_,[],[0,1,2,550,790,5],(A3 h).symm,yF,?_⟩
 try simp only[*,go_sem,seval]
 rintro ⟨w,x⟩ ⟨_,_,_⟩ F _ h
 simp only[go_sem,seval,Zb] at F
 obtain ⟨⟨_,_,_,_,_,_,_,_,_⟩,_,_,_,_,_,_,hn⟩:=F
 subst hn
 have:=ZB (P.thn.length)
 try simp only[*,go_sem,seval]
 refine ⟨_,[],[0,1,2,3,4,5],(A3 h).symm,yF,?_⟩
 try simp only[*,go_sem,seval]
 rintro ⟨t,u⟩ ⟨_,_,_⟩ G _ h
 simp only[go_sem,seval,Zb] at G
 obtain ⟨⟨_,_,_,_,_,_,_,_⟩,_,_,_,_,_,_,hn⟩:=G
 subst hn
 have:=ZB (q.length)
 try simp only[*,go_sem,seval]
 refine ⟨_,[],[0,1,2,3,4],(A3 h).symm,yF,?_⟩
 try simp only[*,go_sem,seval]
 rintro ⟨m,o⟩ ⟨_,_,_⟩ H _ h
 simp only[go_sem,seval,Zb] at H
 obtain ⟨⟨_,_,_,_,_,_⟩,_,_,_,_,_,hn⟩:=H
 subst hn
 have:=ZB (d.length)
 iterate 2 (cases h;try simp only[*,go_sem,seval])
theorem ZIw {a:Zg} {d:(List Zc)} {e:(List Zi)} {r:Int} (h:ZHs a d e=some r):Zm prog J0 82 [(true,ZL a),(false,[.sl 53 2 (A0 Zs d)]),(false,[.sl 162 2 (A0 ZR e)])] [(false,[(false,.int .i64 r)])]:=by
 refine fnk func82 rfl ?_
 unfold ZHs at h
 simp only[fnS,f82,Zo,go_sem,seval]
 refine Xj h (fun s st=>match s with | (k,f)=>IV [(1,yM (yT d)),(2,yM (yX e)),(3,.bp 0 0),(7,yM (.int .i64 k)),(8,yM (.int .i64 f))] [zC 76 (ZL a)] st) [] [0] yF yD ?_
 rintro ⟨k,f⟩ ⟨_,_,_⟩ _ l _ h t
 simp only[go_sem,seval,Zb] at l
 obtain ⟨⟨_,_,_,_,_⟩,_,hn⟩:=l
 subst hn
 try simp only[*,go_sem,seval]
 refine yB h (fun _ h=>?_) fun _ h=>?_
 obtain ⟨m,u,h⟩:=Za h
 refine Zd (ZoO u) ?_
 try simp only[*,go_sem,seval]
 refine Zh h (fun i g st=>IV [(1,yM (yT d)),(2,yM (yX e)),(3,.bp 0 0),(7,yM (.int .i64 g)),(8,yM (.int .i64 f)),(9,.p false [.row 1]),(10,yL i)] [zC 76 (ZL a),.row 111 2 (A0 YU m) 2] st) [] [0,129] yF yD ?_ ?_
 rintro _ _ g ⟨_,_,_⟩ _ j o v h _
 simp only[go_sem,seval,Zb] at o
 obtain ⟨⟨_,_,_,_,_,_,_⟩,_,w,hn⟩:=o
 subst hn
 have x:=WF.rowL v w
 have:=ZC j
 have:=ZE j
 have:=Zk (ZD j) x
 try simp only[*,go_sem,seval]
 obtain ⟨_,y,h⟩:=Za h
 refine Zd (ZH9 y) ?_
 try simp only[*,go_sem,seval]
 refine yB h (fun _ h=>?_) fun _ h=>?_
 refine ⟨_,[],[0,1],(A3 h).symm,yF,?_⟩
 try simp only[*,go_sem,seval]
 refine ⟨_,[],[0,1],(A3 h).symm,yF,?_⟩
 try simp only[*,go_sem,seval]
 rintro g ⟨_,_,_⟩ q _ h
 simp only[go_sem,seval,Zb] at q
 obtain ⟨⟨_,_,_,_,_,_,_⟩,_,_,hn⟩:=q
 subst hn
 have:=ZB (m.length)
 try simp only[*,go_sem,seval]
 refine ⟨_,[],[0],(A3 h).symm,yF,?_⟩
 try simp only[*,go_sem,seval]
 replace h:=Zr h t
 cases h
 try simp only[*,go_sem,seval]
end
section
open Go.RowKit
theorem ZIA : prog.globalNamed "loop.example/g03015/impl.testSigns" = some 0 := by kernel_rfl
theorem ZIP {w:World} (h:J0 w):w.cell? ⟨0,0,none⟩=some (.string ⟨#[32,61,32]⟩)∧w.cell? ⟨0,1,none⟩=some (.string ⟨#[32,33,61,32]⟩)∧w.cell? ⟨0,2,none⟩=some (.string ⟨#[32,60,32]⟩):=by
 obtain ⟨cs, h1, h2⟩ := h ("loop.example/g03015/impl.testSigns", fun cs => cs = #[.string ⟨#[32, 61, 32]⟩, .string ⟨#[32, 33, 61, 32]⟩, .string ⟨#[32, 60, 32]⟩]) (by simp [Zy6])
 rw [h2] at h1
 exact ⟨World.var?_cell ZIA h1 0,World.var?_cell ZIA h1 1,World.var?_cell ZIA h1 2⟩
theorem ZIN {x:Zl} {r:ByteArray} (h:ZG3 x=some r) (w:World) (cs:List Value) (L:List Nat) (hj:J0 w) (hx:YL.rep w cs x L):
  Calls prog 88 #[.agg cs.toArray] w (fun e w'=>e=.returned (.string r)∧r.size≤9223372036854775807∧Below w.heap.size w w'):=by
 unfold ZG3 at h
 obtain ⟨v1,hv,h⟩:=Option.bind_eq_some_iff.1 h
 have HX:=Lib.hid hx
 have HV:Hid (Zeh x=some v1):=hv
 have HJ:=Lib.hid hj
 have HH:=Lib.hid h
 obtain ⟨Ap,cp,Lp,e1,e2,t0,t1,t2,np,mp,sp⟩:=hx
 subst e1
 have HP:Hid (Qq.rep w [.string x.pattern.rel,.slice Ap x.pattern.args.length cp] x.pattern Lp):=⟨Ap,cp,Lp,rfl,rfl,t0,np,mp,sp⟩
 clear h hv hj e2 t0 t1 t2 np mp sp
 have BA:Hid (∀o,Below w.heap.size w (w.alloc o)):=fun o=>(Below.refl _ w).alloc (Nat.le_refl _) o
 go_enter func88,ntmps88
 go_wp2_with fail
 refine (Zm.givesB (ZhF HV.out) (Qt hJ0 HJ.out (BA.out _)) (vs:=[_]) ⟨Zh9 Zkf (YL.keep HX.out (Zy (BA.out _) (fun y m=>YL.lt HX.out y m))),trivial⟩).mono ?_
 rintro e w2 ⟨rfl,b⟩
 have W2:Hid (Below w.heap.size w w2):=(BA.out _).trans (b.mono (BA.out _).size)
 have K2:Hid (Blk w2 w.heap.size 80 #[.int .i64 x.kind,.string x.pattern.rel,.slice Ap x.pattern.args.length cp,.string x.left,.string x.right]):=Blk.later (Blk.new _ _ _) b
 clear b
 cases v1 with
 | false=>
  obtain rfl:(⟨#[]⟩:ByteArray)=r:=A3 HH.out
  go_wp2
  go_ret
  exact ⟨rfl,yF,W2.out⟩
 | true=>
  have h:=HH.out
  rw [if_pos rfl] at h
  have k0:w2.cell? ⟨w.heap.size,0,none⟩=some (.int .i64 x.kind):=K2.out.at (i:=0) rfl
  have k1:w2.cell? ⟨w.heap.size,1,none⟩=some (.string x.pattern.rel):=K2.out.at (i:=1) rfl
  have k2:w2.cell? ⟨w.heap.size,2,none⟩=some (.slice Ap x.pattern.args.length cp):=K2.out.at (i:=2) rfl
  have k3:w2.cell? ⟨w.heap.size,3,none⟩=some (.string x.left):=K2.out.at (i:=3) rfl
  have k4:w2.cell? ⟨w.heap.size,4,none⟩=some (.string x.right):=K2.out.at (i:=4) rfl
  have HPT:Hid (ZGZ x.pattern=some (ZH1 x.pattern)):=ZHe _
  have J2:Hid (J0 w2):=Qt hJ0 HJ.out W2.out
  have P2:Hid (Qq.rep w2 [.string x.pattern.rel,.slice Ap x.pattern.args.length cp] x.pattern Lp):=Qq.keep HP.out (Zy W2.out (fun y m=>Qq.lt HP.out y m))
  clear HH
  by_cases h1:x.kind=1
  ·rw [if_pos h1,HPT.out] at h
   obtain rfl:=A3 h
   clear h
   go_wp2_with fail
   refine (Zm.givesT (ZHc HPT.out) J2.out (vs:=[_]) ⟨Zh9 ZmV P2.out,trivial⟩).mono ?_
   rintro e w3 ⟨rfl,a⟩
   have W3:Hid (Below w.heap.size w w3):=W2.out.trans (a.mono W2.out.size)
   clear a k0 k1 k2 k3 k4
   go_wp2
   go_ret
   exact ⟨rfl,Nat.le_trans (ZG4 _) yE,W3.out⟩
  ·rw [if_neg h1] at h
   by_cases h2:x.kind=2
   ·rw [if_pos h2,HPT.out,Option.bind_some,if_pos (Nat.le_trans (ZG4 _) yE)] at h
    have HR:Hid ((⟨#[110,111,116,32]⟩:ByteArray)++ZH1 x.pattern=r):=A3 h
    clear h
    go_wp2_with fail
    refine (Zm.givesT (ZHc HPT.out) J2.out (vs:=[_]) ⟨Zh9 ZmV P2.out,trivial⟩).mono ?_
    rintro e w3 ⟨rfl,a⟩
    have W3:Hid (Below w.heap.size w w3):=W2.out.trans (a.mono W2.out.size)
    clear a k0 k1 k2 k3 k4
    go_wp2
    all_goals try (exfalso;have:=ZG4 x.pattern;omega)
    go_ret
    refine ⟨congrArg (fun s=>Ending.returned (.string s)) HR.out,?_,W3.out⟩
    rw [←HR.out,ZyE]
    have:=ZG4 x.pattern
    have e0:(⟨#[110,111,116,32]⟩:ByteArray).size=4:=rfl
    omega
   ·rw [if_neg h2] at h
    split at h
    ·rename_i hc
     obtain ⟨c1,c2,c3,c4⟩:=hc
     have HR:Hid ((x.left++ZHL x.kind)++x.right=r):=A3 h
     have HS:Hid (x.left.size≤1048576∧x.right.size≤1048576):=⟨c3,c4⟩
     obtain ⟨s0,s1,s2⟩:=ZIP J2.out
     have hk:x.kind=3∨x.kind=4∨x.kind=5:=by omega
     clear h c1 c2 c3 c4 h1 h2
     have fin:∀s:ByteArray,s.size≤4→ZHL x.kind=s→(Value.string ((x.left++s)++x.right)=.string r)∧r.size≤9223372036854775807:=by
      intro s hs e
      rw [←HR.out,e]
      refine ⟨rfl,?_⟩
      rw [ZyE,ZyE]
      have:=HS.out
      omega
     have FIN:=Lib.hid fin
     clear fin
     rcases hk with hk | hk | hk
     ·have HK:=Lib.hid hk
      rw [hk] at k0
      clear hk
      have z0:IntKind.i64.wrap 0=0:=rfl
      have z1:¬9223372036854775807<x.left.size+3:=by have hs:=HS.out;omega
      have z2:¬9223372036854775807<x.left.size+3+x.right.size:=by have hs:=HS.out;omega
      go_wp2
      go_quiet (fail)
      go_wp2
      go_ret
      obtain ⟨f1,f2⟩:=FIN.out ⟨#[32,61,32]⟩ yF (by rw [HK.out];rfl)
      exact ⟨congrArg Ending.returned f1,f2,Zrz W2.out nq⟩
     ·have HK:=Lib.hid hk
      rw [hk] at k0
      clear hk
      have z0:IntKind.i64.wrap 1=1:=rfl
      have z1:¬9223372036854775807<x.left.size+4:=by have hs:=HS.out;omega
      have z2:¬9223372036854775807<x.left.size+4+x.right.size:=by have hs:=HS.out;omega
      go_wp2
      go_quiet (fail)
      go_wp2
      go_ret
      obtain ⟨f1,f2⟩:=FIN.out ⟨#[32,33,61,32]⟩ yF (by rw [HK.out];rfl)
      exact ⟨congrArg Ending.returned f1,f2,Zrz W2.out nq⟩
     ·have HK:=Lib.hid hk
      rw [hk] at k0
      clear hk
      have z0:IntKind.i64.wrap 2=2:=rfl
      have z1:¬9223372036854775807<x.left.size+3:=by have hs:=HS.out;omega
      have z2:¬9223372036854775807<x.left.size+3+x.right.size:=by have hs:=HS.out;omega
      go_wp2
      go_quiet (fail)
      go_wp2
      go_ret
      obtain ⟨f1,f2⟩:=FIN.out ⟨#[32,60,32]⟩ yF (by rw [HK.out];rfl)
      exact ⟨congrArg Ending.returned f1,f2,Zrz W2.out nq⟩
    ·cases h
theorem ZHO {a:Zl} {r:ByteArray} (h:ZG3 a=some r):Zm prog J0 88 [(true,ZJ a)] [(false,[(false,.str r)])]:=by
 refine ⟨⟨f88,func88,yO,yO⟩,fun w z vs hj hz ha=>?_⟩
 cases vs with
 | nil=>exact ha.elim
 | cons v vs=>
  obtain ⟨ha,hr⟩:=ha
  cases vs with
  | cons _ _=>exact hr.elim
  | nil=>
   rcases ha with ⟨_,cs,L,rfl,hR,_⟩ | ⟨hf,_⟩
   ·refine (ZIN h w cs L hj (Zkf.of hR)).mono ?_
    rintro e w' ⟨rfl,hs,hb⟩
    exact ⟨_,z,rfl,Ztg ⟨⟨rfl,rfl,hs⟩,rfl⟩,fun b h=>h,hb⟩
   ·simp at hf
end
section
theorem ZIq {append_0:(List Zg)} {String_1:(List Zc)} {a_2:Zc} {r:((List Zwt) × Bool)} (h:ZHk append_0 String_1 a_2=some r):Zm prog J0 29 [(false,[.sl 76 4 (A0 ZL append_0)]),(false,[.sl 53 2 (A0 Zs String_1)]),(true,Zs a_2)] [(false,[(false,.sl 73 3 (A0 ZzG r.1))]),(false,[(false,.bool r.2)])]:=by
 refine fnk func29 rfl ?_
 unfold ZHk at h
 simp only[fnS,f29,Zo,go_sem,seval]
 obtain ⟨g,q,h⟩:=Za h
 refine Zd (Zqu q) ?_
 try simp only[*,go_sem,seval]
 refine yB h (fun _ h=>?_) fun _ h=>?_
 obtain ⟨_,t,h⟩:=Za h
 refine Zd (Zlb t) ?_
 try simp only[*,go_sem,seval]
 refine yB h (fun _ h=>?_) fun _ h=>?_
 obtain ⟨_,u,h⟩:=Za h
 refine Zd (ZcD u) ?_
 try simp only[*,go_sem,seval]
 refine yB h (fun _ h=>?_) fun _ h=>?_
 cases h
 try simp only[*,go_sem,seval]
 refine Zh h (fun i b st=>IV [(5,.bp 0 0),(8,.p false [.row 1]),(10,.p false [.row 2]),(38,yM (yW append_0)),(39,yL append_0.length),(40,yL i)] [zC 53 (Zs a_2),.row 53 2 (A0 Zs g.1) 2,.row 73 3 (A0 ZzG b) 2] st) [(false,10,0)] [0,80,448] yF yD ?_ ?_
 rintro v a b ⟨_,_,_⟩ _ d k w h _
 simp only[go_sem,seval,Zb] at k
 obtain ⟨⟨_,_,_,x,_,_⟩,_,_,_,hn⟩:=k
 subst hn
 have y:=WF.slotL w x (j:=0) rfl
 have:=ZC d
 have:=ZE d
 have:=Zk (ZD d) y
 try simp only[*,go_sem,seval]
 refine Zh h (fun i e st=>IV [(5,.bp 0 0),(8,.p false [.row 1]),(10,.p false [.row 2]),(12,.bp 3 0),(38,yM (yW append_0)),(39,yL append_0.length),(40,yL v),(45,yM (yZ a.thn)),(46,yL a.thn.length),(47,yL i)] [zC 53 (Zs a_2),.row 53 2 (A0 Zs g.1) 2,.row 73 3 (A0 ZzG e) 2,zC 76 (ZL a)] st) [] [0,1,2,51] yF yD ?_ ?_
 rintro _ _ e ⟨_,_,_⟩ _ f l z h _
 simp only[go_sem,seval,Zb] at l
 obtain ⟨⟨_,_,_,_,_,_,_,A,_,_⟩,_,_,_,_,hn⟩:=l
 subst hn
 have B:=WF.slotL z A (j:=0) rfl
 have:=ZC f
 have:=ZE f
 have:=Zk (ZD f) B
 try simp only[*,go_sem,seval]
 obtain ⟨_,C,h⟩:=Za h
 refine Zd (ZbH C) ?_
 try simp only[*,go_sem,seval]
 refine yB h (fun _ h=>?_) fun _ h=>?_
 obtain ⟨_,D,h⟩:=Za h
 refine Zd (ZH0 D) ?_
 try simp only[*,go_sem,seval]
 refine yB h (fun _ h=>?_) fun _ h=>?_
 obtain ⟨_,_,_,_,h⟩:=ZcM h
 try simp only[*,go_sem,seval]
 obtain ⟨_,E,h⟩:=Za h
 refine Zd (ZHO E) ?_
 obtain ⟨F,h⟩:=Zv h
 try simp only[Nat.reduceLeDiff] at F
 try simp only[*,go_sem,seval]
 refine ⟨_,[],[0,1,692,3],(A3 h).symm,yF,?_⟩
 try simp only[*,go_sem,seval]
 obtain ⟨G,h⟩:=Zv h
 try simp only[Nat.reduceLeDiff] at G
 try simp only[*,go_sem,seval]
 refine ⟨_,[],[0,1,564,3],(A3 h).symm,yF,?_⟩
 try simp only[*,go_sem,seval]
 refine ⟨_,[],[0,1,2,3],(A3 h).symm,yF,?_⟩
 try simp only[*,go_sem,seval]
 rintro e ⟨_,_,_⟩ m _ h
 simp only[go_sem,seval,Zb] at m
 obtain ⟨⟨_,_,_,_,_,_,_,_,_,_⟩,_,_,_,_,hn⟩:=m
 subst hn
 have:=ZB (a.thn.length)
 try simp only[*,go_sem,seval]
 refine ⟨_,[],[0,1,2],(A3 h).symm,yF,?_⟩
 try simp only[*,go_sem,seval]
 rintro b ⟨_,_,_⟩ o _ h
 simp only[go_sem,seval,Zb] at o
 obtain ⟨⟨_,_,_,_,_,_⟩,_,_,_,hn⟩:=o
 subst hn
 have:=ZB (append_0.length)
 iterate 3 (cases h;try simp only[*,go_sem,seval])
theorem ZiS {rules_0:(List Zg)} {base_1:(List Zc)} {r:((List Zc) × Zt × Bool)} (h:QX rules_0 base_1=some r):Zm prog J0 102 [(false,[.sl 76 4 (A0 ZL rules_0)]),(false,[.sl 53 2 (A0 Zs base_1)])] [(false,[(false,.sl 53 2 (A0 Zs r.1))]),(true,[(false,.int .i64 r.2.1.nodes),(false,.sl 179 3 (A0 ZG r.2.1.reasons))]),(false,[(false,.bool r.2.2)])]:=by
 refine fnk func102 rfl ?_
 unfold QX at h
 simp only[fnS,f102,Zo,go_sem,seval]
 obtain ⟨_,a,h⟩:=Za h
 refine Zd (Zmr a) ?_
 try simp only[*,go_sem,seval]
 refine yB h (fun _ h=>?_) fun _ h=>?_
 iterate 2 (cases h;try simp only[*,go_sem,seval])
end
section
theorem Zqj {rules_0:(List Zg)} {base_1:(List Zc)} {r:((List Zc) × Bool)} (h:ZfH rules_0 base_1=some r):Zm prog J0 42 [(false,[.sl 76 4 (A0 ZL rules_0)]),(false,[.sl 53 2 (A0 Zs base_1)])] [(false,[(false,.sl 53 2 (A0 Zs r.1))]),(false,[(false,.bool r.2)])]:=by
 refine fnk func42 rfl ?_
 unfold ZfH at h
 simp only[fnS,f42,Zo,go_sem,seval]
 obtain ⟨_,a,h⟩:=Za h
 refine Zd (ZiS a) ?_
 try simp only[*,go_sem,seval]
 refine yB h (fun _ h=>?_) fun _ h=>?_
 obtain ⟨_,b,h⟩:=Za h
 refine Zd (Zul b) ?_
 iterate 2 (cases h;try simp only[*,go_sem,seval])
end
section
theorem ZIn {append_0:(List Zg)} {String_1:(List Zc)} {a_2:Zc} {r:((List Zwt) × Bool)} (h:ZHi append_0 String_1 a_2=some r):Zm prog J0 27 [(false,[.sl 76 4 (A0 ZL append_0)]),(false,[.sl 53 2 (A0 Zs String_1)]),(true,Zs a_2)] [(false,[(false,.sl 73 3 (A0 ZzG r.1))]),(false,[(false,.bool r.2)])]:=by
 refine fnk func27 rfl ?_
 unfold ZHi at h
 simp only[fnS,f27,Zo,go_sem,seval]
 obtain ⟨f,o,h⟩:=Za h
 refine Zd (Zqj o) ?_
 try simp only[*,go_sem,seval]
 refine yB h (fun _ h=>?_) fun _ h=>?_
 obtain ⟨_,q,h⟩:=Za h
 refine Zd (Zk1 q) ?_
 try simp only[*,go_sem,seval]
 refine yB h (fun _ h=>?_) fun _ h=>?_
 obtain ⟨_,t,h⟩:=Za h
 refine Zd (Zfa t) ?_
 try simp only[*,go_sem,seval]
 refine yB h (fun _ h=>?_) fun _ h=>?_
 cases h
 try simp only[*,go_sem,seval]
 refine Zh h (fun i b st=>IV [(0,yM (yW append_0)),(5,.bp 0 0),(8,.p false [.row 1]),(9,.p false [.row 2]),(11,yL i)] [zC 53 (Zs a_2),.row 73 3 (A0 ZzG b) 2,.row 53 2 (A0 Zs f.1) 2] st) [] [0,48,112] yF yD ?_ ?_
 rintro u v b ⟨_,_,_⟩ _ a g w h _
 simp only[go_sem,seval,Zb] at g
 obtain ⟨⟨x,_,_,_,_⟩,_,_,_,hn⟩:=g
 subst hn
 have y:=WF.slotL w x (j:=0) rfl
 have:=ZC a
 have:=ZE a
 have:=Zk (ZD a) y
 try simp only[*,go_sem,seval]
 refine Zh h (fun i d st=>IV [(0,yM (yW append_0)),(5,.bp 0 0),(8,.p false [.row 1]),(9,.p false [.row 2]),(11,yL u),(12,yL i)] [zC 53 (Zs a_2),.row 73 3 (A0 ZzG d) 2,.row 53 2 (A0 Zs f.1) 2] st) [] [0,1,2] yF yD ?_ ?_
 rintro _ _ d ⟨_,_,_⟩ _ e k z h _
 simp only[go_sem,seval,Zb] at k
 obtain ⟨⟨A,_,_,_,_,_⟩,_,_,_,hn⟩:=k
 subst hn
 have B:=WF.elL (WF.slotD z A (j:=0) rfl) a (j:=3) rfl
 have:=ZC e
 have:=ZE e
 have:=Zk (ZD e) B
 try simp only[*,go_sem,seval]
 obtain ⟨_,C,h⟩:=Za h
 refine Zd (Zg5 C) ?_
 try simp only[*,go_sem,seval]
 refine yB h (fun _ h=>?_) fun _ h=>?_
 obtain ⟨_,D,h⟩:=Za h
 refine Zd (ZIw D) ?_
 try simp only[*,go_sem,seval]
 refine yB h (fun _ h=>?_) fun _ h=>?_
 obtain ⟨_,_,_,_,h⟩:=ZcM h
 try simp only[*,go_sem,seval]
 obtain ⟨_,E,h⟩:=Za h
 refine Zd (ZHQ E) ?_
 obtain ⟨F,h⟩:=Zv h
 try simp only[Nat.reduceLeDiff] at F
 try simp only[*,go_sem,seval]
 refine ⟨_,[],[0,1043,2],(A3 h).symm,yF,?_⟩
 try simp only[*,go_sem,seval]
 obtain ⟨G,h⟩:=Zv h
 try simp only[Nat.reduceLeDiff] at G
 try simp only[*,go_sem,seval]
 refine ⟨_,[],[0,867,2],(A3 h).symm,yF,?_⟩
 try simp only[*,go_sem,seval]
 refine ⟨_,[],[0,1,2],(A3 h).symm,yF,?_⟩
 try simp only[*,go_sem,seval]
 rintro d ⟨_,_,_⟩ l _ h
 simp only[go_sem,seval,Zb] at l
 obtain ⟨⟨_,_,_,_,_,_⟩,_,_,_,hn⟩:=l
 subst hn
 have:=ZB (v.thn.length)
 try simp only[*,go_sem,seval]
 refine ⟨_,[],[0,1,2],(A3 h).symm,yF,?_⟩
 try simp only[*,go_sem,seval]
 rintro b ⟨_,_,_⟩ m _ h
 simp only[go_sem,seval,Zb] at m
 obtain ⟨⟨_,_,_,_,_⟩,_,_,_,hn⟩:=m
 subst hn
 have:=ZB (append_0.length)
 iterate 3 (cases h;try simp only[*,go_sem,seval])
end
end Go.Proofs.YtlpkbfjcdaanmaaGreatDoor
