/- Texts of this proof, joined: Dp9, Dp12, Dp11, Dp13, Dp14, Dp15, Dp16, Dp17, Dp18, Dp19, Dp20, Dp21, Dp22, Dp23, BStd, Open, LawFnWhySets. What each holds is said at its theorems. -/
import Derived.Test.YtfehfkfdfmcgfaaGreatDoorWhySetsQ7
import Derived.Test.YtfehfkfdfmcgfaaGreatDoorWhySetsQ5
import Derived.Test.YtfehfkfdfmcgfaaGreatDoorWhySetsQ1
import Derived.Deep.Slices
import Derived.ChangeArms
import Derived.ProofKit
import Derived.Test.YtfehfkfdfmcgfaaGreatDoorWhySetsQ4
set_option linter.unusedSimpArgs false
set_option linter.unusedVariables false
open Int renaming toNat_natCast→A4
open List renaming map→A0,getElem?_map→A5,map_cons→A6,map_nil→A7
open Option.some renaming inj→A3
open Go.Proofs.Tryz
namespace Go.Proofs.YtfehfkfdfmcgfaaGreatDoor
section
set_option linter.unusedSimpArgs false
set_option linter.unusedVariables false
set_option maxRecDepth 1000000
set_option maxHeartbeats 4000000
theorem Zbq {r_0:Zg} {n_1:Int} {r:(List ByteArray)} (h:X5 r_0 n_1=some r):Zk prog J0 219 [(true,ZF r_0),(false,[.int .i64 n_1])] [(false,[(false,.sl 9 1 (A0 Zx r))])]:=by
 refine fnk func219 rfl ?_
 unfold X5 at h
 simp only[fnS,f219,Zm,go_sem,seval]
 refine Zi h (fun i a st=>IV [(1,.p false [.c (.int .i64 n_1)]),(2,.bp 0 0),(5,.p false [.row 1]),(6,.p false [.c (.int .i64 ((i:Nat):Int))])] [.box 42 [.c (.str r_0.name),.c (.int .i64 r_0.priority),.c (.sl 173 5 (A0 ZK r_0.cond)),.c (.sl 50 3 (A0 ZG r_0.thn))],.row 9 1 (A0 Zx a) 2] st) [] [0,32] (by decide) ?_ ?_ ?_
 simp only[*,go_sem,seval]
 rintro b _ a ⟨sl,ob,n⟩ _ d g q h t
 simp only[go_sem,seval,Zc] at g
 obtain ⟨⟨_,_,_,_⟩,u,_,hn⟩:=g
 subst hn
 have v:=WF.boxL q u (j:=2) rfl
 have:=ZA d
 have:=ZC d
 have:=Zj (ZB d) v
 simp only[*,go_sem,seval]
 iterate 2 refine Ze h (fun _ h=>?_) fun _ h=>?_<;>try simp only[*,go_sem,seval]
 refine ZMH h fun k w h=>Zd (Zcw w) ?_
 simp only[*,go_sem,seval]
 refine Zi h (fun i e st=>IV [(1,.p false [.c (.int .i64 n_1)]),(2,.bp 0 0),(5,.p false [.row 1]),(6,.p false [.c (.int .i64 ((b:Nat):Int))]),(7,.p false [.row 2]),(8,.p false [.c (.int .i64 ((i:Nat):Int))]),(16,.p false [.c (.int .i64 ((b:Nat):Int))]),(17,.p false [.c (.int .i64 n_1)]),(18,.p false [.c (.bool (decide (((b:Nat):Int)<n_1)))])] [.box 42 [.c (.str r_0.name),.c (.int .i64 r_0.priority),.c (.sl 173 5 (A0 ZK r_0.cond)),.c (.sl 50 3 (A0 ZG r_0.thn))],.row 9 1 (A0 Zx e) 2,.row 9 1 (A0 Zx k) 2] st) [] [0,1,370] (by decide) ?_ ?_ ?_
 simp only[*,go_sem,seval]
 rintro _ _ e ⟨sl,ob,n⟩ _ f l x h _
 simp only[go_sem,seval,Zc] at l
 obtain ⟨⟨_,_,_,_,_,_,_,_,_⟩,_,_,y,hn⟩:=l
 subst hn
 have z:=WF.rowL x y
 have:=ZA f
 have:=ZC f
 have:=Zj (ZB f) z
 simp only[*,go_sem,seval]
 refine ZMH h fun _ A h=>Zd (Xg A) ?_
 simp only[*,go_sem,seval]
 refine ⟨_,[],[0,147,2],(A3 h).symm,by decide,?_⟩
 simp only[*,go_sem,seval]
 rintro e ⟨sl,ob,n⟩ m _ h
 simp only[go_sem,seval,Zc] at m
 obtain ⟨⟨_,_,_,_,_,_,_,_,_⟩,_,_,_,hn⟩:=m
 subst hn
 have:=Zy (k.length)
 simp only[*,go_sem,seval]
 refine ⟨_,[],[0,1],(A3 h).symm,by decide,?_⟩
 simp only[*,go_sem,seval]
 refine ⟨_,[],[0,1],(A3 h).symm,by decide,?_⟩
 simp only[*,go_sem,seval]
 replace h:=Zn h t
 cases h
 simp only[*,go_sem,seval]
 rintro a ⟨sl,ob,n⟩ o _ h
 simp only[go_sem,seval,Zc] at o
 obtain ⟨⟨_,_,_,_⟩,_,_,hn⟩:=o
 subst hn
 have:=Zy (r_0.cond.length)
 cases h
 simp only[*,go_sem,seval]
theorem Xi {p_0:Zv} {r:Bool} (h:YS p_0=some r):Zk prog J0 71 [(true,QA p_0)] [(false,[(false,.bool r)])]:=by
 refine fnk func71 rfl ?_
 unfold YS at h
 simp only[fnS,f71,Zm,go_sem,seval]
 refine Zi h (fun i _ st=>IV [(1,.bp 0 0),(3,.p false [.c (.int .i64 ((i:Nat):Int))])] [.box 48 [.c (.str p_0.rel),.c (.sl 9 1 (A0 Zx p_0.args))]] st) [] [0] (by decide) ?_ ?_ ?_
 simp only[*,go_sem,seval]
 rintro _ _ ⟨⟩ ⟨sl,ob,n⟩ _ a b e h f
 simp only[go_sem,seval,Zc] at b
 obtain ⟨⟨_,_⟩,g,hn⟩:=b
 subst hn
 have k:=WF.boxL e g (j:=1) rfl
 have:=ZA a
 have:=ZC a
 have:=Zj (ZB a) k
 simp only[*,go_sem,seval]
 refine ZMH h fun _ l h=>Zd (QY l) ?_
 simp only[*,go_sem,seval]
 refine Ze h (fun _ h=>?_) fun _ h=>?_<;>try simp only[*,go_sem,seval]
 refine ⟨_,[],[0],(A3 h).symm,by decide,?_⟩
 simp only[*,go_sem,seval]
 replace h:=Zn h f
 cases h
 simp only[*,go_sem,seval]
 rintro ⟨⟩ ⟨sl,ob,n⟩ d _ h
 simp only[go_sem,seval,Zc] at d
 obtain ⟨⟨_,_⟩,_,hn⟩:=d
 subst hn
 have:=Zy (p_0.args.length)
 simp only[*,go_sem,seval]
 refine ZMH h fun _ m h=>Zd (ZgV m) ?_
 simp only[*,go_sem,seval]
 refine Ze h (fun _ h=>?_) fun _ h=>?_<;>try simp only[*,go_sem,seval]
 iterate 2 (cases h;simp only[*,go_sem,seval])
theorem Zas {x_0:Zt} {r:(List ByteArray)} (h:XH x_0=some r):Zk prog J0 221 [(true,ZK x_0)] [(false,[(false,.sl 9 1 (A0 Zx r))])]:=by
 refine fnk func221 rfl ?_
 unfold XH at h
 simp only[fnS,f221,Zm,go_sem,seval]
 refine ZMH h fun _ a h=>Zd (Zcw a) ?_
 simp only[*,go_sem,seval]
 refine ZMH h fun _ b h=>Zd (Q3 b) ?_
 simp only[*,go_sem,seval]
 refine Ze h (fun _ h=>?_) fun _ h=>?_<;>try simp only[*,go_sem,seval]
 refine ZMH h fun _ c h=>Zd (Xg c) ?_
 simp only[*,go_sem,seval]
 refine ZMH h fun _ d h=>Zd (Q3 d) ?_
 simp only[*,go_sem,seval]
 refine Ze h (fun _ h=>?_) fun _ h=>?_<;>try simp only[*,go_sem,seval]
 refine ZMH h fun _ e h=>Zd (Xg e) ?_
 iterate 2 (cases h;simp only[*,go_sem,seval])
 refine ZMH h fun _ f h=>Zd (Q3 f) ?_
 simp only[*,go_sem,seval]
 refine Ze h (fun _ h=>?_) fun _ h=>?_<;>try simp only[*,go_sem,seval]
 refine ZMH h fun _ g h=>Zd (Xg g) ?_
 iterate 2 (cases h;simp only[*,go_sem,seval])
theorem Zdw {a:(List Zb)} {f_1:Zb} {r:(List Zb)} (h:YX a f_1=some r):Zk prog J0 127 [(false,[.sl 45 2 (A0 Zl a)]),(true,Zl f_1)] [(false,[(false,.sl 45 2 (A0 Zl r))])]:=by
 refine fnk func127 rfl ?_
 unfold YX at h
 simp only[fnS,f127,Zm,go_sem,seval]
 refine Zi h (fun i s st=>match s with | (b,d)=>IV [(0,.p false [.c (.sl 45 2 (A0 Zl a))]),(3,.bp 0 0),(5,.p false [.row 1]),(6,.p false [.c (.bool d)]),(7,.p false [.c (.int .i64 ((i:Nat):Int))])] [.box 45 [.c (.str f_1.rel),.c (.sl 9 1 (A0 Zx f_1.args))],.row 45 2 (A0 Zl b) 2] st) [] [0,32] (by decide) ?_ ?_ ?_
 simp only[*,go_sem,seval]
 rintro _ _ ⟨b,d⟩ ⟨sl,ob,n⟩ _ e f k h _
 simp only[go_sem,seval,Zc] at f
 obtain ⟨⟨l,_,_,_,_⟩,_,_,hn⟩:=f
 subst hn
 have m:=WF.slotL k l (j:=0) rfl
 have:=ZA e
 have:=ZC e
 have:=Zj (ZB e) m
 simp only[*,go_sem,seval]
 refine Ze h (fun _ h=>?_) fun _ h=>?_<;>try simp only[*,go_sem,seval]
 refine ZMH h fun _ o h=>Zd (Xa o) ?_
 obtain ⟨q,h⟩:=Zq h
 try simp only[Nat.reduceLeDiff] at q
 simp only[*,go_sem,seval]
 refine ⟨_,[],[0,354],(A3 h).symm,by decide,?_⟩
 simp only[*,go_sem,seval]
 refine ZMH h fun _ t h=>Zd (Qv t) ?_
 simp only[*,go_sem,seval]
 refine Ze h (fun _ h=>?_) fun _ h=>?_<;>try simp only[*,go_sem,seval]
 refine ZMH h fun _ u h=>Zd (Qv u) ?_
 simp only[*,go_sem,seval]
 refine Ze h (fun _ h=>?_) fun _ h=>?_<;>try simp only[*,go_sem,seval]
 refine ZMH h fun _ v h=>Zd (Xa v) ?_
 obtain ⟨w,h⟩:=Zq h
 try simp only[Nat.reduceLeDiff] at w
 simp only[*,go_sem,seval]
 refine ZMH h fun _ x h=>Zd (Xa x) ?_
 obtain ⟨y,h⟩:=Zq h
 try simp only[Nat.reduceLeDiff] at y
 simp only[*,go_sem,seval]
 refine ⟨_,[],[0,578],(A3 h).symm,by decide,?_⟩
 simp only[*,go_sem,seval]
 refine ZMH h fun _ z h=>Zd (Xa z) ?_
 obtain ⟨A,h⟩:=Zq h
 try simp only[Nat.reduceLeDiff] at A
 simp only[*,go_sem,seval]
 refine ⟨_,[],[0,482],(A3 h).symm,by decide,?_⟩
 simp only[*,go_sem,seval]
 refine ZMH h fun _ B h=>Zd (Xa B) ?_
 obtain ⟨C,h⟩:=Zq h
 try simp only[Nat.reduceLeDiff] at C
 simp only[*,go_sem,seval]
 refine ⟨_,[],[0,354],(A3 h).symm,by decide,?_⟩
 simp only[*,go_sem,seval]
 rintro ⟨b,d⟩ ⟨sl,ob,n⟩ g _ h
 simp only[go_sem,seval,Zc] at g
 obtain ⟨⟨_,_,_,_,_⟩,_,_,hn⟩:=g
 subst hn
 have:=Zy (a.length)
 simp only[*,go_sem,seval]
 refine Ze h (fun _ h=>?_) fun _ h=>?_<;>try simp only[*,go_sem,seval]
 cases h
 simp only[*,go_sem,seval]
 refine ZMH h fun _ D h=>Zd (Xa D) ?_
 obtain ⟨E,h⟩:=Zq h
 try simp only[Nat.reduceLeDiff] at E
 cases h
 simp only[*,go_sem,seval]
theorem Zep {l_0:(List Zb)} {r:Bool} (h:ZaH l_0=some r):Zk prog J0 66 [(false,[.sl 45 2 (A0 Zl l_0)])] [(false,[(false,.bool r)])]:=by
 refine fnk func66 rfl ?_
 unfold ZaH at h
 simp only[fnS,f66,Zm,go_sem,seval]
 refine Ze h (fun _ h=>?_) fun _ h=>?_<;>try simp only[*,go_sem,seval]
 cases h
 simp only[*,go_sem,seval]
 refine Zi h (fun i _ st=>IV [(0,.p false [.c (.sl 45 2 (A0 Zl l_0))]),(8,.p false [.c (.sl 45 2 (A0 Zl l_0))]),(9,.p false [.c (.int .i64 ((l_0.length:Nat):Int))]),(10,.p false [.c (.int .i64 ((i:Nat):Int))])] [] st) [] [] (by decide) ?_ ?_ ?_
 simp only[*,go_sem,seval]
 rintro _ _ ⟨⟩ ⟨sl,ob,n⟩ _ a b f h d
 simp only[go_sem,seval,Zc] at b
 obtain ⟨⟨g,_,_,_⟩,hn⟩:=b
 subst hn
 have k:=WF.slotL f g (j:=0) rfl
 have:=ZA a
 have:=ZC a
 have:=Zj (ZB a) k
 simp only[*,go_sem,seval]
 refine ZMH h fun _ l h=>Zd (Zky l) ?_
 simp only[*,go_sem,seval]
 iterate 2 refine Ze h (fun _ h=>?_) fun _ h=>?_<;>try simp only[*,go_sem,seval]
 obtain ⟨_,_,_,_,h⟩:=ZbQ h
 simp only[*,go_sem,seval]
 refine ZMH h fun _ m h=>Zd (Zd7 m) ?_
 simp only[*,go_sem,seval]
 refine Ze h (fun _ h=>?_) fun _ h=>?_<;>try simp only[*,go_sem,seval]
 replace h:=Zn h d
 cases h
 simp only[*,go_sem,seval]
 refine ⟨_,[],[],(A3 h).symm,by decide,?_⟩
 simp only[*,go_sem,seval]
 refine ⟨_,[],[],(A3 h).symm,by decide,?_⟩
 simp only[*,go_sem,seval]
 replace h:=Zn h d
 cases h
 simp only[*,go_sem,seval]
 rintro ⟨⟩ ⟨sl,ob,n⟩ e _ h
 simp only[go_sem,seval,Zc] at e
 obtain ⟨⟨_,_,_,_⟩,hn⟩:=e
 subst hn
 have:=Zy (l_0.length)
 cases h
 simp only[*,go_sem,seval]
theorem Zce {p_0:Zv} {b_1:(List Zs)} {r:(Zb × Bool)} (h:XL p_0 b_1=some r):Zk prog J0 68 [(true,QA p_0),(false,[.sl 166 2 (A0 Z4 b_1)])] [(true,[(false,.str r.1.rel),(false,.sl 9 1 (A0 Zx r.1.args))]),(false,[(false,.bool r.2)])]:=by
 refine fnk func68 rfl ?_
 unfold XL at h
 simp only[fnS,f68,Zm,go_sem,seval]
 refine ZMH h fun _ f h=>Zd (XQ f) ?_
 simp only[*,go_sem,seval]
 refine Ze h (fun _ h=>?_) fun _ h=>?_<;>try simp only[*,go_sem,seval]
 refine ZMH h fun _ g h=>Zd (QO g) ?_
 simp only[*,go_sem,seval]
 refine Ze h (fun _ h=>?_) fun _ h=>?_<;>try simp only[*,go_sem,seval]
 refine Zi h (fun i a st=>IV [(1,.p false [.c (.sl 166 2 (A0 Z4 b_1))]),(4,.bp 0 0),(6,.bp 1 0),(24,.p false [.c (.sl 9 1 (A0 Zx p_0.args))]),(25,.p false [.c (.int .i64 ((p_0.args.length:Nat):Int))]),(26,.p false [.c (.int .i64 ((i:Nat):Int))])] [.box 45 [.c (.str ⟨#[]⟩),.nil 9 1],.box 45 [.c (.str p_0.rel),.row 2],.row 9 1 (A0 Zx a) 2] st) [(true,224,1)] [16,224,320] (by decide) ?_ ?_ ?_
 simp only[*,go_sem,seval]
 rintro _ _ a ⟨sl,ob,n⟩ _ b d k h l
 simp only[go_sem,seval,Zc] at d
 obtain ⟨⟨_,_,_,m,_,_⟩,_,_,_,hn⟩:=d
 subst hn
 have o:=WF.slotL k m (j:=0) rfl
 have:=ZA b
 have:=ZC b
 have:=Zj (ZB b) o
 simp only[*,go_sem,seval]
 refine ZMH h fun _ q h=>Zd (ZcR q) ?_
 simp only[*,go_sem,seval]
 refine Ze h (fun _ h=>?_) fun _ h=>?_<;>try simp only[*,go_sem,seval]
 obtain ⟨t,h⟩:=Zq h
 try simp only[Nat.reduceLeDiff] at t
 simp only[*,go_sem,seval]
 refine ⟨_,[],[0,1,291],(A3 h).symm,by decide,?_⟩
 simp only[*,go_sem,seval]
 replace h:=Zn h l
 cases h
 simp only[*,go_sem,seval]
 rintro a ⟨sl,ob,n⟩ e _ h
 simp only[go_sem,seval,Zc] at e
 obtain ⟨⟨_,_,_,_,_,_⟩,_,_,_,hn⟩:=e
 subst hn
 have:=Zy (p_0.args.length)
 iterate 3 (cases h;simp only[*,go_sem,seval])
theorem Zgc {x_0:Zt} {r:Bool} (h:ZdA x_0=some r):Zk prog J0 196 [(true,ZK x_0)] [(false,[(false,.bool r)])]:=by
 refine fnk func196 rfl ?_
 unfold ZdA at h
 have a:Z9 ⟨#[]⟩=true:=by decide
 simp only[fnS,f196,Zm,go_sem,seval,a]
 refine Ze h (fun _ h=>?_) fun _ h=>?_<;>try simp only[*,go_sem,seval]
 refine ZMH h fun _ b h=>Zd (XQ b) ?_
 simp only[*,go_sem,seval]
 iterate 2 refine Ze h (fun _ h=>?_) fun _ h=>?_<;>try simp only[*,go_sem,seval]
 iterate 3 (cases h;simp only[*,go_sem,seval])
 refine Ze h (fun _ h=>?_) fun _ h=>?_<;>try simp only[*,go_sem,seval]
 refine ZMH h fun _ c h=>Zd (XQ c) ?_
 simp only[*,go_sem,seval]
 iterate 2 refine Ze h (fun _ h=>?_) fun _ h=>?_<;>try simp only[*,go_sem,seval]
 iterate 3 (cases h;simp only[*,go_sem,seval])
 refine Ze h (fun _ h=>?_) fun _ h=>?_<;>try simp only[*,go_sem,seval]
 refine ZMH h fun _ d h=>Zd (QH d) ?_
 simp only[*,go_sem,seval]
 refine Ze h (fun _ h=>?_) fun _ h=>?_<;>try simp only[*,go_sem,seval]
 refine ZMH h fun _ e h=>Zd (QH e) ?_
 simp only[*,go_sem,seval]
 refine Ze h (fun _ h=>?_) fun _ h=>?_<;>try simp only[*,go_sem,seval]
 refine ZMH h fun _ f h=>Zd (Q8 f) ?_
 iterate 3 (cases h;simp only[*,go_sem,seval])
 refine Ze h (fun _ h=>?_) fun _ h=>?_<;>try simp only[*,go_sem,seval]
 refine ZMH h fun _ g h=>Zd (QH g) ?_
 simp only[*,go_sem,seval]
 refine Ze h (fun _ h=>?_) fun _ h=>?_<;>try simp only[*,go_sem,seval]
 refine ZMH h fun _ i h=>Zd (QH i) ?_
 simp only[*,go_sem,seval]
 refine Ze h (fun _ h=>?_) fun _ h=>?_<;>try simp only[*,go_sem,seval]
 refine ZMH h fun _ j h=>Zd (Q8 j) ?_
 iterate 3 (cases h;simp only[*,go_sem,seval])
 refine Ze h (fun _ h=>?_) fun _ h=>?_<;>try simp only[*,go_sem,seval]
 refine ZMH h fun _ k h=>Zd (QH k) ?_
 simp only[*,go_sem,seval]
 refine Ze h (fun _ h=>?_) fun _ h=>?_<;>try simp only[*,go_sem,seval]
 refine ZMH h fun _ l h=>Zd (QH l) ?_
 simp only[*,go_sem,seval]
 refine Ze h (fun _ h=>?_) fun _ h=>?_<;>try simp only[*,go_sem,seval]
 refine ZMH h fun _ m h=>Zd (Q8 m) ?_
 iterate 4 (cases h;simp only[*,go_sem,seval])
theorem Zgm {r_0:Zg} {k_1:Int} {v_2:ByteArray} {r:Bool} (h:XC r_0 k_1 v_2=some r):Zk prog J0 264 [(true,ZF r_0),(false,[.int .i64 k_1]),(false,[.str v_2])] [(false,[(false,.bool r)])]:=by
 refine fnk func264 rfl ?_
 unfold XC at h
 simp only[fnS,f264,Zm,go_sem,seval]
 refine Zi h (fun i _ st=>IV [(1,.p false [.c (.int .i64 k_1)]),(2,.p false [.c (.str v_2)]),(3,.bp 0 0),(12,.p false [.c (.sl 173 5 (A0 ZK r_0.cond))]),(13,.p false [.c (.int .i64 ((r_0.cond.length:Nat):Int))]),(14,.p false [.c (.int .i64 ((i:Nat):Int))])] [.box 42 [.c (.str r_0.name),.c (.int .i64 r_0.priority),.c (.sl 173 5 (A0 ZK r_0.cond)),.c (.sl 50 3 (A0 ZG r_0.thn))]] st) [] [0] (by decide) ?_ ?_ ?_
 simp only[*,go_sem,seval]
 rintro _ _ ⟨⟩ ⟨sl,ob,n⟩ _ a d k h l
 simp only[go_sem,seval,Zc] at d
 obtain ⟨⟨_,_,_,m,_,_⟩,_,hn⟩:=d
 subst hn
 have o:=WF.slotL k m (j:=0) rfl
 have:=ZA a
 have:=ZC a
 have:=Zj (ZB a) o
 simp only[*,go_sem,seval]
 refine Ze h (fun _ h=>?_) fun _ h=>?_<;>try simp only[*,go_sem,seval]
 refine ZMH h fun _ q h=>Zd (Zb9 q) ?_
 simp only[*,go_sem,seval]
 refine ZMH h fun _ t h=>Zd (Zac t) ?_
 simp only[*,go_sem,seval]
 refine Ze h (fun _ h=>?_) fun _ h=>?_<;>try simp only[*,go_sem,seval]
 replace h:=Zn h l
 cases h
 simp only[*,go_sem,seval]
 refine ⟨_,[],[0],(A3 h).symm,by decide,?_⟩
 simp only[*,go_sem,seval]
 refine ⟨_,[],[0],(A3 h).symm,by decide,?_⟩
 simp only[*,go_sem,seval]
 rintro ⟨⟩ ⟨sl,ob,n⟩ e _ h
 simp only[go_sem,seval,Zc] at e
 obtain ⟨⟨_,_,_,_,_,_⟩,_,hn⟩:=e
 subst hn
 have:=Zy (r_0.cond.length)
 simp only[*,go_sem,seval]
 refine Zi h (fun i _ st=>IV [(2,.p false [.c (.str v_2)]),(30,.p false [.c (.sl 50 3 (A0 ZG r_0.thn))]),(31,.p false [.c (.int .i64 ((r_0.thn.length:Nat):Int))]),(32,.p false [.c (.int .i64 ((i:Nat):Int))])] [] st) [] [] (by decide) ?_ ?_ ?_
 simp only[*,go_sem,seval]
 rintro _ _ ⟨⟩ ⟨sl,ob,n⟩ _ b f u h v
 simp only[go_sem,seval,Zc] at f
 obtain ⟨⟨_,w,_,_⟩,hn⟩:=f
 subst hn
 have x:=WF.slotL u w (j:=0) rfl
 have:=ZA b
 have:=ZC b
 have:=Zj (ZB b) x
 simp only[*,go_sem,seval]
 refine ZMH h fun _ y h=>Zd (Zac y) ?_
 simp only[*,go_sem,seval]
 refine Ze h (fun _ h=>?_) fun _ h=>?_<;>try simp only[*,go_sem,seval]
 replace h:=Zn h v
 cases h
 simp only[*,go_sem,seval]
 refine ⟨_,[],[],(A3 h).symm,by decide,?_⟩
 simp only[*,go_sem,seval]
 rintro ⟨⟩ ⟨sl,ob,n⟩ g _ h
 simp only[go_sem,seval,Zc] at g
 obtain ⟨⟨_,_,_,_⟩,hn⟩:=g
 subst hn
 have:=Zy (r_0.thn.length)
 cases h
 simp only[*,go_sem,seval]
theorem ZmO {a_0:Zz} {r:Bool} (h:Zdl a_0=some r):Zk prog J0 199 [(true,ZG a_0)] [(false,[(false,.bool r)])]:=by
 refine fnk func199 rfl ?_
 unfold Zdl at h
 simp only[fnS,f199,Zm,go_sem,seval]
 refine Ze h (fun _ h=>?_) fun _ h=>?_<;>try simp only[*,go_sem,seval]
 refine ZMH h fun _ a h=>Zd (XQ a) ?_
 cases h
 simp only[*,go_sem,seval]
 refine Ze h (fun _ h=>?_) fun _ h=>?_<;>try simp only[*,go_sem,seval]
 refine ZMH h fun _ b h=>Zd (XQ b) ?_
 cases h
 simp only[*,go_sem,seval]
 refine Ze h (fun _ h=>?_) fun _ h=>?_<;>try simp only[*,go_sem,seval]
 refine ZMH h fun _ c h=>Zd (Q8 c) ?_
 iterate 2 (cases h;simp only[*,go_sem,seval])
theorem ZkH {l_0:(List Zt)} {r:(List ByteArray)} (h:Zbp l_0=some r):Zk prog J0 201 [(false,[.sl 173 5 (A0 ZK l_0)])] [(false,[(false,.sl 9 1 (A0 Zx r))])]:=by
 refine fnk func201 rfl ?_
 unfold Zbp at h
 simp only[fnS,f201,Zm,go_sem,seval]
 refine Zi h (fun i a st=>IV [(3,.p false [.row 0]),(6,.p false [.c (.sl 173 5 (A0 ZK l_0))]),(7,.p false [.c (.int .i64 ((l_0.length:Nat):Int))]),(8,.p false [.c (.int .i64 ((i:Nat):Int))])] [.row 9 1 (A0 Zx a) 2] st) [(false,3,0)] [80] (by decide) ?_ ?_ ?_
 simp only[*,go_sem,seval]
 rintro _ _ a ⟨sl,ob,n⟩ _ b d f h _
 simp only[go_sem,seval,Zc] at d
 obtain ⟨⟨_,g,_,_⟩,_,hn⟩:=d
 subst hn
 have k:=WF.slotL f g (j:=0) rfl
 have:=ZA b
 have:=ZC b
 have:=Zj (ZB b) k
 simp only[*,go_sem,seval]
 refine ZMH h fun _ l h=>Zd (Zb9 l) ?_
 obtain ⟨_,h⟩:=Zq h
 simp only[*,go_sem,seval]
 refine ⟨_,[],[129],(A3 h).symm,by decide,?_⟩
 simp only[*,go_sem,seval]
 rintro a ⟨sl,ob,n⟩ e _ h
 simp only[go_sem,seval,Zc] at e
 obtain ⟨⟨_,_,_,_⟩,_,hn⟩:=e
 subst hn
 have:=Zy (l_0.length)
 cases h
 simp only[*,go_sem,seval]
theorem ZgE {append_0:Zv} {String_1:Zb} {a_2:(List Zs)} {r:((List Zs) × Bool)} (h:Za0 append_0 String_1 a_2=some r):Zk prog J0 154 [(true,QA append_0),(true,Zl String_1),(false,[.sl 166 2 (A0 Z4 a_2)])] [(false,[(false,.sl 166 2 (A0 Z4 r.1))]),(false,[(false,.bool r.2)])]:=by
 refine fnk func154 rfl ?_
 unfold Za0 at h
 simp only[fnS,f154,Zm,go_sem,seval]
 refine ZMH h fun _ g h=>Zd (XQ g) ?_
 simp only[*,go_sem,seval]
 refine Ze h (fun _ h=>?_) fun _ h=>?_<;>try simp only[*,go_sem,seval]
 refine ZMH h fun _ k h=>Zd (Zky k) ?_
 simp only[*,go_sem,seval]
 refine Ze h (fun _ h=>?_) fun _ h=>?_<;>try simp only[*,go_sem,seval]
 refine ZMH h fun _ l h=>Zd (QO l) ?_
 simp only[*,go_sem,seval]
 iterate 3 refine Ze h (fun _ h=>?_) fun _ h=>?_<;>try simp only[*,go_sem,seval]
 cases h
 simp only[*,go_sem,seval]
 refine ZMH h fun _ m h=>Zd (Zgp m) ?_
 simp only[*,go_sem,seval]
 refine Zi h (fun i a st=>IV [(4,.bp 0 0),(8,.p false [.row 1]),(45,.p false [.c (.sl 9 1 (A0 Zx append_0.args))]),(46,.p false [.c (.int .i64 ((append_0.args.length:Nat):Int))]),(47,.p false [.c (.int .i64 ((i:Nat):Int))])] [.box 45 [.c (.str String_1.rel),.c (.sl 9 1 (A0 Zx String_1.args))],.row 166 2 (A0 Z4 a) 2] st) [] [16,544] (by decide) ?_ ?_ ?_
 simp only[*,go_sem,seval]
 rintro _ _ a ⟨sl,ob,n⟩ _ b d o h e
 simp only[go_sem,seval,Zc] at d
 obtain ⟨⟨_,_,q,_,_⟩,_,_,hn⟩:=d
 subst hn
 have t:=WF.slotL o q (j:=0) rfl
 have:=ZA b
 have:=ZC b
 have:=Zj (ZB b) t
 simp only[*,go_sem,seval]
 refine ZMH h fun _ u h=>Zd (X4 u) ?_
 simp only[*,go_sem,seval]
 refine Ze h (fun _ h=>?_) fun _ h=>?_<;>try simp only[*,go_sem,seval]
 obtain ⟨_,_,_,v,h⟩:=ZbQ h
 simp only[A4] at v
 simp only[*,go_sem,seval]
 refine Ze h (fun _ h=>?_) fun _ h=>?_<;>try simp only[*,go_sem,seval]
 refine ⟨_,[],[0,1],(A3 h).symm,by decide,?_⟩
 simp only[*,go_sem,seval]
 replace h:=Zn h e
 cases h
 simp only[*,go_sem,seval]
 obtain ⟨_,_,_,w,h⟩:=ZbQ h
 simp only[A4] at w
 simp only[*,go_sem,seval]
 refine ZMH h fun _ x h=>Zd (Zq8 x) ?_
 simp only[*,go_sem,seval]
 refine Ze h (fun _ h=>?_) fun _ h=>?_<;>try simp only[*,go_sem,seval]
 refine ⟨_,[],[0,242],(A3 h).symm,by decide,?_⟩
 simp only[*,go_sem,seval]
 replace h:=Zn h e
 cases h
 simp only[*,go_sem,seval]
 rintro a ⟨sl,ob,n⟩ f _ h
 simp only[go_sem,seval,Zc] at f
 obtain ⟨⟨_,_,_,_,_⟩,_,_,hn⟩:=f
 subst hn
 have:=Zy (append_0.args.length)
 iterate 5 (cases h;simp only[*,go_sem,seval])
theorem Zo5 {a:(List Zb)} {f_1:Zb} {r:(List Zb)} (h:XW a f_1=some r):Zk prog J0 86 [(false,[.sl 45 2 (A0 Zl a)]),(true,Zl f_1)] [(false,[(false,.sl 45 2 (A0 Zl r))])]:=by
 refine fnk func86 rfl ?_
 unfold XW at h
 simp only[fnS,f86,Zm,go_sem,seval]
 refine Zi h (fun i s st=>match s with | (b,d)=>IV [(3,.bp 0 0),(5,.p false [.row 1]),(6,.p false [.c (.bool d)]),(9,.p false [.c (.sl 45 2 (A0 Zl a))]),(10,.p false [.c (.int .i64 ((a.length:Nat):Int))]),(11,.p false [.c (.int .i64 ((i:Nat):Int))])] [.box 45 [.c (.str f_1.rel),.c (.sl 9 1 (A0 Zx f_1.args))],.row 45 2 (A0 Zl b) 2] st) [(false,5,0)] [0,112] (by decide) ?_ ?_ ?_
 simp only[*,go_sem,seval]
 rintro _ _ ⟨b,d⟩ ⟨sl,ob,n⟩ _ e f l h _
 simp only[go_sem,seval,Zc] at f
 obtain ⟨⟨_,_,_,m,_,_⟩,_,_,hn⟩:=f
 subst hn
 have o:=WF.slotL l m (j:=0) rfl
 have:=ZA e
 have:=ZC e
 have:=Zj (ZB e) o
 simp only[*,go_sem,seval]
 refine Ze h (fun _ h=>?_) fun _ h=>?_<;>try simp only[*,go_sem,seval]
 refine ZMH h fun _ q h=>Zd (YO q) ?_
 obtain ⟨t,h⟩:=Zq h
 try simp only[Nat.reduceLeDiff] at t
 simp only[*,go_sem,seval]
 refine ⟨_,[],[0,274],(A3 h).symm,by decide,?_⟩
 simp only[*,go_sem,seval]
 refine ZMH h fun _ u h=>Zd (Zd7 u) ?_
 simp only[*,go_sem,seval]
 refine Ze h (fun _ h=>?_) fun _ h=>?_<;>try simp only[*,go_sem,seval]
 refine ZMH h fun _ v h=>Zd (YO v) ?_
 obtain ⟨w,h⟩:=Zq h
 try simp only[Nat.reduceLeDiff] at w
 simp only[*,go_sem,seval]
 refine ZMH h fun _ x h=>Zd (YO x) ?_
 obtain ⟨y,h⟩:=Zq h
 try simp only[Nat.reduceLeDiff] at y
 simp only[*,go_sem,seval]
 refine ⟨_,[],[0,386],(A3 h).symm,by decide,?_⟩
 simp only[*,go_sem,seval]
 refine ZMH h fun _ z h=>Zd (YO z) ?_
 obtain ⟨A,h⟩:=Zq h
 try simp only[Nat.reduceLeDiff] at A
 simp only[*,go_sem,seval]
 refine ⟨_,[],[0,274],(A3 h).symm,by decide,?_⟩
 simp only[*,go_sem,seval]
 rintro ⟨b,d⟩ ⟨sl,ob,n⟩ g _ h
 simp only[go_sem,seval,Zc] at g
 obtain ⟨⟨_,_,_,_,_,_⟩,_,_,hn⟩:=g
 subst hn
 have:=Zy (a.length)
 simp only[*,go_sem,seval]
 refine Ze h (fun _ h=>?_) fun _ h=>?_<;>try simp only[*,go_sem,seval]
 cases h
 simp only[*,go_sem,seval]
 refine ZMH h fun _ B h=>Zd (YO B) ?_
 obtain ⟨C,h⟩:=Zq h
 try simp only[Nat.reduceLeDiff] at C
 cases h
 simp only[*,go_sem,seval]
end
section
set_option linter.unusedSimpArgs false
set_option linter.unusedVariables false
set_option maxRecDepth 1000000
set_option maxHeartbeats 4000000
theorem ZHx {c_0:ZJ} {r:(Zb × ZJ)} (h:ZGS c_0=some r):Zbx prog J0 JF0 112 (.box 152 (Zbj c_0)) [] [(true,[(false,.str r.1.rel),(true,.sl 9 1 (A0 Zx r.1.args))])] (.box 152 (Zbj r.2)):=by
 refine ZJv [(6,[0,1,2,3,4,5,6,7],true)] func112 rfl ?_
 unfold ZGS at h
 have ks0:Z9 ⟨#[97]⟩=true:=by decide
 have ks1:Z9 ⟨#[98]⟩=true:=by decide
 have ks2:Z9 ⟨#[99]⟩=true:=by decide
 simp only[fnH,f112,Zdh,Zdg,Xp,go_sem,ZFO,seval,ks0,ks1,ks2]
 obtain ⟨v1,e1,h⟩:=Za h
 refine QL (by have hh:=ZIv e1;first | exact hh | (simp only[go_sem,ZFO, *] at hh;exact hh)) ?_
 simp only[go_sem,ZFO,seval, *]
 obtain ⟨v2,e2,h⟩:=Za h
 refine QL (by have hh:=Q7 e2;first | exact hh | (simp only[go_sem,ZFO, *] at hh;exact hh)) ?_
 simp only[go_sem,ZFO,seval, *]
 refine Ze h (fun c3 h=>?_) (fun c3 h=>?_)<;>try simp only[go_sem,ZFO,seval, *]
 ·obtain ⟨v3,e4,h⟩:=Za h
  refine QL (by have hh:=ZHb e4;first | exact hh | (simp only[go_sem,ZFO, *] at hh;exact hh)) ?_
  obtain rfl:=A3 h
  simp only[go_sem,ZFO,seval, *]
 ·refine Ze h (fun c5 h=>?_) (fun c5 h=>?_)<;>try simp only[go_sem,ZFO,seval, *]
  ·obtain ⟨v4,e6,h⟩:=Za h
   refine QL (by have hh:=ZHb e6;first | exact hh | (simp only[go_sem,ZFO, *] at hh;exact hh)) ?_
   obtain ⟨p7,h⟩:=Zq h
   try simp only[Nat.reduceLeDiff] at p7
   obtain rfl:=A3 h
   simp only[go_sem,ZFO,seval, *]
  ·refine Ze h (fun c8 h=>?_) (fun c8 h=>?_)<;>try simp only[go_sem,ZFO,seval, *]
   ·obtain ⟨v5,e9,h⟩:=Za h
    refine QL (by have hh:=Q7 e9;first | exact hh | (simp only[go_sem,ZFO, *] at hh;exact hh)) ?_
    obtain ⟨p10,h⟩:=Zq h
    try simp only[seval] at p10
    obtain rfl:=A3 h
    simp only[go_sem,ZFO,seval, *]
   ·obtain rfl:=A3 h
    simp only[go_sem,ZFO,seval, *]
theorem ZHS {f_0:QZ} {x_1:Int} {r:(List Int)} (h:ZFZ f_0 x_1=some r):Zk prog J0 113 [(true,ZAT f_0),(false,[.int .i64 x_1])] [(false,[(false,.sl 3 1 (A0 ZI r))])]:=by
 refine fnk func113 rfl ?_
 unfold ZFZ at h
 simp only[fnS,f113,Zm,go_sem,seval]
 refine ZMH h fun _ a h=>Zd (ZIn a) ?_
 simp only[*,go_sem,seval]
 iterate 2 refine Ze h (fun _ h=>?_) fun _ h=>?_<;>try simp only[*,go_sem,seval]
 cases h
 simp only[*,go_sem,seval]
 refine Ze h (fun _ h=>?_) fun _ h=>?_<;>try simp only[*,go_sem,seval]
 cases h
 simp only[*,go_sem,seval]
 obtain ⟨_,b,h⟩:=Za h
 refine Zd (by exact ZHT (kkeep_1:=179) (ckeep_1:=[.pt [.int .i64 f_0.beliefs.nodes,.sl 199 3 (A0 ZE f_0.beliefs.reasons),.sl 3 1 (A0 ZI f_0.assumed),.sl 3 1 (A0 ZI f_0.bad)],.pt [.int .i64 x_1]]) Zyx (fun hh=>ZHi hh) b) ?_
 simp only[*,go_sem,seval]
 refine ZMH h fun _ c h=>Zd (ZHC c) ?_
 iterate 2 (cases h;simp only[*,go_sem,seval])
theorem ZGZ {f_0:QZ} {set_1:Int} {r:Bool} (h:ZFT f_0 set_1=some r):Zk prog J0 246 [(true,ZAT f_0),(false,[.int .i64 set_1])] [(false,[(false,.bool r)])]:=by
 refine fnk func246 rfl ?_
 unfold ZFT at h
 simp only[fnS,f246,Zm,go_sem,seval]
 refine ZMH h fun _ e h=>Zd (ZGI e) ?_
 simp only[*,go_sem,seval]
 refine Ze h (fun _ h=>?_) fun _ h=>?_<;>try simp only[*,go_sem,seval]
 refine ZMH h fun f g h=>Zd (ZGW g) ?_
 simp only[*,go_sem,seval]
 refine Zi h (fun i _ st=>IV [(2,.bp 0 0),(5,.p false [.row 1]),(6,.p false [.c (.int .i64 ((i:Nat):Int))])] [.box 67 [.c (.int .i64 f_0.beliefs.nodes),.c (.sl 199 3 (A0 ZE f_0.beliefs.reasons)),.c (.sl 3 1 (A0 ZI f_0.assumed)),.c (.sl 3 1 (A0 ZI f_0.bad))],.row 4 1 (A0 ZfM f) 2] st) [] [0,128] (by decide) ?_ ?_ ?_
 simp only[*,go_sem,seval]
 rintro _ _ ⟨⟩ ⟨sl,ob,n⟩ _ a b k h l
 simp only[go_sem,seval,Zc] at b
 obtain ⟨⟨_,_,_⟩,m,_,hn⟩:=b
 subst hn
 have o:=WF.boxL k m (j:=3) rfl
 have:=ZA a
 have:=ZC a
 have:=Zj (ZB a) o
 obtain ⟨_,h⟩:=Zq h
 obtain ⟨_,_,h⟩:=Za h
 simp only[*,go_sem,seval]
 refine Ze h (fun _ h=>?_) fun _ h=>?_<;>try simp only[*,go_sem,seval]
 replace h:=Zn h l
 cases h
 simp only[*,go_sem,seval]
 refine ⟨_,[],[0,1],(A3 h).symm,by decide,?_⟩
 simp only[*,go_sem,seval]
 rintro ⟨⟩ ⟨sl,ob,n⟩ d _ h
 simp only[go_sem,seval,Zc] at d
 obtain ⟨⟨_,_,_⟩,_,_,hn⟩:=d
 subst hn
 have:=Zy (f_0.bad.length)
 iterate 2 (cases h;simp only[*,go_sem,seval])
theorem ZHq {f_0:QZ} {set_1:Int} {r:(List Int)} (h:ZF4 f_0 set_1=some r):Zk prog J0 248 [(true,ZAT f_0),(false,[.int .i64 set_1])] [(false,[(false,.sl 3 1 (A0 ZI r))])]:=by
 refine fnk func248 rfl ?_
 unfold ZF4 at h
 simp only[fnS,f248,Zm,go_sem,seval]
 refine ZMH h fun _ g h=>Zd (ZGI g) ?_
 simp only[*,go_sem,seval]
 refine Ze h (fun _ h=>?_) fun _ h=>?_<;>try simp only[*,go_sem,seval]
 refine ZMH h fun d j h=>Zd (ZGW j) ?_
 simp only[*,go_sem,seval]
 refine Zi h (fun i a st=>IV [(5,.p false [.row 0]),(6,.p false [.row 1]),(7,.p false [.c (.int .i64 ((i:Nat):Int))])] [.row 3 1 (A0 ZI a) 2,.row 4 1 (A0 ZfM d) 2] st) [] [32,160] (by decide) ?_ ?_ ?_
 simp only[*,go_sem,seval]
 rintro _ _ a ⟨sl,ob,n⟩ _ b e k h _
 simp only[go_sem,seval,Zc] at e
 obtain ⟨⟨_,_,_⟩,_,l,hn⟩:=e
 subst hn
 have m:=WF.rowL k l
 have:=ZA b
 have:=ZC b
 have:=Zj (ZB b) m
 simp only[*,go_sem,seval]
 refine Ze h (fun _ h=>?_) fun _ h=>?_<;>try simp only[*,go_sem,seval]
 obtain ⟨o,h⟩:=Zq h
 try simp only[Nat.reduceLeDiff] at o
 simp only[*,go_sem,seval]
 refine ⟨_,[],[178,1],(A3 h).symm,by decide,?_⟩
 simp only[*,go_sem,seval]
 refine ⟨_,[],[0,1],(A3 h).symm,by decide,?_⟩
 simp only[*,go_sem,seval]
 rintro a ⟨sl,ob,n⟩ f _ h
 simp only[go_sem,seval,Zc] at f
 obtain ⟨⟨_,_,_⟩,_,_,hn⟩:=f
 subst hn
 have:=Zy (d.length)
 iterate 2 (cases h;simp only[*,go_sem,seval])
end
section
set_option linter.unusedSimpArgs false
set_option linter.unusedVariables false
set_option maxRecDepth 1000000
set_option maxHeartbeats 4000000
theorem Zem {x_0:Zt} {r:Bool} (h:Zcn x_0=some r):Zk prog J0 220 [(true,ZK x_0)] [(false,[(false,.bool r)])]:=by
 refine fnk func220 rfl ?_
 unfold Zcn at h
 have a:Z9 ⟨#[]⟩=true:=by decide
 simp only[fnS,f220,Zm,go_sem,seval,a]
 refine Ze h (fun _ h=>?_) fun _ h=>?_<;>try simp only[*,go_sem,seval]
 refine ZMH h fun _ b h=>Zd (Xi b) ?_
 simp only[*,go_sem,seval]
 iterate 2 refine Ze h (fun _ h=>?_) fun _ h=>?_<;>try simp only[*,go_sem,seval]
 iterate 3 (cases h;simp only[*,go_sem,seval])
 refine Ze h (fun _ h=>?_) fun _ h=>?_<;>try simp only[*,go_sem,seval]
 refine ZMH h fun _ c h=>Zd (Xi c) ?_
 simp only[*,go_sem,seval]
 iterate 2 refine Ze h (fun _ h=>?_) fun _ h=>?_<;>try simp only[*,go_sem,seval]
 iterate 3 (cases h;simp only[*,go_sem,seval])
 iterate 3 refine Ze h (fun _ h=>?_) fun _ h=>?_<;>try simp only[*,go_sem,seval]
 refine ZMH h fun _ d h=>Zd (QY d) ?_
 simp only[*,go_sem,seval]
 refine Ze h (fun _ h=>?_) fun _ h=>?_<;>try simp only[*,go_sem,seval]
 refine ZMH h fun _ e h=>Zd (QY e) ?_
 iterate 4 (cases h;simp only[*,go_sem,seval])
 iterate 3 refine Ze h (fun _ h=>?_) fun _ h=>?_<;>try simp only[*,go_sem,seval]
 refine ZMH h fun _ f h=>Zd (QY f) ?_
 simp only[*,go_sem,seval]
 refine Ze h (fun _ h=>?_) fun _ h=>?_<;>try simp only[*,go_sem,seval]
 refine ZMH h fun _ g h=>Zd (QY g) ?_
 iterate 4 (cases h;simp only[*,go_sem,seval])
 iterate 3 refine Ze h (fun _ h=>?_) fun _ h=>?_<;>try simp only[*,go_sem,seval]
 refine ZMH h fun _ i h=>Zd (QY i) ?_
 simp only[*,go_sem,seval]
 refine Ze h (fun _ h=>?_) fun _ h=>?_<;>try simp only[*,go_sem,seval]
 refine ZMH h fun _ j h=>Zd (QY j) ?_
 iterate 5 (cases h;simp only[*,go_sem,seval])
theorem Ze4 {r_0:Zg} {i_1:Int} {v_2:ByteArray} {r:Bool} (h:XK r_0 i_1 v_2=some r):Zk prog J0 224 [(true,ZF r_0),(false,[.int .i64 i_1]),(false,[.str v_2])] [(false,[(false,.bool r)])]:=by
 refine fnk func224 rfl ?_
 unfold XK at h
 simp only[fnS,f224,Zm,go_sem,seval]
 refine Zi h (fun i _ st=>IV [(1,.p false [.c (.int .i64 i_1)]),(2,.p false [.c (.str v_2)]),(3,.bp 0 0),(7,.p false [.c (.int .i64 ((i:Nat):Int))])] [.box 42 [.c (.str r_0.name),.c (.int .i64 r_0.priority),.c (.sl 173 5 (A0 ZK r_0.cond)),.c (.sl 50 3 (A0 ZG r_0.thn))]] st) [] [0] (by decide) ?_ ?_ ?_
 simp only[*,go_sem,seval]
 rintro _ _ ⟨⟩ ⟨sl,ob,n⟩ _ a d k h l
 simp only[go_sem,seval,Zc] at d
 obtain ⟨⟨_,_,_,_⟩,m,hn⟩:=d
 subst hn
 have o:=WF.boxL k m (j:=2) rfl
 have:=ZA a
 have:=ZC a
 have:=Zj (ZB a) o
 simp only[*,go_sem,seval]
 refine Ze h (fun _ h=>?_) fun _ h=>?_<;>try simp only[*,go_sem,seval]
 refine ZMH h fun _ q h=>Zd (Zas q) ?_
 simp only[*,go_sem,seval]
 refine ZMH h fun _ t h=>Zd (Yz t) ?_
 simp only[*,go_sem,seval]
 refine Ze h (fun _ h=>?_) fun _ h=>?_<;>try simp only[*,go_sem,seval]
 replace h:=Zn h l
 cases h
 simp only[*,go_sem,seval]
 refine ⟨_,[],[0],(A3 h).symm,by decide,?_⟩
 simp only[*,go_sem,seval]
 refine ⟨_,[],[0],(A3 h).symm,by decide,?_⟩
 simp only[*,go_sem,seval]
 rintro ⟨⟩ ⟨sl,ob,n⟩ e _ h
 simp only[go_sem,seval,Zc] at e
 obtain ⟨⟨_,_,_,_⟩,_,hn⟩:=e
 subst hn
 have:=Zy (r_0.cond.length)
 simp only[*,go_sem,seval]
 refine Zi h (fun i _ st=>IV [(2,.p false [.c (.str v_2)]),(3,.bp 0 0),(8,.p false [.c (.int .i64 ((i:Nat):Int))])] [.box 42 [.c (.str r_0.name),.c (.int .i64 r_0.priority),.c (.sl 173 5 (A0 ZK r_0.cond)),.c (.sl 50 3 (A0 ZG r_0.thn))]] st) [] [0] (by decide) ?_ ?_ ?_
 simp only[*,go_sem,seval]
 rintro _ _ ⟨⟩ ⟨sl,ob,n⟩ _ b f u h v
 simp only[go_sem,seval,Zc] at f
 obtain ⟨⟨_,_,_⟩,w,hn⟩:=f
 subst hn
 have x:=WF.boxL u w (j:=3) rfl
 have:=ZA b
 have:=ZC b
 have:=Zj (ZB b) x
 simp only[*,go_sem,seval]
 refine ZMH h fun _ y h=>Zd (Zcw y) ?_
 simp only[*,go_sem,seval]
 refine ZMH h fun _ z h=>Zd (Yz z) ?_
 simp only[*,go_sem,seval]
 refine Ze h (fun _ h=>?_) fun _ h=>?_<;>try simp only[*,go_sem,seval]
 replace h:=Zn h v
 cases h
 simp only[*,go_sem,seval]
 refine ⟨_,[],[0],(A3 h).symm,by decide,?_⟩
 simp only[*,go_sem,seval]
 rintro ⟨⟩ ⟨sl,ob,n⟩ g _ h
 simp only[go_sem,seval,Zc] at g
 obtain ⟨⟨_,_,_⟩,_,hn⟩:=g
 subst hn
 have:=Zy (r_0.thn.length)
 cases h
 simp only[*,go_sem,seval]
theorem Znb {a_0:Zz} {r:Bool} (h:Zdd a_0=some r):Zk prog J0 225 [(true,ZG a_0)] [(false,[(false,.bool r)])]:=by
 refine fnk func225 rfl ?_
 unfold Zdd at h
 have a:Z9 ⟨#[]⟩=true:=by decide
 simp only[fnS,f225,Zm,go_sem,seval,a]
 refine Ze h (fun _ h=>?_) fun _ h=>?_<;>try simp only[*,go_sem,seval]
 refine ZMH h fun _ b h=>Zd (Xi b) ?_
 cases h
 simp only[*,go_sem,seval]
 refine Ze h (fun _ h=>?_) fun _ h=>?_<;>try simp only[*,go_sem,seval]
 refine ZMH h fun _ c h=>Zd (Xi c) ?_
 cases h
 simp only[*,go_sem,seval]
 iterate 2 refine Ze h (fun _ h=>?_) fun _ h=>?_<;>try simp only[*,go_sem,seval]
 iterate 3 (cases h;simp only[*,go_sem,seval])
theorem ZmN {r_0:Zg} {r:(List ByteArray)} (h:ZdB r_0=some r):Zk prog J0 227 [(true,ZF r_0)] [(false,[(false,.sl 9 1 (A0 Zx r))])]:=by
 refine fnk func227 rfl ?_
 unfold ZdB at h
 simp only[fnS,f227,Zm,go_sem,seval]
 refine Zi h (fun i a st=>IV [(1,.bp 0 0),(3,.p false [.row 1]),(4,.p false [.c (.int .i64 ((i:Nat):Int))])] [.box 42 [.c (.str r_0.name),.c (.int .i64 r_0.priority),.c (.sl 173 5 (A0 ZK r_0.cond)),.c (.sl 50 3 (A0 ZG r_0.thn))],.row 9 1 (A0 Zx a) 2] st) [] [0,32] (by decide) ?_ ?_ ?_
 simp only[*,go_sem,seval]
 rintro A _ a ⟨sl,ob,n⟩ _ b m B h _
 simp only[go_sem,seval,Zc] at m
 obtain ⟨⟨_,_,_⟩,C,_,hn⟩:=m
 subst hn
 have D:=WF.boxL B C (j:=2) rfl
 have:=ZA b
 have:=ZC b
 have:=Zj (ZB b) D
 simp only[*,go_sem,seval]
 refine ZMH h fun o E h=>Zd (Zas E) ?_
 simp only[*,go_sem,seval]
 refine Zi h (fun i d st=>IV [(1,.bp 0 0),(3,.p false [.row 1]),(4,.p false [.c (.int .i64 ((A:Nat):Int))]),(5,.p false [.row 2]),(6,.p false [.c (.int .i64 ((i:Nat):Int))])] [.box 42 [.c (.str r_0.name),.c (.int .i64 r_0.priority),.c (.sl 173 5 (A0 ZK r_0.cond)),.c (.sl 50 3 (A0 ZG r_0.thn))],.row 9 1 (A0 Zx d) 2,.row 9 1 (A0 Zx o) 2] st) [] [0,1,162] (by decide) ?_ ?_ ?_
 simp only[*,go_sem,seval]
 rintro _ _ d ⟨sl,ob,n⟩ _ e q F h _
 simp only[go_sem,seval,Zc] at q
 obtain ⟨⟨_,_,_,_,_⟩,_,_,G,hn⟩:=q
 subst hn
 have H:=WF.rowL F G
 have:=ZA e
 have:=ZC e
 have:=Zj (ZB e) H
 simp only[*,go_sem,seval]
 refine ZMH h fun _ I h=>Zd (Xg I) ?_
 simp only[*,go_sem,seval]
 refine ⟨_,[],[0,147,2],(A3 h).symm,by decide,?_⟩
 simp only[*,go_sem,seval]
 rintro d ⟨sl,ob,n⟩ t _ h
 simp only[go_sem,seval,Zc] at t
 obtain ⟨⟨_,_,_,_,_⟩,_,_,_,hn⟩:=t
 subst hn
 have:=Zy (o.length)
 simp only[*,go_sem,seval]
 refine ⟨_,[],[0,1],(A3 h).symm,by decide,?_⟩
 simp only[*,go_sem,seval]
 rintro a ⟨sl,ob,n⟩ u _ h
 simp only[go_sem,seval,Zc] at u
 obtain ⟨⟨_,_,_⟩,_,_,hn⟩:=u
 subst hn
 have:=Zy (r_0.cond.length)
 simp only[*,go_sem,seval]
 refine Zi h (fun i f st=>IV [(1,.bp 0 0),(3,.p false [.row 1]),(7,.p false [.c (.int .i64 ((i:Nat):Int))])] [.box 42 [.c (.str r_0.name),.c (.int .i64 r_0.priority),.c (.sl 173 5 (A0 ZK r_0.cond)),.c (.sl 50 3 (A0 ZG r_0.thn))],.row 9 1 (A0 Zx f) 2] st) [] [0,1] (by decide) ?_ ?_ ?_
 simp only[*,go_sem,seval]
 rintro J _ f ⟨sl,ob,n⟩ _ g v K h _
 simp only[go_sem,seval,Zc] at v
 obtain ⟨⟨_,_,_⟩,L,_,hn⟩:=v
 subst hn
 have M:=WF.boxL K L (j:=3) rfl
 have:=ZA g
 have:=ZC g
 have:=Zj (ZB g) M
 simp only[*,go_sem,seval]
 refine ZMH h fun w N h=>Zd (Zcw N) ?_
 simp only[*,go_sem,seval]
 refine Zi h (fun i k st=>IV [(1,.bp 0 0),(3,.p false [.row 1]),(7,.p false [.c (.int .i64 ((J:Nat):Int))]),(8,.p false [.row 2]),(9,.p false [.c (.int .i64 ((i:Nat):Int))])] [.box 42 [.c (.str r_0.name),.c (.int .i64 r_0.priority),.c (.sl 173 5 (A0 ZK r_0.cond)),.c (.sl 50 3 (A0 ZG r_0.thn))],.row 9 1 (A0 Zx k) 2,.row 9 1 (A0 Zx w) 2] st) [] [0,1,178] (by decide) ?_ ?_ ?_
 simp only[*,go_sem,seval]
 rintro _ _ k ⟨sl,ob,n⟩ _ l x O h _
 simp only[go_sem,seval,Zc] at x
 obtain ⟨⟨_,_,_,_,_⟩,_,_,P,hn⟩:=x
 subst hn
 have Q:=WF.rowL O P
 have:=ZA l
 have:=ZC l
 have:=Zj (ZB l) Q
 simp only[*,go_sem,seval]
 refine ZMH h fun _ R h=>Zd (Xg R) ?_
 simp only[*,go_sem,seval]
 refine ⟨_,[],[0,147,2],(A3 h).symm,by decide,?_⟩
 simp only[*,go_sem,seval]
 rintro k ⟨sl,ob,n⟩ y _ h
 simp only[go_sem,seval,Zc] at y
 obtain ⟨⟨_,_,_,_,_⟩,_,_,_,hn⟩:=y
 subst hn
 have:=Zy (w.length)
 simp only[*,go_sem,seval]
 refine ⟨_,[],[0,1],(A3 h).symm,by decide,?_⟩
 simp only[*,go_sem,seval]
 rintro f ⟨sl,ob,n⟩ z _ h
 simp only[go_sem,seval,Zc] at z
 obtain ⟨⟨_,_,_⟩,_,_,hn⟩:=z
 subst hn
 have:=Zy (r_0.thn.length)
 cases h
 simp only[*,go_sem,seval]
theorem XD {s_0:ByteArray} {r:(Zv × Bool)} (h:Yl s_0=some r):Zk prog J0 319 [(false,[.str s_0])] [(true,[(false,.str r.1.rel),(false,.sl 9 1 (A0 Zx r.1.args))]),(false,[(false,.bool r.2)])]:=by
 refine fnk func319 rfl ?_
 unfold Yl at h
 simp only[fnS,f319,Zm,go_sem,seval]
 refine ZMH h fun _ a h=>Zd (ZoF a) ?_
 simp only[*,go_sem,seval]
 refine Ze h (fun _ h=>?_) fun _ h=>?_<;>try simp only[*,go_sem,seval]
 refine ZMH h fun _ b h=>Zd (Xi b) ?_
 simp only[*,go_sem,seval]
 refine Ze h (fun _ h=>?_) fun _ h=>?_<;>try simp only[*,go_sem,seval]
 iterate 3 (cases h;simp only[*,go_sem,seval])
theorem ZoJ {c_0:ZJ} {most_1:Int} {r:((List Zb) × ZJ)} (h:ZeM c_0 most_1=some r):Zbx prog J0 JF0 60 (.box 152 (Zbj c_0)) [(false,[.int .i64 most_1])] [(false,[(false,.sl 45 2 (A0 Zl r.1))])] (.box 152 (Zbj r.2)):=by
 refine fnh func60 rfl ?_
 unfold ZeM at h
 have j:Z9 ⟨#[111,110]⟩=true:=by decide
 have k:Z9 ⟨#[112]⟩=true:=by decide
 have l:Z9 ⟨#[113]⟩=true:=by decide
 have m:Z9 ⟨#[49]⟩=true:=by decide
 have o:Z9 ⟨#[50]⟩=true:=by decide
 have q:Z9 ⟨#[97,116]⟩=true:=by decide
 have t:Z9 ⟨#[97]⟩=true:=by decide
 have u:Z9 ⟨#[98]⟩=true:=by decide
 simp only[fnH,f60,Zdh,Zdg,Xp,go_sem,seval,j,k,l,m,o,q,t,u]
 obtain ⟨_,v,h⟩:=Za h
 refine QL (Q7 v) ?_
 simp only[*,go_sem,seval]
 refine Yo h (fun s st=>match s with | (b,d,e,f,g)=>IV [(0,.bp 0 0),(5,.p false [.row 1]),(6,.p false [.c (.int .i64 g)])] [.box 152 [.c (.sl 5 1 (A0 ZeK b)),.c (.int .i64 d),.c (.int .i64 e)],.row 45 2 (A0 Zl f) 2] st) [] [0,17] (by decide) ?_ ?_
 simp only[*,go_sem,seval]
 rintro ⟨b,d,e,f,g⟩ ⟨sl,ob,n⟩ _ i _ h w
 simp only[go_sem,seval,Zc] at i
 obtain ⟨⟨_,_,_⟩,_,_,hn⟩:=i
 subst hn
 simp only[*,go_sem,seval]
 refine Ze h (fun _ h=>?_) fun _ h=>?_<;>try simp only[*,go_sem,seval]
 obtain ⟨_,x,h⟩:=Za h
 refine QL (Zk5 x) ?_
 simp only[*,go_sem,seval]
 obtain ⟨_,y,h⟩:=Za h
 refine QL (Zk5 y) ?_
 simp only[*,go_sem,seval]
 obtain ⟨_,z,h⟩:=Za h
 refine QL (Q7 z) ?_
 simp only[*,go_sem,seval]
 refine Ze h (fun _ h=>?_) fun _ h=>?_<;>try simp only[*,go_sem,seval]
 refine ZMH h fun _ A h=>Zd (Zdw A) ?_
 simp only[*,go_sem,seval]
 refine ⟨_,[],[0,290],(A3 h).symm,by decide,?_⟩
 simp only[*,go_sem,seval]
 refine Ze h (fun _ h=>?_) fun _ h=>?_<;>try simp only[*,go_sem,seval]
 refine ZMH h fun _ B h=>Zd (Zdw B) ?_
 simp only[*,go_sem,seval]
 refine ⟨_,[],[0,338],(A3 h).symm,by decide,?_⟩
 simp only[*,go_sem,seval]
 refine Ze h (fun _ h=>?_) fun _ h=>?_<;>try simp only[*,go_sem,seval]
 refine ZMH h fun _ C h=>Zd (Zdw C) ?_
 simp only[*,go_sem,seval]
 refine ⟨_,[],[0,354],(A3 h).symm,by decide,?_⟩
 simp only[*,go_sem,seval]
 refine ZMH h fun _ D h=>Zd (Zdw D) ?_
 simp only[*,go_sem,seval]
 refine ⟨_,[],[0,370],(A3 h).symm,by decide,?_⟩
 simp only[*,go_sem,seval]
 replace h:=Zn h w
 cases h
 simp only[*,go_sem,seval]
theorem ZhQ {r_0:Zg} {k_1:Int} {r:Bool} (h:ZbT r_0 k_1=some r):Zk prog J0 197 [(true,ZF r_0),(false,[.int .i64 k_1])] [(false,[(false,.bool r)])]:=by
 refine fnk func197 rfl ?_
 unfold ZbT at h
 simp only[fnS,f197,Zm,go_sem,seval]
 obtain ⟨a,_,_,_,h⟩:=ZbQ h
 simp only[*,go_sem,seval]
 refine ZMH h fun j k h=>Zd (ZdH k) ?_
 simp only[*,go_sem,seval]
 refine ZMH h fun b l h=>Zd (Zb9 l) ?_
 simp only[*,go_sem,seval]
 refine Zi h (fun i _ st=>IV [(1,.p false [.c (.int .i64 k_1)]),(2,.bp 0 0),(5,.bp 1 0),(6,.p false [.row 2]),(18,.p false [.row 3]),(19,.p false [.c (.int .i64 ((b.length:Nat):Int))]),(20,.p false [.c (.int .i64 ((i:Nat):Int))])] [.box 42 [.c (.str r_0.name),.c (.int .i64 r_0.priority),.c (.sl 173 5 (A0 ZK r_0.cond)),.c (.sl 50 3 (A0 ZG r_0.thn))],.box 173 [.c (.int .i64 a.kind),.c (.str a.pattern.rel),.c (.sl 9 1 (A0 Zx a.pattern.args)),.c (.str a.left),.c (.str a.right)],.row 9 1 (A0 Zx j) 2,.row 9 1 (A0 Zx b) 2] st) [] [0,112,176,224] (by decide) ?_ ?_ ?_
 simp only[*,go_sem,seval]
 rintro _ _ ⟨⟩ ⟨sl,ob,n⟩ _ d e m h f
 simp only[go_sem,seval,Zc] at e
 obtain ⟨⟨_,_,_,_,_,_,_⟩,_,_,_,o,hn⟩:=e
 subst hn
 have q:=WF.rowL m o
 have:=ZA d
 have:=ZC d
 have:=Zj (ZB d) q
 simp only[*,go_sem,seval]
 refine Ze h (fun _ h=>?_) fun _ h=>?_<;>try simp only[*,go_sem,seval]
 refine ⟨_,[],[0,1,2,3],(A3 h).symm,by decide,?_⟩
 simp only[*,go_sem,seval]
 refine ZMH h fun _ t h=>Zd (Zac t) ?_
 simp only[*,go_sem,seval]
 refine Ze h (fun _ h=>?_) fun _ h=>?_<;>try simp only[*,go_sem,seval]
 refine ⟨_,[],[0,1,2,3],(A3 h).symm,by decide,?_⟩
 simp only[*,go_sem,seval]
 refine Ze h (fun _ h=>?_) fun _ h=>?_<;>try simp only[*,go_sem,seval]
 replace h:=Zn h f
 cases h
 simp only[*,go_sem,seval]
 refine ZMH h fun _ u h=>Zd (Zgm u) ?_
 simp only[*,go_sem,seval]
 refine Ze h (fun _ h=>?_) fun _ h=>?_<;>try simp only[*,go_sem,seval]
 replace h:=Zn h f
 cases h
 simp only[*,go_sem,seval]
 refine ⟨_,[],[0,1,2,3],(A3 h).symm,by decide,?_⟩
 simp only[*,go_sem,seval]
 rintro ⟨⟩ ⟨sl,ob,n⟩ g _ h
 simp only[go_sem,seval,Zc] at g
 obtain ⟨⟨_,_,_,_,_,_,_⟩,_,_,_,_,hn⟩:=g
 subst hn
 have:=Zy (b.length)
 cases h
 simp only[*,go_sem,seval]
theorem ZdD {p_0:Zv} {b_1:(List Zs)} {facts_2:(List Zb)} {r:(List Zb)} (h:Xt p_0 b_1 facts_2=some r):Zk prog J0 213 [(true,QA p_0),(false,[.sl 166 2 (A0 Z4 b_1)]),(false,[.sl 45 2 (A0 Zl facts_2)])] [(false,[(false,.sl 45 2 (A0 Zl r))])]:=by
 refine fnk func213 rfl ?_
 unfold Xt at h
 simp only[fnS,f213,Zm,go_sem,seval]
 refine Zi h (fun i a st=>IV [(1,.p false [.c (.sl 166 2 (A0 Z4 b_1))]),(3,.bp 0 0),(7,.p false [.row 1]),(12,.p false [.c (.sl 45 2 (A0 Zl facts_2))]),(13,.p false [.c (.int .i64 ((facts_2.length:Nat):Int))]),(14,.p false [.c (.int .i64 ((i:Nat):Int))])] [.box 48 [.c (.str p_0.rel),.c (.sl 9 1 (A0 Zx p_0.args))],.row 45 2 (A0 Zl a) 2] st) [(false,7,0)] [0,96] (by decide) ?_ ?_ ?_
 simp only[*,go_sem,seval]
 rintro _ _ a ⟨sl,ob,n⟩ _ b d f h _
 simp only[go_sem,seval,Zc] at d
 obtain ⟨⟨_,_,_,g,_,_⟩,_,_,hn⟩:=d
 subst hn
 have k:=WF.slotL f g (j:=0) rfl
 have:=ZA b
 have:=ZC b
 have:=Zj (ZB b) k
 simp only[*,go_sem,seval]
 refine ZMH h fun _ l h=>Zd (ZgE l) ?_
 simp only[*,go_sem,seval]
 refine Ze h (fun _ h=>?_) fun _ h=>?_<;>try simp only[*,go_sem,seval]
 refine ZMH h fun _ m h=>Zd (YO m) ?_
 obtain ⟨o,h⟩:=Zq h
 try simp only[Nat.reduceLeDiff] at o
 simp only[*,go_sem,seval]
 refine ⟨_,[],[0,306],(A3 h).symm,by decide,?_⟩
 simp only[*,go_sem,seval]
 refine ⟨_,[],[0,1],(A3 h).symm,by decide,?_⟩
 simp only[*,go_sem,seval]
 rintro a ⟨sl,ob,n⟩ e _ h
 simp only[go_sem,seval,Zc] at e
 obtain ⟨⟨_,_,_,_,_,_⟩,_,_,hn⟩:=e
 subst hn
 have:=Zy (facts_2.length)
 cases h
 simp only[*,go_sem,seval]
theorem Zrq {x_0:Zt} {r:Bool} (h:Zi1 x_0=some r):Zk prog J0 269 [(true,ZK x_0)] [(false,[(false,.bool r)])]:=by
 refine fnk func269 rfl ?_
 unfold Zi1 at h
 simp only[fnS,f269,Zm,go_sem,seval]
 refine ZMH h fun _ a h=>Zd (Zgc a) ?_
 simp only[*,go_sem,seval]
 refine Ze h (fun _ h=>?_) fun _ h=>?_<;>try simp only[*,go_sem,seval]
 iterate 2 (cases h;simp only[*,go_sem,seval])
theorem Zb8 {p_0:Zv} {b_1:(List Zs)} {r:(Zb × Bool)} (h:Yy p_0 b_1=some r):Zk prog J0 20 [(true,QA p_0),(false,[.sl 166 2 (A0 Z4 b_1)])] [(true,[(false,.str r.1.rel),(false,.sl 9 1 (A0 Zx r.1.args))]),(false,[(false,.bool r.2)])]:=by
 refine fnk func20 rfl ?_
 unfold Yy at h
 simp only[fnS,f20,Zm,go_sem,seval]
 refine ZMH h fun _ f h=>Zd (Xi f) ?_
 simp only[*,go_sem,seval]
 refine Ze h (fun _ h=>?_) fun _ h=>?_<;>try simp only[*,go_sem,seval]
 refine ZMH h fun _ g h=>Zd (QX g) ?_
 simp only[*,go_sem,seval]
 refine Ze h (fun _ h=>?_) fun _ h=>?_<;>try simp only[*,go_sem,seval]
 refine Zi h (fun i a st=>IV [(1,.p false [.c (.sl 166 2 (A0 Z4 b_1))]),(2,.bp 0 0),(4,.bp 1 0),(6,.bp 2 0),(7,.p false [.c (.int .i64 ((i:Nat):Int))])] [.box 48 [.c (.str p_0.rel),.c (.sl 9 1 (A0 Zx p_0.args))],.box 45 [.c (.str ⟨#[]⟩),.nil 9 1],.box 45 [.c (.str p_0.rel),.row 3],.row 9 1 (A0 Zx a) 2] st) [(true,224,1)] [0,16,224,272] (by decide) ?_ ?_ ?_
 simp only[*,go_sem,seval]
 rintro _ _ a ⟨sl,ob,n⟩ _ b d k h l
 simp only[go_sem,seval,Zc] at d
 obtain ⟨⟨_,_,_,_,_⟩,m,_,_,_,hn⟩:=d
 subst hn
 have o:=WF.boxL k m (j:=1) rfl
 have:=ZA b
 have:=ZC b
 have:=Zj (ZB b) o
 simp only[*,go_sem,seval]
 refine ZMH h fun _ q h=>Zd (ZcO q) ?_
 simp only[*,go_sem,seval]
 refine Ze h (fun _ h=>?_) fun _ h=>?_<;>try simp only[*,go_sem,seval]
 obtain ⟨t,h⟩:=Zq h
 try simp only[Nat.reduceLeDiff] at t
 simp only[*,go_sem,seval]
 refine ⟨_,[],[0,1,2,372],(A3 h).symm,by decide,?_⟩
 simp only[*,go_sem,seval]
 replace h:=Zn h l
 cases h
 simp only[*,go_sem,seval]
 rintro a ⟨sl,ob,n⟩ e _ h
 simp only[go_sem,seval,Zc] at e
 obtain ⟨⟨_,_,_,_,_⟩,_,_,_,_,hn⟩:=e
 subst hn
 have:=Zy (p_0.args.length)
 iterate 3 (cases h;simp only[*,go_sem,seval])
theorem Zf2 {append_0:Zv} {String_1:Zb} {a_2:(List Zs)} {r:((List Zs) × Bool)} (h:Za3 append_0 String_1 a_2=some r):Zk prog J0 280 [(true,QA append_0),(true,Zl String_1),(false,[.sl 166 2 (A0 Z4 a_2)])] [(false,[(false,.sl 166 2 (A0 Z4 r.1))]),(false,[(false,.bool r.2)])]:=by
 refine fnk func280 rfl ?_
 unfold Za3 at h
 simp only[fnS,f280,Zm,go_sem,seval]
 refine ZMH h fun _ g h=>Zd (Xi g) ?_
 simp only[*,go_sem,seval]
 refine Ze h (fun _ h=>?_) fun _ h=>?_<;>try simp only[*,go_sem,seval]
 refine ZMH h fun _ k h=>Zd (Zj9 k) ?_
 simp only[*,go_sem,seval]
 refine Ze h (fun _ h=>?_) fun _ h=>?_<;>try simp only[*,go_sem,seval]
 refine ZMH h fun _ l h=>Zd (QX l) ?_
 simp only[*,go_sem,seval]
 iterate 3 refine Ze h (fun _ h=>?_) fun _ h=>?_<;>try simp only[*,go_sem,seval]
 cases h
 simp only[*,go_sem,seval]
 refine ZMH h fun _ m h=>Zd (ZgL m) ?_
 simp only[*,go_sem,seval]
 refine Zi h (fun i a st=>IV [(3,.bp 0 0),(4,.bp 1 0),(8,.p false [.row 2]),(9,.p false [.c (.int .i64 ((i:Nat):Int))])] [.box 48 [.c (.str append_0.rel),.c (.sl 9 1 (A0 Zx append_0.args))],.box 45 [.c (.str String_1.rel),.c (.sl 9 1 (A0 Zx String_1.args))],.row 166 2 (A0 Z4 a) 2] st) [] [0,16,544] (by decide) ?_ ?_ ?_
 simp only[*,go_sem,seval]
 rintro _ _ a ⟨sl,ob,n⟩ _ b d o h e
 simp only[go_sem,seval,Zc] at d
 obtain ⟨⟨_,_,_,_⟩,q,_,_,hn⟩:=d
 subst hn
 have t:=WF.boxL o q (j:=1) rfl
 have:=ZA b
 have:=ZC b
 have:=Zj (ZB b) t
 simp only[*,go_sem,seval]
 refine ZMH h fun _ u h=>Zd (X0 u) ?_
 simp only[*,go_sem,seval]
 refine Ze h (fun _ h=>?_) fun _ h=>?_<;>try simp only[*,go_sem,seval]
 obtain ⟨_,_,_,v,h⟩:=ZbQ h
 simp only[A4] at v
 simp only[*,go_sem,seval]
 refine Ze h (fun _ h=>?_) fun _ h=>?_<;>try simp only[*,go_sem,seval]
 refine ⟨_,[],[0,1,2],(A3 h).symm,by decide,?_⟩
 simp only[*,go_sem,seval]
 replace h:=Zn h e
 cases h
 simp only[*,go_sem,seval]
 obtain ⟨_,_,_,w,h⟩:=ZbQ h
 simp only[A4] at w
 simp only[*,go_sem,seval]
 refine ZMH h fun _ x h=>Zd (ZqF x) ?_
 simp only[*,go_sem,seval]
 refine Ze h (fun _ h=>?_) fun _ h=>?_<;>try simp only[*,go_sem,seval]
 refine ⟨_,[],[0,1,355],(A3 h).symm,by decide,?_⟩
 simp only[*,go_sem,seval]
 replace h:=Zn h e
 cases h
 simp only[*,go_sem,seval]
 rintro a ⟨sl,ob,n⟩ f _ h
 simp only[go_sem,seval,Zc] at f
 obtain ⟨⟨_,_,_,_⟩,_,_,_,hn⟩:=f
 subst hn
 have:=Zy (append_0.args.length)
 iterate 5 (cases h;simp only[*,go_sem,seval])
end
section
set_option linter.unusedSimpArgs false
set_option linter.unusedVariables false
set_option maxRecDepth 1000000
set_option maxHeartbeats 4000000
theorem Zgo {x_0:Zt} {r:Bool} (h:Zbf x_0=some r):Zk prog J0 223 [(true,ZK x_0)] [(false,[(false,.bool r)])]:=by
 refine fnk func223 rfl ?_
 unfold Zbf at h
 simp only[fnS,f223,Zm,go_sem,seval]
 refine ZMH h fun _ a h=>Zd (Zem a) ?_
 simp only[*,go_sem,seval]
 refine Ze h (fun _ h=>?_) fun _ h=>?_<;>try simp only[*,go_sem,seval]
 iterate 2 (cases h;simp only[*,go_sem,seval])
theorem ZlU {s_0:ByteArray} {r:(Zt × Bool)} (h:Za1 s_0=some r):Zk prog J0 290 [(false,[.str s_0])] [(true,[(false,.int .i64 r.1.kind),(false,.str r.1.pattern.rel),(false,.sl 9 1 (A0 Zx r.1.pattern.args)),(false,.str r.1.left),(false,.str r.1.right)]),(false,[(false,.bool r.2)])]:=by
 refine fnk func290 rfl ?_
 unfold Za1 at h
 have f:Z9 ⟨#[110,111,116,32]⟩=true:=by decide
 simp only[fnS,f290,Zm,go_sem,seval,f]
 refine Yo h (fun b st=>IV [(0,.p false [.c (.str s_0)]),(2,.bp 0 0),(4,.p false [.c (.int .i64 b)])] [.box 173 [.c (.int .i64 0),.c (.str ⟨#[]⟩),.nil 9 1,.c (.str ⟨#[]⟩),.c (.str ⟨#[]⟩)]] st) [] [0] (by decide) ?_ ?_
 simp only[*,go_sem,seval]
 rintro b ⟨sl,ob,n⟩ _ d _ h a
 simp only[go_sem,seval,Zc] at d
 obtain ⟨⟨_,_,_⟩,_,hn⟩:=d
 subst hn
 simp only[*,go_sem,seval]
 refine Ze h (fun _ h=>?_) fun _ h=>?_<;>try simp only[*,go_sem,seval]
 refine ZMH h fun _ g h=>Zd (ZrB g) ?_
 simp only[*,go_sem,seval]
 refine ZMH h fun _ i h=>Zd (Qd i) ?_
 simp only[*,go_sem,seval]
 refine Ze h (fun _ h=>?_) fun _ h=>?_<;>try simp only[*,go_sem,seval]
 obtain ⟨_,h⟩:=Zq h
 obtain ⟨_,j,h⟩:=Za h
 try simp only[seval] at j
 obtain ⟨_,h⟩:=Zq h
 obtain ⟨_,k,h⟩:=Za h
 try simp only[seval] at k
 simp only[*,go_sem,seval]
 refine ZMH h fun _ l h=>Zd (Zem l) ?_
 simp only[*,go_sem,seval]
 refine Ze h (fun _ h=>?_) fun _ h=>?_<;>try simp only[*,go_sem,seval]
 replace h:=Zn h a
 cases h
 simp only[*,go_sem,seval]
 refine ⟨_,[],[0],(A3 h).symm,by decide,?_⟩
 simp only[*,go_sem,seval]
 refine ⟨_,[],[0],(A3 h).symm,by decide,?_⟩
 simp only[*,go_sem,seval]
 refine Ze h (fun _ h=>?_) fun _ h=>?_<;>try simp only[*,go_sem,seval]
 obtain ⟨_,h⟩:=Zq h
 simp only[*,go_sem,seval]
 refine Ze h (fun e h=>?_) (fun e h=>?_)<;>(try simp only[seval] at e)<;>try simp only[*,go_sem,seval]
 refine ZMH h fun _ m h=>Zd (XD m) ?_
 simp only[*,go_sem,seval]
 refine Ze h (fun _ h=>?_) fun _ h=>?_<;>try simp only[*,go_sem,seval]
 iterate 2 (replace h:=Zn h a;cases h;simp only[*,go_sem,seval])
 refine ZMH h fun _ o h=>Zd (XD o) ?_
 simp only[*,go_sem,seval]
 refine Ze h (fun _ h=>?_) fun _ h=>?_<;>try simp only[*,go_sem,seval]
 iterate 2 (replace h:=Zn h a;cases h;simp only[*,go_sem,seval])
 refine ZMH h fun _ q h=>Zd (XD q) ?_
 simp only[*,go_sem,seval]
 refine Ze h (fun _ h=>?_) fun _ h=>?_<;>try simp only[*,go_sem,seval]
 iterate 2 (replace h:=Zn h a;cases h;simp only[*,go_sem,seval])
theorem Zng {s_0:ByteArray} {r:(Zz × Bool)} (h:ZaE s_0=some r):Zk prog J0 291 [(false,[.str s_0])] [(true,[(false,.int .i64 r.1.kind),(false,.str r.1.pattern.rel),(false,.sl 9 1 (A0 Zx r.1.pattern.args))]),(false,[(false,.bool r.2)])]:=by
 refine fnk func291 rfl ?_
 unfold ZaE at h
 have a:Z9 ⟨#[100,114,111,112]⟩=true:=by decide
 have b:Z9 ⟨#[115,116,111,112]⟩=true:=by decide
 have c:Z9 ⟨#[32]⟩=true:=by decide
 have d:Z9 ⟨#[97,100,100]⟩=true:=by decide
 simp only[fnS,f291,Zm,go_sem,seval,a,b,c,d]
 refine Ze h (fun _ h=>?_) fun _ h=>?_<;>try simp only[*,go_sem,seval]
 cases h
 simp only[*,go_sem,seval]
 refine ZMH h fun _ e h=>Zd (Qd e) ?_
 simp only[*,go_sem,seval]
 refine Ze h (fun _ h=>?_) fun _ h=>?_<;>try simp only[*,go_sem,seval]
 cases h
 simp only[*,go_sem,seval]
 obtain ⟨_,h⟩:=Zq h
 obtain ⟨_,f,h⟩:=Za h
 try simp only[seval] at f
 simp only[*,go_sem,seval]
 refine Ze h (fun _ h=>?_) fun _ h=>?_<;>try simp only[*,go_sem,seval]
 obtain ⟨_,h⟩:=Zq h
 obtain ⟨_,g,h⟩:=Za h
 try simp only[seval] at g
 simp only[*,go_sem,seval]
 refine ZMH h fun _ i h=>Zd (XD i) ?_
 cases h
 simp only[*,go_sem,seval]
 refine Ze h (fun _ h=>?_) fun _ h=>?_<;>try simp only[*,go_sem,seval]
 obtain ⟨_,h⟩:=Zq h
 obtain ⟨_,j,h⟩:=Za h
 try simp only[seval] at j
 simp only[*,go_sem,seval]
 refine ZMH h fun _ k h=>Zd (XD k) ?_
 iterate 2 (cases h;simp only[*,go_sem,seval])
theorem Zkv {append_0:Zg} {r:Bool} (h:Zfe append_0=some r):Zk prog J0 132 [(true,ZF append_0)] [(false,[(false,.bool r)])]:=by
 refine fnk func132 rfl ?_
 unfold Zfe at h
 simp only[fnS,f132,Zm,go_sem,seval]
 refine ZMH h fun _ v h=>Zd (Zgl v) ?_
 simp only[*,go_sem,seval]
 iterate 2 refine Ze h (fun _ h=>?_) fun _ h=>?_<;>try simp only[*,go_sem,seval]
 iterate 5 (cases h;simp only[*,go_sem,seval];refine Ze h (fun _ h=>?_) fun _ h=>?_<;>try simp only[*,go_sem,seval])
 cases h
 simp only[*,go_sem,seval]
 refine Zi h (fun i _ st=>IV [(1,.bp 0 0),(49,.p false [.c (.sl 173 5 (A0 ZK append_0.cond))]),(50,.p false [.c (.int .i64 ((append_0.cond.length:Nat):Int))]),(51,.p false [.c (.int .i64 ((i:Nat):Int))])] [.box 42 [.c (.str append_0.name),.c (.int .i64 append_0.priority),.c (.sl 173 5 (A0 ZK append_0.cond)),.c (.sl 50 3 (A0 ZG append_0.thn))]] st) [] [0] (by decide) ?_ ?_ ?_
 simp only[*,go_sem,seval]
 rintro _ _ ⟨⟩ ⟨sl,ob,n⟩ _ a g w h b
 simp only[go_sem,seval,Zc] at g
 obtain ⟨⟨_,x,_,_⟩,_,hn⟩:=g
 subst hn
 have y:=WF.slotL w x (j:=0) rfl
 have:=ZA a
 have:=ZC a
 have:=Zj (ZB a) y
 simp only[*,go_sem,seval]
 refine ZMH h fun _ z h=>Zd (Zgc z) ?_
 simp only[*,go_sem,seval]
 iterate 3 refine Ze h (fun _ h=>?_) fun _ h=>?_<;>try simp only[*,go_sem,seval]
 replace h:=Zn h b
 cases h
 simp only[*,go_sem,seval]
 refine ZMH h fun _ A h=>Zd (ZhQ A) ?_
 simp only[*,go_sem,seval]
 refine Ze h (fun _ h=>?_) fun _ h=>?_<;>try simp only[*,go_sem,seval]
 refine ⟨_,[],[0],(A3 h).symm,by decide,?_⟩
 simp only[*,go_sem,seval]
 replace h:=Zn h b
 cases h
 simp only[*,go_sem,seval]
 refine ZMH h fun _ B h=>Zd (ZhQ B) ?_
 simp only[*,go_sem,seval]
 refine Ze h (fun _ h=>?_) fun _ h=>?_<;>try simp only[*,go_sem,seval]
 refine ⟨_,[],[0],(A3 h).symm,by decide,?_⟩
 iterate 2 (simp only[*,go_sem,seval];replace h:=Zn h b;cases h)
 simp only[*,go_sem,seval]
 rintro ⟨⟩ ⟨sl,ob,n⟩ k _ h
 simp only[go_sem,seval,Zc] at k
 obtain ⟨⟨_,_,_,_⟩,_,hn⟩:=k
 subst hn
 have:=Zy (append_0.cond.length)
 simp only[*,go_sem,seval]
 refine ZMH h fun l C h=>Zd (ZdH C) ?_
 simp only[*,go_sem,seval]
 refine Zi h (fun i _ st=>IV [(1,.bp 0 0),(5,.p false [.row 1]),(81,.p false [.c (.sl 50 3 (A0 ZG append_0.thn))]),(82,.p false [.c (.int .i64 ((append_0.thn.length:Nat):Int))]),(83,.p false [.c (.int .i64 ((i:Nat):Int))])] [.box 42 [.c (.str append_0.name),.c (.int .i64 append_0.priority),.c (.sl 173 5 (A0 ZK append_0.cond)),.c (.sl 50 3 (A0 ZG append_0.thn))],.row 9 1 (A0 Zx l) 2] st) [] [0,81] (by decide) ?_ ?_ ?_
 simp only[*,go_sem,seval]
 rintro D _ ⟨⟩ ⟨sl,ob,n⟩ _ d m E h o
 simp only[go_sem,seval,Zc] at m
 obtain ⟨⟨_,_,F,_,_⟩,_,_,hn⟩:=m
 subst hn
 have G:=WF.slotL E F (j:=0) rfl
 have:=ZA d
 have:=ZC d
 have:=Zj (ZB d) G
 simp only[*,go_sem,seval]
 refine ZMH h fun _ H h=>Zd (ZmO H) ?_
 simp only[*,go_sem,seval]
 refine Ze h (fun _ h=>?_) fun _ h=>?_<;>try simp only[*,go_sem,seval]
 refine ZMH h fun e I h=>Zd (ZdX I) ?_
 simp only[*,go_sem,seval]
 refine Zi h (fun i _ st=>IV [(1,.bp 0 0),(5,.p false [.row 1]),(81,.p false [.c (.sl 50 3 (A0 ZG append_0.thn))]),(82,.p false [.c (.int .i64 ((append_0.thn.length:Nat):Int))]),(83,.p false [.c (.int .i64 ((D:Nat):Int))]),(93,.p false [.row 2]),(94,.p false [.c (.int .i64 ((e.length:Nat):Int))]),(95,.p false [.c (.int .i64 ((i:Nat):Int))])] [.box 42 [.c (.str append_0.name),.c (.int .i64 append_0.priority),.c (.sl 173 5 (A0 ZK append_0.cond)),.c (.sl 50 3 (A0 ZG append_0.thn))],.row 9 1 (A0 Zx l) 2,.row 9 1 (A0 Zx e) 2] st) [] [0,1,178] (by decide) ?_ ?_ ?_
 simp only[*,go_sem,seval]
 rintro _ _ ⟨⟩ ⟨sl,ob,n⟩ _ f q J h K
 simp only[go_sem,seval,Zc] at q
 obtain ⟨⟨_,_,_,_,_,_,_,_⟩,_,_,L,hn⟩:=q
 subst hn
 have M:=WF.rowL J L
 have:=ZA f
 have:=ZC f
 have:=Zj (ZB f) M
 simp only[*,go_sem,seval]
 refine ZMH h fun _ N h=>Zd (Zac N) ?_
 simp only[*,go_sem,seval]
 refine Ze h (fun _ h=>?_) fun _ h=>?_<;>try simp only[*,go_sem,seval]
 refine ⟨_,[],[0,1,2],(A3 h).symm,by decide,?_⟩
 simp only[*,go_sem,seval]
 replace h:=Zn h K
 replace h:=Zn h o
 cases h
 simp only[*,go_sem,seval]
 rintro ⟨⟩ ⟨sl,ob,n⟩ t _ h
 simp only[go_sem,seval,Zc] at t
 obtain ⟨⟨_,_,_,_,_,_,_,_⟩,_,_,_,hn⟩:=t
 subst hn
 have:=Zy (e.length)
 simp only[*,go_sem,seval]
 refine ⟨_,[],[0,1],(A3 h).symm,by decide,?_⟩
 simp only[*,go_sem,seval]
 replace h:=Zn h o
 cases h
 simp only[*,go_sem,seval]
 rintro ⟨⟩ ⟨sl,ob,n⟩ u _ h
 simp only[go_sem,seval,Zc] at u
 obtain ⟨⟨_,_,_,_,_⟩,_,_,hn⟩:=u
 subst hn
 have:=Zy (append_0.thn.length)
 simp only[*,go_sem,seval]
 refine ZMH h fun _ O h=>Zd (ZkH O) ?_
 simp only[*,go_sem,seval]
 refine ZMH h fun _ P h=>Zd (XX P) ?_
 iterate 2 (cases h;simp only[*,go_sem,seval])
theorem Zms {append_0:Zt} {String_1:(List Zs)} {r:Bool} (h:Zcs append_0 String_1=some r):Zk prog J0 214 [(true,ZK append_0),(false,[.sl 166 2 (A0 Z4 String_1)])] [(false,[(false,.bool r)])]:=by
 refine fnk func214 rfl ?_
 unfold Zcs at h
 simp only[fnS,f214,Zm,go_sem,seval]
 refine ZMH h fun _ a h=>Zd (Zrq a) ?_
 simp only[*,go_sem,seval]
 refine Ze h (fun _ h=>?_) fun _ h=>?_<;>try simp only[*,go_sem,seval]
 refine ZMH h fun _ b h=>Zd (QO b) ?_
 simp only[*,go_sem,seval]
 refine Ze h (fun _ h=>?_) fun _ h=>?_<;>try simp only[*,go_sem,seval]
 refine ZMH h fun _ c h=>Zd (ZcR c) ?_
 simp only[*,go_sem,seval]
 refine ZMH h fun _ d h=>Zd (ZcR d) ?_
 simp only[*,go_sem,seval]
 iterate 3 refine Ze h (fun _ h=>?_) fun _ h=>?_<;>try simp only[*,go_sem,seval]
 cases h
 simp only[*,go_sem,seval]
 refine Ze h (fun _ h=>?_) fun _ h=>?_<;>try simp only[*,go_sem,seval]
 cases h
 simp only[*,go_sem,seval]
 refine ZMH h fun _ e h=>Zd (Zcf e) ?_
 simp only[*,go_sem,seval]
 refine ZMH h fun _ f h=>Zd (Zcf f) ?_
 simp only[*,go_sem,seval]
 iterate 2 refine Ze h (fun _ h=>?_) fun _ h=>?_<;>try simp only[*,go_sem,seval]
 iterate 7 (cases h;simp only[*,go_sem,seval])
theorem ZdS {p_0:Zv} {b_1:(List Zs)} {facts_2:(List Zb)} {r:(List Zb)} (h:Xs p_0 b_1 facts_2=some r):Zk prog J0 311 [(true,QA p_0),(false,[.sl 166 2 (A0 Z4 b_1)]),(false,[.sl 45 2 (A0 Zl facts_2)])] [(false,[(false,.sl 45 2 (A0 Zl r))])]:=by
 refine fnk func311 rfl ?_
 unfold Xs at h
 simp only[fnS,f311,Zm,go_sem,seval]
 refine Zi h (fun i a st=>IV [(1,.p false [.c (.sl 166 2 (A0 Z4 b_1))]),(2,.p false [.c (.sl 45 2 (A0 Zl facts_2))]),(3,.bp 0 0),(7,.p false [.row 1]),(8,.p false [.c (.int .i64 ((i:Nat):Int))])] [.box 48 [.c (.str p_0.rel),.c (.sl 9 1 (A0 Zx p_0.args))],.row 45 2 (A0 Zl a) 2] st) [] [0,32] (by decide) ?_ ?_ ?_
 simp only[*,go_sem,seval]
 rintro _ _ a ⟨sl,ob,n⟩ _ b d f h _
 simp only[go_sem,seval,Zc] at d
 obtain ⟨⟨_,g,_,_,_⟩,_,_,hn⟩:=d
 subst hn
 have k:=WF.slotL f g (j:=0) rfl
 have:=ZA b
 have:=ZC b
 have:=Zj (ZB b) k
 simp only[*,go_sem,seval]
 refine ZMH h fun _ l h=>Zd (Zf2 l) ?_
 simp only[*,go_sem,seval]
 refine Ze h (fun _ h=>?_) fun _ h=>?_<;>try simp only[*,go_sem,seval]
 refine ZMH h fun _ m h=>Zd (Xa m) ?_
 obtain ⟨o,h⟩:=Zq h
 try simp only[Nat.reduceLeDiff] at o
 simp only[*,go_sem,seval]
 refine ⟨_,[],[0,386],(A3 h).symm,by decide,?_⟩
 simp only[*,go_sem,seval]
 refine ⟨_,[],[0,1],(A3 h).symm,by decide,?_⟩
 simp only[*,go_sem,seval]
 rintro a ⟨sl,ob,n⟩ e _ h
 simp only[go_sem,seval,Zc] at e
 obtain ⟨⟨_,_,_,_,_⟩,_,_,hn⟩:=e
 subst hn
 have:=Zy (facts_2.length)
 cases h
 simp only[*,go_sem,seval]
theorem ZkZ {append_0:Zg} {String_1:Int} {a_2:Zu} {a_3:(List Zb)} {r:Zf} (h:ZaS append_0 String_1 a_2 a_3=some r):Zk prog J0 192 [(true,ZF append_0),(false,[.int .i64 String_1]),(true,YK a_2),(false,[.sl 45 2 (A0 Zl a_3)])] [(true,[(false,.int .i64 r.for_),(false,.sl 3 1 (A0 ZI r.inn)),(false,.sl 3 1 (A0 ZI r.outs))])]:=by
 refine fnk func192 rfl ?_
 unfold ZaS at h
 simp only[fnS,f192,Zm,go_sem,seval]
 obtain ⟨_,_,_,_,h⟩:=ZbQ h
 simp only[*,go_sem,seval]
 refine ZMH h fun d g h=>Zd (Zb8 g) ?_
 simp only[*,go_sem,seval]
 refine Zi h (fun i a st=>IV [(3,.p false [.c (.sl 45 2 (A0 Zl a_3))]),(4,.bp 0 0),(6,.bp 1 0),(8,.bp 2 0),(9,.bp 3 0),(11,.p false [.row 5]),(12,.p false [.c (.int .i64 ((i:Nat):Int))])] [.box 42 [.c (.str append_0.name),.c (.int .i64 append_0.priority),.c (.sl 173 5 (A0 ZK append_0.cond)),.c (.sl 50 3 (A0 ZG append_0.thn))],.box 120 [.c (.sl 45 2 (A0 Zl a_2.facts)),.c (.sl 166 2 (A0 Z4 a_2.binding))],.box 199 [.c (.int .i64 0),.nil 3 1,.nil 3 1],.box 45 [.c (.str d.1.rel),.row 4],.row 9 1 (A0 Zx d.1.args) 2,.row 45 2 (A0 Zl a) 2] st) [] [0,16,32,240,176,288] (by decide) ?_ ?_ ?_
 simp only[*,go_sem,seval]
 rintro _ _ a ⟨sl,ob,n⟩ _ b e k h _
 simp only[go_sem,seval,Zc] at e
 obtain ⟨⟨_,_,_,_,_,_,_⟩,l,_,_,_,_,_,hn⟩:=e
 subst hn
 have m:=WF.boxL k l (j:=2) rfl
 have:=ZA b
 have:=ZC b
 have:=Zj (ZB b) m
 simp only[*,go_sem,seval]
 refine Ze h (fun _ h=>?_) fun _ h=>?_<;>try simp only[*,go_sem,seval]
 refine ZMH h fun _ o h=>Zd (Zb8 o) ?_
 obtain ⟨q,h⟩:=Zq h
 try simp only[Nat.reduceLeDiff] at q
 simp only[*,go_sem,seval]
 refine ⟨_,[],[0,1,2,3,4,486],(A3 h).symm,by decide,?_⟩
 simp only[*,go_sem,seval]
 refine ⟨_,[],[0,1,2,3,4,5],(A3 h).symm,by decide,?_⟩
 simp only[*,go_sem,seval]
 rintro a ⟨sl,ob,n⟩ f _ h
 simp only[go_sem,seval,Zc] at f
 obtain ⟨⟨_,_,_,_,_,_,_⟩,_,_,_,_,_,_,hn⟩:=f
 subst hn
 have:=Zy (append_0.cond.length)
 simp only[*,go_sem,seval]
 refine ZMH h fun _ t h=>Zd (Zb0 t) ?_
 simp only[*,go_sem,seval]
 refine ZMH h fun _ u h=>Zd (ZhF u) ?_
 simp only[*,go_sem,seval]
 refine ZMH h fun _ v h=>Zd (ZhF v) ?_
 cases h
 simp only[*,go_sem,seval]
theorem ZHj {f_0:QZ} {x_1:Int} {set_2:Int} {r:Bool} (h:ZF3 f_0 x_1 set_2=some r):Zk prog J0 184 [(true,ZAT f_0),(false,[.int .i64 x_1]),(false,[.int .i64 set_2])] [(false,[(false,.bool r)])]:=by
 refine fnk func184 rfl ?_
 unfold ZF3 at h
 simp only[fnS,f184,Zm,go_sem,seval]
 refine ZMH h fun _ a h=>Zd (ZGZ a) ?_
 simp only[*,go_sem,seval]
 refine Ze h (fun _ h=>?_) fun _ h=>?_<;>try simp only[*,go_sem,seval]
 refine ZMH h fun _ b h=>Zd (ZHq b) ?_
 simp only[*,go_sem,seval]
 refine ZMH h fun _ c h=>Zd (ZIS c) ?_
 iterate 2 (cases h;simp only[*,go_sem,seval])
end
section
set_option linter.unusedSimpArgs false
set_option linter.unusedVariables false
set_option maxRecDepth 1000000
set_option maxHeartbeats 4000000
theorem ZgS {append_0:Zg} {r:Bool} (h:Zcu append_0=some r):Zk prog J0 158 [(true,ZF append_0)] [(false,[(false,.bool r)])]:=by
 refine fnk func158 rfl ?_
 unfold Zcu at h
 simp only[fnS,f158,Zm,go_sem,seval]
 refine ZMH h fun _ H h=>Zd (ZgV H) ?_
 simp only[*,go_sem,seval]
 refine Ze h (fun _ h=>?_) fun _ h=>?_<;>try simp only[*,go_sem,seval]
 refine ZMH h fun _ I h=>Zd (XU I) ?_
 simp only[*,go_sem,seval]
 refine Ze h (fun _ h=>?_) fun _ h=>?_<;>try simp only[*,go_sem,seval]
 refine ZMH h fun _ J h=>Zd (XU J) ?_
 simp only[*,go_sem,seval]
 refine Ze h (fun _ h=>?_) fun _ h=>?_<;>try simp only[*,go_sem,seval]
 refine ZMH h fun _ K h=>Zd (XU K) ?_
 simp only[*,go_sem,seval]
 refine Ze h (fun _ h=>?_) fun _ h=>?_<;>try simp only[*,go_sem,seval]
 refine ZMH h fun e L h=>Zd (Zbq L) ?_
 simp only[*,go_sem,seval]
 refine Zi h (fun i _ st=>IV [(1,.bp 0 0),(3,.p false [.row 1]),(4,.p false [.c (.int .i64 ((i:Nat):Int))])] [.box 42 [.c (.str append_0.name),.c (.int .i64 append_0.priority),.c (.sl 173 5 (A0 ZK append_0.cond)),.c (.sl 50 3 (A0 ZG append_0.thn))],.row 9 1 (A0 Zx e) 2] st) [] [0,480] (by decide) ?_ ?_ ?_
 simp only[*,go_sem,seval]
 rintro b a ⟨⟩ ⟨sl,ob,n⟩ _ f o M h d
 simp only[go_sem,seval,Zc] at o
 obtain ⟨⟨_,_,_⟩,N,_,hn⟩:=o
 subst hn
 have O:=WF.boxL M N (j:=2) rfl
 have:=ZA f
 have:=ZC f
 have:=Zj (ZB f) O
 simp only[*,go_sem,seval]
 refine ZMH h fun _ P h=>Zd (Zem P) ?_
 simp only[*,go_sem,seval]
 iterate 3 refine Ze h (fun _ h=>?_) fun _ h=>?_<;>try simp only[*,go_sem,seval]
 replace h:=Zn h d
 cases h
 simp only[*,go_sem,seval]
 refine ZMH h fun Q R h=>Zd (Zbq R) ?_
 simp only[*,go_sem,seval]
 refine ZMH h fun q S h=>Zd (Zas S) ?_
 simp only[*,go_sem,seval]
 refine Zi h (fun i _ st=>IV [(1,.bp 0 0),(3,.p false [.row 1]),(4,.p false [.c (.int .i64 ((b:Nat):Int))]),(5,.bp 2 0),(6,.p false [.row 3]),(7,.p false [.row 4]),(8,.p false [.c (.int .i64 ((i:Nat):Int))]),(58,.p false [.c (.int .i64 ((b:Nat):Int))]),(59,.p false [.c (.bool (((b:Nat):Int)==0))]),(60,.p false [.c (.bool (((b:Nat):Int)==0))]),(61,.bp 2 0),(62,.p false [.c (.int .i64 a.kind)]),(63,.p false [.c (.bool (a.kind != 1))]),(64,.p false [.c (.bool (a.kind != 1))])] [.box 42 [.c (.str append_0.name),.c (.int .i64 append_0.priority),.c (.sl 173 5 (A0 ZK append_0.cond)),.c (.sl 50 3 (A0 ZG append_0.thn))],.row 9 1 (A0 Zx e) 2,.box 173 [.c (.int .i64 a.kind),.c (.str a.pattern.rel),.c (.sl 9 1 (A0 Zx a.pattern.args)),.c (.str a.left),.c (.str a.right)],.row 9 1 (A0 Zx Q) 2,.row 9 1 (A0 Zx q) 2] st) [] [0,1,162,418,466] (by decide) ?_ ?_ ?_
 simp only[*,go_sem,seval]
 rintro _ _ ⟨⟩ ⟨sl,ob,n⟩ _ g t T h u
 simp only[go_sem,seval,Zc] at t
 obtain ⟨⟨_,_,_,_,_,_,_,_,_,_,_,_,_,_⟩,_,_,_,_,U,hn⟩:=t
 subst hn
 have V:=WF.rowL T U
 have:=ZA g
 have:=ZC g
 have:=Zj (ZB g) V
 simp only[*,go_sem,seval]
 refine ZMH h fun _ W h=>Zd (Yz W) ?_
 simp only[*,go_sem,seval]
 refine ZMH h fun _ X h=>Zd (Zgo X) ?_
 simp only[*,go_sem,seval]
 iterate 3 refine Ze h (fun _ h=>?_) fun _ h=>?_<;>try simp only[*,go_sem,seval]
 refine ⟨_,[],[0,1,2,3,4],(A3 h).symm,by decide,?_⟩
 simp only[*,go_sem,seval]
 refine ⟨_,[],[0,1,2,3,4],(A3 h).symm,by decide,?_⟩
 simp only[*,go_sem,seval]
 replace h:=Zn h u
 replace h:=Zn h d
 cases h
 simp only[*,go_sem,seval]
 iterate 2 refine Ze h (fun _ h=>?_) fun _ h=>?_<;>try simp only[*,go_sem,seval]
 refine ⟨_,[],[0,1,2,3,4],(A3 h).symm,by decide,?_⟩
 simp only[*,go_sem,seval]
 refine ZMH h fun _ Y h=>Zd (Ze4 Y) ?_
 simp only[*,go_sem,seval]
 refine Ze h (fun _ h=>?_) fun _ h=>?_<;>try simp only[*,go_sem,seval]
 replace h:=Zn h u
 replace h:=Zn h d
 cases h
 simp only[*,go_sem,seval]
 refine ⟨_,[],[0,1,2,3,4],(A3 h).symm,by decide,?_⟩
 simp only[*,go_sem,seval]
 refine ⟨_,[],[0,1,2,3,4],(A3 h).symm,by decide,?_⟩
 simp only[*,go_sem,seval]
 rintro ⟨⟩ ⟨sl,ob,n⟩ v _ h
 simp only[go_sem,seval,Zc] at v
 obtain ⟨⟨_,_,_,_,_,_,_,_,_,_,_,_,_,_⟩,_,_,_,_,_,hn⟩:=v
 subst hn
 have:=Zy (q.length)
 simp only[*,go_sem,seval]
 refine ⟨_,[],[0,1],(A3 h).symm,by decide,?_⟩
 simp only[*,go_sem,seval]
 refine ZMH h fun Z aa h=>Zd (Zbq aa) ?_
 simp only[*,go_sem,seval]
 refine ZMH h fun w ab h=>Zd (Zas ab) ?_
 simp only[*,go_sem,seval]
 refine Zi h (fun i _ st=>IV [(1,.bp 0 0),(3,.p false [.row 1]),(4,.p false [.c (.int .i64 ((b:Nat):Int))]),(5,.bp 2 0),(6,.p false [.row 3]),(7,.p false [.row 4]),(8,.p false [.c (.int .i64 ((i:Nat):Int))]),(58,.p false [.c (.int .i64 ((b:Nat):Int))]),(59,.p false [.c (.bool (((b:Nat):Int)==0))]),(60,.p false [.c (.bool (((b:Nat):Int)==0))]),(64,.p false [.c (.bool false)])] [.box 42 [.c (.str append_0.name),.c (.int .i64 append_0.priority),.c (.sl 173 5 (A0 ZK append_0.cond)),.c (.sl 50 3 (A0 ZG append_0.thn))],.row 9 1 (A0 Zx e) 2,.box 173 [.c (.int .i64 a.kind),.c (.str a.pattern.rel),.c (.sl 9 1 (A0 Zx a.pattern.args)),.c (.str a.left),.c (.str a.right)],.row 9 1 (A0 Zx Z) 2,.row 9 1 (A0 Zx w) 2] st) [] [0,1,162,418,466] (by decide) ?_ ?_ ?_
 simp only[*,go_sem,seval]
 rintro _ _ ⟨⟩ ⟨sl,ob,n⟩ _ k x ac h y
 simp only[go_sem,seval,Zc] at x
 obtain ⟨⟨_,_,_,_,_,_,_,_,_,_,_⟩,_,_,_,_,ad,hn⟩:=x
 subst hn
 have ae:=WF.rowL ac ad
 have:=ZA k
 have:=ZC k
 have:=Zj (ZB k) ae
 simp only[*,go_sem,seval]
 refine ZMH h fun _ af h=>Zd (Yz af) ?_
 simp only[*,go_sem,seval]
 refine ZMH h fun _ ag h=>Zd (Zgo ag) ?_
 simp only[*,go_sem,seval]
 iterate 3 refine Ze h (fun _ h=>?_) fun _ h=>?_<;>try simp only[*,go_sem,seval]
 refine ⟨_,[],[0,1,2,3,4],(A3 h).symm,by decide,?_⟩
 simp only[*,go_sem,seval]
 refine ⟨_,[],[0,1,2,3,4],(A3 h).symm,by decide,?_⟩
 simp only[*,go_sem,seval]
 replace h:=Zn h y
 replace h:=Zn h d
 cases h
 simp only[*,go_sem,seval]
 iterate 2 refine Ze h (fun _ h=>?_) fun _ h=>?_<;>try simp only[*,go_sem,seval]
 refine ⟨_,[],[0,1,2,3,4],(A3 h).symm,by decide,?_⟩
 simp only[*,go_sem,seval]
 refine ZMH h fun _ ah h=>Zd (Ze4 ah) ?_
 simp only[*,go_sem,seval]
 refine Ze h (fun _ h=>?_) fun _ h=>?_<;>try simp only[*,go_sem,seval]
 replace h:=Zn h y
 replace h:=Zn h d
 cases h
 simp only[*,go_sem,seval]
 refine ⟨_,[],[0,1,2,3,4],(A3 h).symm,by decide,?_⟩
 simp only[*,go_sem,seval]
 refine ⟨_,[],[0,1,2,3,4],(A3 h).symm,by decide,?_⟩
 simp only[*,go_sem,seval]
 rintro ⟨⟩ ⟨sl,ob,n⟩ z _ h
 simp only[go_sem,seval,Zc] at z
 obtain ⟨⟨_,_,_,_,_,_,_,_,_,_,_⟩,_,_,_,_,_,hn⟩:=z
 subst hn
 have:=Zy (w.length)
 simp only[*,go_sem,seval]
 refine ⟨_,[],[0,1],(A3 h).symm,by decide,?_⟩
 simp only[*,go_sem,seval]
 replace h:=Zn h d
 cases h
 simp only[*,go_sem,seval]
 rintro ⟨⟩ ⟨sl,ob,n⟩ A _ h
 simp only[go_sem,seval,Zc] at A
 obtain ⟨⟨_,_,_⟩,_,_,hn⟩:=A
 subst hn
 have:=Zy (append_0.cond.length)
 simp only[*,go_sem,seval]
 refine Zi h (fun i _ st=>IV [(1,.bp 0 0),(3,.p false [.row 1]),(10,.p false [.c (.int .i64 ((i:Nat):Int))])] [.box 42 [.c (.str append_0.name),.c (.int .i64 append_0.priority),.c (.sl 173 5 (A0 ZK append_0.cond)),.c (.sl 50 3 (A0 ZG append_0.thn))],.row 9 1 (A0 Zx e) 2] st) [] [0,1] (by decide) ?_ ?_ ?_
 simp only[*,go_sem,seval]
 rintro ai _ ⟨⟩ ⟨sl,ob,n⟩ _ l B aj h C
 simp only[go_sem,seval,Zc] at B
 obtain ⟨⟨_,_,_⟩,ak,_,hn⟩:=B
 subst hn
 have al:=WF.boxL aj ak (j:=3) rfl
 have:=ZA l
 have:=ZC l
 have:=Zj (ZB l) al
 simp only[*,go_sem,seval]
 refine ZMH h fun _ am h=>Zd (Znb am) ?_
 simp only[*,go_sem,seval]
 refine Ze h (fun _ h=>?_) fun _ h=>?_<;>try simp only[*,go_sem,seval]
 refine ZMH h fun D an h=>Zd (Zcw an) ?_
 simp only[*,go_sem,seval]
 refine Zi h (fun i _ st=>IV [(1,.bp 0 0),(3,.p false [.row 1]),(10,.p false [.c (.int .i64 ((ai:Nat):Int))]),(11,.p false [.row 2]),(12,.p false [.c (.int .i64 ((i:Nat):Int))])] [.box 42 [.c (.str append_0.name),.c (.int .i64 append_0.priority),.c (.sl 173 5 (A0 ZK append_0.cond)),.c (.sl 50 3 (A0 ZG append_0.thn))],.row 9 1 (A0 Zx e) 2,.row 9 1 (A0 Zx D) 2] st) [] [0,1,290] (by decide) ?_ ?_ ?_
 simp only[*,go_sem,seval]
 rintro _ _ ⟨⟩ ⟨sl,ob,n⟩ _ m E ao h ap
 simp only[go_sem,seval,Zc] at E
 obtain ⟨⟨_,_,_,_,_⟩,_,_,aq,hn⟩:=E
 subst hn
 have ar:=WF.rowL ao aq
 have:=ZA m
 have:=ZC m
 have:=Zj (ZB m) ar
 simp only[*,go_sem,seval]
 refine ZMH h fun _ au h=>Zd (Yz au) ?_
 simp only[*,go_sem,seval]
 refine Ze h (fun _ h=>?_) fun _ h=>?_<;>try simp only[*,go_sem,seval]
 refine ⟨_,[],[0,1,2],(A3 h).symm,by decide,?_⟩
 simp only[*,go_sem,seval]
 replace h:=Zn h ap
 replace h:=Zn h C
 cases h
 simp only[*,go_sem,seval]
 rintro ⟨⟩ ⟨sl,ob,n⟩ F _ h
 simp only[go_sem,seval,Zc] at F
 obtain ⟨⟨_,_,_,_,_⟩,_,_,_,hn⟩:=F
 subst hn
 have:=Zy (D.length)
 simp only[*,go_sem,seval]
 refine ⟨_,[],[0,1],(A3 h).symm,by decide,?_⟩
 simp only[*,go_sem,seval]
 replace h:=Zn h C
 cases h
 simp only[*,go_sem,seval]
 rintro ⟨⟩ ⟨sl,ob,n⟩ G _ h
 simp only[go_sem,seval,Zc] at G
 obtain ⟨⟨_,_,_⟩,_,_,hn⟩:=G
 subst hn
 have:=Zy (append_0.thn.length)
 simp only[*,go_sem,seval]
 refine ZMH h fun _ av h=>Zd (ZmN av) ?_
 iterate 5 (cases h;simp only[*,go_sem,seval])
theorem Zer {l_0:(List Zg)} {r:Bool} (h:ZaL l_0=some r):Zk prog J0 65 [(false,[.sl 42 4 (A0 ZF l_0)])] [(false,[(false,.bool r)])]:=by
 refine fnk func65 rfl ?_
 unfold ZaL at h
 simp only[fnS,f65,Zm,go_sem,seval]
 refine Ze h (fun _ h=>?_) fun _ h=>?_<;>try simp only[*,go_sem,seval]
 cases h
 simp only[*,go_sem,seval]
 refine Zi h (fun i _ st=>IV [(0,.p false [.c (.sl 42 4 (A0 ZF l_0))]),(8,.p false [.c (.sl 42 4 (A0 ZF l_0))]),(9,.p false [.c (.int .i64 ((l_0.length:Nat):Int))]),(10,.p false [.c (.int .i64 ((i:Nat):Int))])] [] st) [] [] (by decide) ?_ ?_ ?_
 simp only[*,go_sem,seval]
 rintro _ _ ⟨⟩ ⟨sl,ob,n⟩ _ a b f h d
 simp only[go_sem,seval,Zc] at b
 obtain ⟨⟨g,_,_,_⟩,hn⟩:=b
 subst hn
 have k:=WF.slotL f g (j:=0) rfl
 have:=ZA a
 have:=ZC a
 have:=Zj (ZB a) k
 simp only[*,go_sem,seval]
 refine ZMH h fun _ l h=>Zd (Zkv l) ?_
 simp only[*,go_sem,seval]
 refine Ze h (fun _ h=>?_) fun _ h=>?_<;>try simp only[*,go_sem,seval]
 refine ZMH h fun _ m h=>Zd (ZmU m) ?_
 simp only[*,go_sem,seval]
 refine Ze h (fun _ h=>?_) fun _ h=>?_<;>try simp only[*,go_sem,seval]
 replace h:=Zn h d
 cases h
 simp only[*,go_sem,seval]
 refine ⟨_,[],[],(A3 h).symm,by decide,?_⟩
 simp only[*,go_sem,seval]
 replace h:=Zn h d
 cases h
 simp only[*,go_sem,seval]
 rintro ⟨⟩ ⟨sl,ob,n⟩ e _ h
 simp only[go_sem,seval,Zc] at e
 obtain ⟨⟨_,_,_,_⟩,hn⟩:=e
 subst hn
 have:=Zy (l_0.length)
 cases h
 simp only[*,go_sem,seval]
theorem Zmf {r_0:Zg} {r:Bool} (h:Zci r_0=some r):Zk prog J0 152 [(true,ZF r_0)] [(false,[(false,.bool r)])]:=by
 refine fnk func152 rfl ?_
 unfold Zci at h
 simp only[fnS,f152,Zm,go_sem,seval]
 refine ZMH h fun _ l h=>Zd (Zkv l) ?_
 simp only[*,go_sem,seval]
 refine Ze h (fun _ h=>?_) fun _ h=>?_<;>try simp only[*,go_sem,seval]
 refine ZMH h fun _ m h=>Zd (Zm5 m) ?_
 simp only[*,go_sem,seval]
 refine Ze h (fun _ h=>?_) fun _ h=>?_<;>try simp only[*,go_sem,seval]
 refine Zi h (fun i _ st=>IV [(1,.bp 0 0),(17,.p false [.c (.sl 173 5 (A0 ZK r_0.cond))]),(18,.p false [.c (.int .i64 ((r_0.cond.length:Nat):Int))]),(19,.p false [.c (.int .i64 ((i:Nat):Int))])] [.box 42 [.c (.str r_0.name),.c (.int .i64 r_0.priority),.c (.sl 173 5 (A0 ZK r_0.cond)),.c (.sl 50 3 (A0 ZG r_0.thn))]] st) [] [0] (by decide) ?_ ?_ ?_
 simp only[*,go_sem,seval]
 rintro o _ ⟨⟩ ⟨sl,ob,n⟩ _ a e q h t
 simp only[go_sem,seval,Zc] at e
 obtain ⟨⟨_,u,_,_⟩,_,hn⟩:=e
 subst hn
 have v:=WF.slotL q u (j:=0) rfl
 have:=ZA a
 have:=ZC a
 have:=Zj (ZB a) v
 simp only[*,go_sem,seval]
 refine Ze h (fun _ h=>?_) fun _ h=>?_<;>try simp only[*,go_sem,seval]
 refine ⟨_,[],[0],(A3 h).symm,by decide,?_⟩
 simp only[*,go_sem,seval]
 refine ZMH h fun w x h=>Zd (ZdH x) ?_
 simp only[*,go_sem,seval]
 refine ZMH h fun b y h=>Zd (Zb9 y) ?_
 simp only[*,go_sem,seval]
 refine Zi h (fun i _ st=>IV [(1,.bp 0 0),(5,.p false [.row 1]),(17,.p false [.c (.sl 173 5 (A0 ZK r_0.cond))]),(18,.p false [.c (.int .i64 ((r_0.cond.length:Nat):Int))]),(19,.p false [.c (.int .i64 ((o:Nat):Int))]),(31,.p false [.row 2]),(32,.p false [.c (.int .i64 ((b.length:Nat):Int))]),(33,.p false [.c (.int .i64 ((i:Nat):Int))])] [.box 42 [.c (.str r_0.name),.c (.int .i64 r_0.priority),.c (.sl 173 5 (A0 ZK r_0.cond)),.c (.sl 50 3 (A0 ZG r_0.thn))],.row 9 1 (A0 Zx w) 2,.row 9 1 (A0 Zx b) 2] st) [] [0,193,241] (by decide) ?_ ?_ ?_
 simp only[*,go_sem,seval]
 rintro _ _ ⟨⟩ ⟨sl,ob,n⟩ _ d f z h A
 simp only[go_sem,seval,Zc] at f
 obtain ⟨⟨_,_,_,_,_,_,_,_⟩,_,_,B,hn⟩:=f
 subst hn
 have C:=WF.rowL z B
 have:=ZA d
 have:=ZC d
 have:=Zj (ZB d) C
 simp only[*,go_sem,seval]
 refine ZMH h fun _ D h=>Zd (Zac D) ?_
 simp only[*,go_sem,seval]
 refine Ze h (fun _ h=>?_) fun _ h=>?_<;>try simp only[*,go_sem,seval]
 refine ⟨_,[],[0,1,2],(A3 h).symm,by decide,?_⟩
 simp only[*,go_sem,seval]
 replace h:=Zn h A
 replace h:=Zn h t
 cases h
 simp only[*,go_sem,seval]
 rintro ⟨⟩ ⟨sl,ob,n⟩ g _ h
 simp only[go_sem,seval,Zc] at g
 obtain ⟨⟨_,_,_,_,_,_,_,_⟩,_,_,_,hn⟩:=g
 subst hn
 have:=Zy (b.length)
 simp only[*,go_sem,seval]
 refine ⟨_,[],[0],(A3 h).symm,by decide,?_⟩
 simp only[*,go_sem,seval]
 rintro ⟨⟩ ⟨sl,ob,n⟩ k _ h
 simp only[go_sem,seval,Zc] at k
 obtain ⟨⟨_,_,_,_⟩,_,hn⟩:=k
 subst hn
 have:=Zy (r_0.cond.length)
 iterate 3 (cases h;simp only[*,go_sem,seval])
theorem Zll {x_0:Zt} {b_1:(List Zs)} {facts_2:(List Zb)} {r:Bool} (h:ZcD x_0 b_1 facts_2=some r):Zk prog J0 153 [(true,ZK x_0),(false,[.sl 166 2 (A0 Z4 b_1)]),(false,[.sl 45 2 (A0 Zl facts_2)])] [(false,[(false,.bool r)])]:=by
 refine fnk func153 rfl ?_
 unfold ZcD at h
 simp only[fnS,f153,Zm,go_sem,seval]
 refine ZMH h fun _ a h=>Zd (Zgc a) ?_
 simp only[*,go_sem,seval]
 refine Ze h (fun _ h=>?_) fun _ h=>?_<;>try simp only[*,go_sem,seval]
 refine ZMH h fun _ b h=>Zd (QO b) ?_
 simp only[*,go_sem,seval]
 iterate 2 refine Ze h (fun _ h=>?_) fun _ h=>?_<;>try simp only[*,go_sem,seval]
 refine ZMH h fun _ c h=>Zd (ZdD c) ?_
 cases h
 simp only[*,go_sem,seval]
 refine Ze h (fun _ h=>?_) fun _ h=>?_<;>try simp only[*,go_sem,seval]
 refine ZMH h fun _ d h=>Zd (ZdD d) ?_
 cases h
 simp only[*,go_sem,seval]
 refine ZMH h fun _ e h=>Zd (Zms e) ?_
 iterate 3 (cases h;simp only[*,go_sem,seval])
theorem Zk7 {x_0:Zt} {b_1:(List Zs)} {r:Bool} (h:Zcj x_0 b_1=some r):Zk prog J0 312 [(true,ZK x_0),(false,[.sl 166 2 (A0 Z4 b_1)])] [(false,[(false,.bool r)])]:=by
 refine fnk func312 rfl ?_
 unfold Zcj at h
 simp only[fnS,f312,Zm,go_sem,seval]
 refine ZMH h fun _ a h=>Zd (Zgo a) ?_
 simp only[*,go_sem,seval]
 refine Ze h (fun _ h=>?_) fun _ h=>?_<;>try simp only[*,go_sem,seval]
 refine ZMH h fun _ b h=>Zd (QX b) ?_
 simp only[*,go_sem,seval]
 refine Ze h (fun _ h=>?_) fun _ h=>?_<;>try simp only[*,go_sem,seval]
 refine ZMH h fun _ c h=>Zd (ZcO c) ?_
 simp only[*,go_sem,seval]
 refine ZMH h fun _ d h=>Zd (ZcO d) ?_
 simp only[*,go_sem,seval]
 iterate 3 refine Ze h (fun _ h=>?_) fun _ h=>?_<;>try simp only[*,go_sem,seval]
 cases h
 simp only[*,go_sem,seval]
 refine Ze h (fun _ h=>?_) fun _ h=>?_<;>try simp only[*,go_sem,seval]
 cases h
 simp only[*,go_sem,seval]
 refine ZMH h fun _ e h=>Zd (ZhK e) ?_
 simp only[*,go_sem,seval]
 refine Ze h (fun _ h=>?_) fun _ h=>?_<;>try simp only[*,go_sem,seval]
 refine ZMH h fun _ f h=>Zd (ZhK f) ?_
 simp only[*,go_sem,seval]
 refine Ze h (fun _ h=>?_) fun _ h=>?_<;>try simp only[*,go_sem,seval]
 refine ZMH h fun _ g h=>Zd (Zej g) ?_
 iterate 7 (cases h;simp only[*,go_sem,seval])
theorem ZHl {r_0:Zg} {r:Bool} (h:ZF5 r_0=some r):Zk prog J0 94 [(true,ZF r_0)] [(false,[(false,.bool r)])]:=by
 refine fnk func94 rfl ?_
 unfold ZF5 at h
 simp only[fnS,f94,Zm,go_sem,seval]
 refine Zi h (fun i _ st=>IV [(1,.bp 0 0),(6,.p false [.c (.sl 173 5 (A0 ZK r_0.cond))]),(7,.p false [.c (.int .i64 ((r_0.cond.length:Nat):Int))]),(8,.p false [.c (.int .i64 ((i:Nat):Int))])] [.box 42 [.c (.str r_0.name),.c (.int .i64 r_0.priority),.c (.sl 173 5 (A0 ZK r_0.cond)),.c (.sl 50 3 (A0 ZG r_0.thn))]] st) [] [0] (by decide) ?_ ?_ ?_
 simp only[*,go_sem,seval]
 rintro _ _ ⟨⟩ ⟨sl,ob,n⟩ _ a b e h f
 simp only[go_sem,seval,Zc] at b
 obtain ⟨⟨_,g,_,_⟩,_,hn⟩:=b
 subst hn
 have k:=WF.slotL e g (j:=0) rfl
 have:=ZA a
 have:=ZC a
 have:=Zj (ZB a) k
 simp only[*,go_sem,seval]
 refine Ze h (fun _ h=>?_) fun _ h=>?_<;>try simp only[*,go_sem,seval]
 replace h:=Zn h f
 cases h
 simp only[*,go_sem,seval]
 refine ⟨_,[],[0],(A3 h).symm,by decide,?_⟩
 simp only[*,go_sem,seval]
 rintro ⟨⟩ ⟨sl,ob,n⟩ d _ h
 simp only[go_sem,seval,Zc] at d
 obtain ⟨⟨_,_,_,_⟩,_,hn⟩:=d
 subst hn
 have:=Zy (r_0.cond.length)
 simp only[*,go_sem,seval]
 refine ZMH h fun _ l h=>Zd (Zkv l) ?_
 simp only[*,go_sem,seval]
 refine Ze h (fun _ h=>?_) fun _ h=>?_<;>try simp only[*,go_sem,seval]
 refine ZMH h fun _ m h=>Zd (Zm5 m) ?_
 iterate 2 (cases h;simp only[*,go_sem,seval])
theorem ZHW {a:QZ} {b:Int} {r:(List Int)} (h:ZF7 a b=some r):Zk prog J0 116 [(true,ZAT a),(false,[.int .i64 b])] [(false,[(false,.sl 3 1 (A0 ZI r))])]:=by
 refine fnk func116 rfl ?_
 unfold ZF7 at h
 simp only[fnS,f116,Zm,go_sem,seval]
 refine Yo h (fun s st=>match s with | (e,f)=>IV [(1,.p false [.c (.int .i64 b)]),(2,.bp 0 0),(5,.p false [.row 1]),(6,.p false [.c (.int .i64 f)])] [.box 67 [.c (.int .i64 a.beliefs.nodes),.c (.sl 199 3 (A0 ZE a.beliefs.reasons)),.c (.sl 3 1 (A0 ZI a.assumed)),.c (.sl 3 1 (A0 ZI a.bad))],.row 3 1 (A0 ZI e) 2] st) [] [0,32] (by decide) ?_ ?_
 simp only[*,go_sem,seval]
 rintro ⟨e,f⟩ ⟨sl,ob,n⟩ _ g _ h i
 simp only[go_sem,seval,Zc] at g
 obtain ⟨⟨_,_,_,_⟩,_,_,hn⟩:=g
 subst hn
 simp only[*,go_sem,seval]
 refine ZMH h fun _ j h=>Zd (ZGI j) ?_
 simp only[*,go_sem,seval]
 refine Ze h (fun _ h=>?_) fun _ h=>?_<;>try simp only[*,go_sem,seval]
 refine ZMH h fun _ k h=>Zd (ZHj k) ?_
 simp only[*,go_sem,seval]
 refine Ze h (fun _ h=>?_) fun _ h=>?_<;>try simp only[*,go_sem,seval]
 obtain ⟨l,h⟩:=Zq h
 try simp only[Nat.reduceLeDiff] at l
 simp only[*,go_sem,seval]
 refine ⟨_,[],[0,162],(A3 h).symm,by decide,?_⟩
 simp only[*,go_sem,seval]
 refine ⟨_,[],[0,1],(A3 h).symm,by decide,?_⟩
 simp only[*,go_sem,seval]
 refine ZMH h fun _ m h=>Zd (ZHF m) ?_
 replace h:=Zn h i
 cases h
 simp only[*,go_sem,seval]
end
section
set_option linter.unusedSimpArgs false
set_option linter.unusedVariables false
set_option maxRecDepth 1000000
set_option maxHeartbeats 4000000
theorem Zpa {append_0:Zg} {String_1:ByteArray} {a_2:ByteArray} {r:(Zg × Bool)} (h:ZeJ append_0 String_1 a_2=some r):Zk prog J0 255 [(true,[.str append_0.name,.int .i64 append_0.priority,.nl 173 5,.nl 50 3]),(false,[.str String_1]),(false,[.str a_2])] [(true,[(false,.str r.1.name),(false,.int .i64 r.1.priority),(false,.sl 173 5 (A0 ZK r.1.cond)),(false,.sl 50 3 (A0 ZG r.1.thn))]),(false,[(false,.bool r.2)])]:=by
 refine fnk func255 rfl ?_
 unfold ZeJ at h
 have o:Z9 ⟨#[32,38,32]⟩=true:=by decide
 simp only[fnS,f255,Zm,go_sem,seval,o]
 refine ZMH h fun f q h=>Zd (Qd q) ?_
 simp only[*,go_sem,seval]
 refine Zi h (fun i a st=>IV [(2,.p false [.c (.str a_2)]),(3,.bp 0 0),(6,.bp 2 0),(8,.p false [.row 3]),(9,.p false [.c (.int .i64 ((i:Nat):Int))])] [.box 42 [.c (.str append_0.name),.c (.int .i64 append_0.priority),.row 1,.nil 50 3],.row 173 5 (A0 ZK a) 2,.box 42 [.c (.str ⟨#[]⟩),.c (.int .i64 0),.nil 173 5,.nil 50 3],.row 9 1 (A0 Zx f) 2] st) [(true,0,2)] [0,112,16,64] (by decide) ?_ ?_ ?_
 simp only[*,go_sem,seval]
 rintro _ _ a ⟨sl,ob,n⟩ _ b g t h u
 simp only[go_sem,seval,Zc] at g
 obtain ⟨⟨_,_,_,_,_⟩,_,_,_,v,hn⟩:=g
 subst hn
 have w:=WF.rowL t v
 have:=ZA b
 have:=ZC b
 have:=Zj (ZB b) w
 simp only[*,go_sem,seval]
 refine ZMH h fun _ x h=>Zd (ZlU x) ?_
 simp only[*,go_sem,seval]
 refine Ze h (fun _ h=>?_) fun _ h=>?_<;>try simp only[*,go_sem,seval]
 obtain ⟨y,h⟩:=Zq h
 try simp only[Nat.reduceLeDiff] at y
 simp only[*,go_sem,seval]
 refine ⟨_,[],[0,340,2,3],(A3 h).symm,by decide,?_⟩
 simp only[*,go_sem,seval]
 replace h:=Zn h u
 cases h
 simp only[*,go_sem,seval]
 rintro a ⟨sl,ob,n⟩ j _ h
 simp only[go_sem,seval,Zc] at j
 obtain ⟨⟨_,_,_,_,_⟩,_,_,_,_,hn⟩:=j
 subst hn
 have:=Zy (f.length)
 simp only[*,go_sem,seval]
 refine ZMH h fun k z h=>Zd (Qd z) ?_
 simp only[*,go_sem,seval]
 refine Zi h (fun i d st=>IV [(3,.bp 0 0),(6,.bp 3 0),(12,.p false [.row 4]),(13,.p false [.c (.int .i64 ((i:Nat):Int))])] [.box 42 [.c (.str append_0.name),.c (.int .i64 append_0.priority),.row 1,.row 2],.row 173 5 (A0 ZK a) 2,.row 50 3 (A0 ZG d) 2,.box 42 [.c (.str ⟨#[]⟩),.c (.int .i64 0),.nil 173 5,.nil 50 3],.row 9 1 (A0 Zx k) 2] st) [(true,0,3)] [0,1,132,2,84] (by decide) ?_ ?_ ?_
 simp only[*,go_sem,seval]
 rintro _ _ d ⟨sl,ob,n⟩ _ e l A h B
 simp only[go_sem,seval,Zc] at l
 obtain ⟨⟨_,_,_,_⟩,_,_,_,_,C,hn⟩:=l
 subst hn
 have D:=WF.rowL A C
 have:=ZA e
 have:=ZC e
 have:=Zj (ZB e) D
 simp only[*,go_sem,seval]
 refine ZMH h fun _ E h=>Zd (Zng E) ?_
 simp only[*,go_sem,seval]
 refine Ze h (fun _ h=>?_) fun _ h=>?_<;>try simp only[*,go_sem,seval]
 obtain ⟨F,h⟩:=Zq h
 try simp only[Nat.reduceLeDiff] at F
 simp only[*,go_sem,seval]
 refine ⟨_,[],[0,1,341,3,4],(A3 h).symm,by decide,?_⟩
 simp only[*,go_sem,seval]
 replace h:=Zn h B
 cases h
 simp only[*,go_sem,seval]
 rintro d ⟨sl,ob,n⟩ m _ h
 simp only[go_sem,seval,Zc] at m
 obtain ⟨⟨_,_,_,_⟩,_,_,_,_,_,hn⟩:=m
 subst hn
 have:=Zy (k.length)
 simp only[*,go_sem,seval]
 refine ZMH h fun _ G h=>Zd (ZgS G) ?_
 cases h
 simp only[*,go_sem,seval]
theorem ZkJ {rules_0:(List Zg)} {r:Bool} (h:Zbt rules_0=some r):Zk prog J0 82 [(false,[.sl 42 4 (A0 ZF rules_0)])] [(false,[(false,.bool r)])]:=by
 refine fnk func82 rfl ?_
 unfold Zbt at h
 simp only[fnS,f82,Zm,go_sem,seval]
 refine ZMH h fun _ y h=>Zd (Zer y) ?_
 simp only[*,go_sem,seval]
 refine Ze h (fun _ h=>?_) fun _ h=>?_<;>try simp only[*,go_sem,seval]
 refine Zi h (fun i _ st=>IV [(0,.p false [.c (.sl 42 4 (A0 ZF rules_0))]),(13,.p false [.c (.sl 42 4 (A0 ZF rules_0))]),(14,.p false [.c (.int .i64 ((rules_0.length:Nat):Int))]),(15,.p false [.c (.int .i64 ((i:Nat):Int))])] [] st) [] [] (by decide) ?_ ?_ ?_
 simp only[*,go_sem,seval]
 rintro l a ⟨⟩ ⟨sl,ob,n⟩ _ d m z h e
 simp only[go_sem,seval,Zc] at m
 obtain ⟨⟨A,_,_,_⟩,hn⟩:=m
 subst hn
 have B:=WF.slotL z A (j:=0) rfl
 have:=ZA d
 have:=ZC d
 have:=Zj (ZB d) B
 simp only[*,go_sem,seval]
 refine ZMH h fun _ C h=>Zd (Zmf C) ?_
 simp only[*,go_sem,seval]
 refine Ze h (fun _ h=>?_) fun _ h=>?_<;>try simp only[*,go_sem,seval]
 refine Zi h (fun i _ st=>IV [(0,.p false [.c (.sl 42 4 (A0 ZF rules_0))]),(4,.bp 0 0),(13,.p false [.c (.sl 42 4 (A0 ZF rules_0))]),(14,.p false [.c (.int .i64 ((rules_0.length:Nat):Int))]),(15,.p false [.c (.int .i64 ((l:Nat):Int))]),(23,.p false [.c (.sl 173 5 (A0 ZK a.cond))]),(24,.p false [.c (.int .i64 ((a.cond.length:Nat):Int))]),(25,.p false [.c (.int .i64 ((i:Nat):Int))])] [.box 42 [.c (.str a.name),.c (.int .i64 a.priority),.c (.sl 173 5 (A0 ZK a.cond)),.c (.sl 50 3 (A0 ZG a.thn))]] st) [] [48] (by decide) ?_ ?_ ?_
 simp only[*,go_sem,seval]
 rintro D b ⟨⟩ ⟨sl,ob,n⟩ _ f o E h q
 simp only[go_sem,seval,Zc] at o
 obtain ⟨⟨_,_,_,_,_,F,_,_⟩,_,hn⟩:=o
 subst hn
 have G:=WF.slotL E F (j:=0) rfl
 have:=ZA f
 have:=ZC f
 have:=Zj (ZB f) G
 simp only[*,go_sem,seval]
 refine Ze h (fun _ h=>?_) fun _ h=>?_<;>try simp only[*,go_sem,seval]
 refine ⟨_,[],[0],(A3 h).symm,by decide,?_⟩
 simp only[*,go_sem,seval]
 obtain ⟨H,I,h⟩:=Za h
 refine ZA1 (Znl I) ?_
 simp only[*,go_sem,seval]
 refine ZMH h fun g J h=>Zd (ZhN J) ?_
 simp only[*,go_sem,seval]
 refine Zi h (fun i _ st=>IV [(0,.p false [.c (.sl 42 4 (A0 ZF rules_0))]),(4,.bp 0 0),(6,.bp 1 0),(7,.p false [.row 2]),(13,.p false [.c (.sl 42 4 (A0 ZF rules_0))]),(14,.p false [.c (.int .i64 ((rules_0.length:Nat):Int))]),(15,.p false [.c (.int .i64 ((l:Nat):Int))]),(23,.p false [.c (.sl 173 5 (A0 ZK a.cond))]),(24,.p false [.c (.int .i64 ((a.cond.length:Nat):Int))]),(25,.p false [.c (.int .i64 ((D:Nat):Int))]),(38,.p false [.row 3]),(39,.p false [.c (.int .i64 ((g.length:Nat):Int))]),(40,.p false [.c (.int .i64 ((i:Nat):Int))])] [.box 42 [.c (.str a.name),.c (.int .i64 a.priority),.c (.sl 173 5 (A0 ZK a.cond)),.c (.sl 50 3 (A0 ZG a.thn))],.box 173 [.c (.int .i64 b.kind),.c (.str b.pattern.rel),.c (.sl 9 1 (A0 Zx b.pattern.args)),.c (.str b.left),.c (.str b.right)],.map .str .bool (A0 eSB H),.row 9 1 (A0 Zx g) 2] st) [] [0,49,193,241] (by decide) ?_ ?_ ?_
 simp only[*,go_sem,seval]
 rintro _ _ ⟨⟩ ⟨sl,ob,n⟩ _ k t K h u
 simp only[go_sem,seval,Zc] at t
 obtain ⟨⟨_,_,_,_,_,_,_,_,_,_,_,_,_⟩,_,_,_,L,hn⟩:=t
 subst hn
 have M:=WF.rowL K L
 have:=ZA k
 have:=ZC k
 have:=Zj (ZB k) M
 simp only[*,go_sem,seval]
 refine Ze h (fun _ h=>?_) fun _ h=>?_<;>try simp only[*,go_sem,seval]
 replace h:=Zn h u
 replace h:=Zn h q
 replace h:=Zn h e
 cases h
 simp only[*,go_sem,seval]
 refine Ze h (fun _ h=>?_) fun _ h=>?_<;>try simp only[*,go_sem,seval]
 replace h:=Zn h u
 replace h:=Zn h q
 replace h:=Zn h e
 cases h
 simp only[*,go_sem,seval]
 refine ⟨_,[],[0,1,2,3],(A3 h).symm,by decide,?_⟩
 simp only[*,go_sem,seval]
 rintro ⟨⟩ ⟨sl,ob,n⟩ v _ h
 simp only[go_sem,seval,Zc] at v
 obtain ⟨⟨_,_,_,_,_,_,_,_,_,_,_,_,_⟩,_,_,_,_,hn⟩:=v
 subst hn
 have:=Zy (g.length)
 simp only[*,go_sem,seval]
 refine ⟨_,[],[0],(A3 h).symm,by decide,?_⟩
 simp only[*,go_sem,seval]
 rintro ⟨⟩ ⟨sl,ob,n⟩ w _ h
 simp only[go_sem,seval,Zc] at w
 obtain ⟨⟨_,_,_,_,_,_,_,_⟩,_,hn⟩:=w
 subst hn
 have:=Zy (a.cond.length)
 simp only[*,go_sem,seval]
 refine ⟨_,[],[],(A3 h).symm,by decide,?_⟩
 simp only[*,go_sem,seval]
 replace h:=Zn h e
 cases h
 simp only[*,go_sem,seval]
 rintro ⟨⟩ ⟨sl,ob,n⟩ x _ h
 simp only[go_sem,seval,Zc] at x
 obtain ⟨⟨_,_,_,_⟩,hn⟩:=x
 subst hn
 have:=Zy (rules_0.length)
 iterate 2 (cases h;simp only[*,go_sem,seval])
theorem Zet {append_0:(List Zt)} {String_1:(List Zb)} {r:(List Zu)} (h:QU append_0 String_1=some r):Zk prog J0 84 [(false,[.sl 173 5 (A0 ZK append_0)]),(false,[.sl 45 2 (A0 Zl String_1)])] [(false,[(true,.sl 120 2 (A0 YK r))])]:=by
 refine fnk func84 rfl ?_
 unfold QU at h
 simp only[fnS,f84,Zm,go_sem,seval]
 refine Zi h (fun i b st=>IV [(1,.p false [.c (.sl 45 2 (A0 Zl String_1))]),(5,.p false [.row 0]),(17,.p false [.c (.sl 173 5 (A0 ZK append_0))]),(18,.p false [.c (.int .i64 ((append_0.length:Nat):Int))]),(19,.p false [.c (.int .i64 ((i:Nat):Int))])] [.row 120 2 (A0 YK b) 1] st) [(true,32,1)] [32] (by decide) ?_ ?_ ?_
 simp only[*,go_sem,seval]
 rintro l a b ⟨sl,ob,n⟩ _ d m x h _
 simp only[go_sem,seval,Zc] at m
 obtain ⟨⟨_,_,y,_,_⟩,_,hn⟩:=m
 subst hn
 have z:=WF.slotL x y (j:=0) rfl
 have:=ZA d
 have:=ZC d
 have:=Zj (ZB d) z
 simp only[*,go_sem,seval]
 refine Zi h (fun i e st=>IV [(1,.p false [.c (.sl 45 2 (A0 Zl String_1))]),(7,.bp 0 0),(8,.p false [.row 1]),(17,.p false [.c (.sl 173 5 (A0 ZK append_0))]),(18,.p false [.c (.int .i64 ((append_0.length:Nat):Int))]),(19,.p false [.c (.int .i64 ((l:Nat):Int))]),(23,.p false [.row 2]),(24,.p false [.c (.int .i64 ((b.length:Nat):Int))]),(25,.p false [.c (.int .i64 ((i:Nat):Int))])] [.box 173 [.c (.int .i64 a.kind),.c (.str a.pattern.rel),.c (.sl 9 1 (A0 Zx a.pattern.args)),.c (.str a.left),.c (.str a.right)],.row 120 2 (A0 YK e) 1,.row 120 2 (A0 YK b) 1] st) [(false,8,0),(true,145,1)] [49,145,0] (by decide) ?_ ?_ ?_
 simp only[*,go_sem,seval]
 rintro A o e ⟨sl,ob,n⟩ _ f q B h _
 simp only[go_sem,seval,Zc] at q
 obtain ⟨⟨_,_,_,_,_,_,_,_,_⟩,_,_,C,hn⟩:=q
 subst hn
 have D:=WF.rowL B C
 have:=ZA f
 have:=ZC f
 have:=Zj (ZB f) D
 simp only[*,go_sem,seval]
 refine Ze h (fun _ h=>?_) fun _ h=>?_<;>try simp only[*,go_sem,seval]
 refine ZMH h fun _ E h=>Zd (Zll E) ?_
 simp only[*,go_sem,seval]
 refine Ze h (fun _ h=>?_) fun _ h=>?_<;>try simp only[*,go_sem,seval]
 obtain ⟨F,h⟩:=Zq h
 try simp only[Nat.reduceLeDiff] at F
 simp only[*,go_sem,seval]
 refine ⟨_,[],[0,259,2],(A3 h).symm,by decide,?_⟩
 simp only[*,go_sem,seval]
 refine ⟨_,[],[0,1,2],(A3 h).symm,by decide,?_⟩
 simp only[*,go_sem,seval]
 refine Zi h (fun i g st=>IV [(1,.p false [.c (.sl 45 2 (A0 Zl String_1))]),(7,.bp 0 0),(8,.p false [.row 1]),(10,.bp 2 0),(17,.p false [.c (.sl 173 5 (A0 ZK append_0))]),(18,.p false [.c (.int .i64 ((append_0.length:Nat):Int))]),(19,.p false [.c (.int .i64 ((l:Nat):Int))]),(23,.p false [.row 3]),(24,.p false [.c (.int .i64 ((b.length:Nat):Int))]),(25,.p false [.c (.int .i64 ((A:Nat):Int))]),(41,.p false [.c (.sl 45 2 (A0 Zl String_1))]),(42,.p false [.c (.int .i64 ((String_1.length:Nat):Int))]),(43,.p false [.c (.int .i64 ((i:Nat):Int))])] [.box 173 [.c (.int .i64 a.kind),.c (.str a.pattern.rel),.c (.sl 9 1 (A0 Zx a.pattern.args)),.c (.str a.left),.c (.str a.right)],.row 120 2 (A0 YK g) 1,.box 120 [.c (.sl 45 2 (A0 Zl o.facts)),.c (.sl 166 2 (A0 Z4 o.binding))],.row 120 2 (A0 YK b) 1] st) [] [0,1,51,2] (by decide) ?_ ?_ ?_
 simp only[*,go_sem,seval]
 rintro _ _ g ⟨sl,ob,n⟩ _ k t G h _
 simp only[go_sem,seval,Zc] at t
 obtain ⟨⟨H,_,_,_,_,_,_,_,_,_,_,_,_⟩,_,_,_,_,hn⟩:=t
 subst hn
 have I:=WF.slotL G H (j:=0) rfl
 have:=ZA k
 have:=ZC k
 have:=Zj (ZB k) I
 simp only[*,go_sem,seval]
 refine ZMH h fun _ J h=>Zd (ZgE J) ?_
 simp only[*,go_sem,seval]
 refine Ze h (fun _ h=>?_) fun _ h=>?_<;>try simp only[*,go_sem,seval]
 refine ZMH h fun _ K h=>Zd (ZgI K) ?_
 simp only[*,go_sem,seval]
 refine ZMH h fun _ L h=>Zd (YO L) ?_
 obtain ⟨M,h⟩:=Zq h
 try simp only[Nat.reduceLeDiff] at M
 obtain ⟨N,h⟩:=Zq h
 try simp only[Nat.reduceLeDiff] at N
 simp only[*,go_sem,seval]
 refine ⟨_,[],[0,452,2,3],(A3 h).symm,by decide,?_⟩
 simp only[*,go_sem,seval]
 refine ⟨_,[],[0,1,2,3],(A3 h).symm,by decide,?_⟩
 simp only[*,go_sem,seval]
 rintro g ⟨sl,ob,n⟩ u _ h
 simp only[go_sem,seval,Zc] at u
 obtain ⟨⟨_,_,_,_,_,_,_,_,_,_,_,_,_⟩,_,_,_,_,hn⟩:=u
 subst hn
 have:=Zy (String_1.length)
 simp only[*,go_sem,seval]
 refine ⟨_,[],[0,1,3],(A3 h).symm,by decide,?_⟩
 simp only[*,go_sem,seval]
 rintro e ⟨sl,ob,n⟩ v _ h
 simp only[go_sem,seval,Zc] at v
 obtain ⟨⟨_,_,_,_,_,_,_,_,_⟩,_,_,_,hn⟩:=v
 subst hn
 have:=Zy (b.length)
 simp only[*,go_sem,seval]
 refine ⟨_,[],[1],(A3 h).symm,by decide,?_⟩
 simp only[*,go_sem,seval]
 rintro b ⟨sl,ob,n⟩ w _ h
 simp only[go_sem,seval,Zc] at w
 obtain ⟨⟨_,_,_,_,_⟩,_,hn⟩:=w
 subst hn
 have:=Zy (append_0.length)
 cases h
 simp only[*,go_sem,seval]
theorem ZlW {r_0:Zg} {r:Bool} (h:Zcx r_0=some r):Zk prog J0 234 [(true,ZF r_0)] [(false,[(false,.bool r)])]:=by
 refine fnk func234 rfl ?_
 unfold Zcx at h
 simp only[fnS,f234,Zm,go_sem,seval]
 refine ZMH h fun _ k h=>Zd (ZgS k) ?_
 simp only[*,go_sem,seval]
 refine Ze h (fun _ h=>?_) fun _ h=>?_<;>try simp only[*,go_sem,seval]
 refine Zi h (fun i _ st=>IV [(1,.bp 0 0),(3,.p false [.c (.int .i64 ((i:Nat):Int))])] [.box 42 [.c (.str r_0.name),.c (.int .i64 r_0.priority),.c (.sl 173 5 (A0 ZK r_0.cond)),.c (.sl 50 3 (A0 ZG r_0.thn))]] st) [] [0] (by decide) ?_ ?_ ?_
 simp only[*,go_sem,seval]
 rintro _ _ ⟨⟩ ⟨sl,ob,n⟩ _ a d l h m
 simp only[go_sem,seval,Zc] at d
 obtain ⟨⟨_,_⟩,o,hn⟩:=d
 subst hn
 have q:=WF.boxL l o (j:=2) rfl
 have:=ZA a
 have:=ZC a
 have:=Zj (ZB a) q
 simp only[*,go_sem,seval]
 refine Ze h (fun _ h=>?_) fun _ h=>?_<;>try simp only[*,go_sem,seval]
 refine ZMH h fun _ t h=>Zd (Zas t) ?_
 simp only[*,go_sem,seval]
 refine ZMH h fun _ u h=>Zd (Zbq u) ?_
 simp only[*,go_sem,seval]
 refine ZMH h fun _ v h=>Zd (Znk v) ?_
 simp only[*,go_sem,seval]
 refine Ze h (fun _ h=>?_) fun _ h=>?_<;>try simp only[*,go_sem,seval]
 refine ⟨_,[],[0],(A3 h).symm,by decide,?_⟩
 simp only[*,go_sem,seval]
 replace h:=Zn h m
 cases h
 simp only[*,go_sem,seval]
 refine ⟨_,[],[0],(A3 h).symm,by decide,?_⟩
 simp only[*,go_sem,seval]
 rintro ⟨⟩ ⟨sl,ob,n⟩ e _ h
 simp only[go_sem,seval,Zc] at e
 obtain ⟨⟨_,_⟩,_,hn⟩:=e
 subst hn
 have:=Zy (r_0.cond.length)
 simp only[*,go_sem,seval]
 refine Zi h (fun i _ st=>IV [(1,.bp 0 0),(4,.p false [.c (.int .i64 ((i:Nat):Int))])] [.box 42 [.c (.str r_0.name),.c (.int .i64 r_0.priority),.c (.sl 173 5 (A0 ZK r_0.cond)),.c (.sl 50 3 (A0 ZG r_0.thn))]] st) [] [0] (by decide) ?_ ?_ ?_
 simp only[*,go_sem,seval]
 rintro _ _ ⟨⟩ ⟨sl,ob,n⟩ _ b f w h x
 simp only[go_sem,seval,Zc] at f
 obtain ⟨⟨_,_⟩,y,hn⟩:=f
 subst hn
 have z:=WF.boxL w y (j:=3) rfl
 have:=ZA b
 have:=ZC b
 have:=Zj (ZB b) z
 simp only[*,go_sem,seval]
 refine Ze h (fun _ h=>?_) fun _ h=>?_<;>try simp only[*,go_sem,seval]
 replace h:=Zn h x
 cases h
 simp only[*,go_sem,seval]
 refine ⟨_,[],[0],(A3 h).symm,by decide,?_⟩
 simp only[*,go_sem,seval]
 rintro ⟨⟩ ⟨sl,ob,n⟩ g _ h
 simp only[go_sem,seval,Zc] at g
 obtain ⟨⟨_,_⟩,_,hn⟩:=g
 subst hn
 have:=Zy (r_0.thn.length)
 iterate 2 (cases h;simp only[*,go_sem,seval])
theorem Zm3 {l_0:(List Zg)} {r:Bool} (h:ZdU l_0=some r):Zk prog J0 237 [(false,[.sl 42 4 (A0 ZF l_0)])] [(false,[(false,.bool r)])]:=by
 refine fnk func237 rfl ?_
 unfold ZdU at h
 simp only[fnS,f237,Zm,go_sem,seval]
 refine Zi h (fun i _ st=>IV [(0,.p false [.c (.sl 42 4 (A0 ZF l_0))]),(3,.p false [.c (.int .i64 ((i:Nat):Int))])] [] st) [] [] (by decide) ?_ ?_ ?_
 simp only[*,go_sem,seval]
 rintro _ _ ⟨⟩ ⟨sl,ob,n⟩ _ a b f h d
 simp only[go_sem,seval,Zc] at b
 obtain ⟨⟨g,_⟩,hn⟩:=b
 subst hn
 have k:=WF.slotL f g (j:=0) rfl
 have:=ZA a
 have:=ZC a
 have:=Zj (ZB a) k
 simp only[*,go_sem,seval]
 refine ZMH h fun _ l h=>Zd (ZgS l) ?_
 simp only[*,go_sem,seval]
 refine Ze h (fun _ h=>?_) fun _ h=>?_<;>try simp only[*,go_sem,seval]
 refine ZMH h fun _ m h=>Zd (ZhP m) ?_
 simp only[*,go_sem,seval]
 refine Ze h (fun _ h=>?_) fun _ h=>?_<;>try simp only[*,go_sem,seval]
 replace h:=Zn h d
 cases h
 simp only[*,go_sem,seval]
 refine ⟨_,[],[],(A3 h).symm,by decide,?_⟩
 simp only[*,go_sem,seval]
 replace h:=Zn h d
 cases h
 simp only[*,go_sem,seval]
 rintro ⟨⟩ ⟨sl,ob,n⟩ e _ h
 simp only[go_sem,seval,Zc] at e
 obtain ⟨⟨_,_⟩,hn⟩:=e
 subst hn
 have:=Zy (l_0.length)
 cases h
 simp only[*,go_sem,seval]
theorem ZkW {x_0:Zt} {b_1:(List Zs)} {facts_2:(List Zb)} {r:Bool} (h:Zcl x_0 b_1 facts_2=some r):Zk prog J0 278 [(true,ZK x_0),(false,[.sl 166 2 (A0 Z4 b_1)]),(false,[.sl 45 2 (A0 Zl facts_2)])] [(false,[(false,.bool r)])]:=by
 refine fnk func278 rfl ?_
 unfold Zcl at h
 simp only[fnS,f278,Zm,go_sem,seval]
 refine ZMH h fun _ a h=>Zd (Zem a) ?_
 simp only[*,go_sem,seval]
 refine Ze h (fun _ h=>?_) fun _ h=>?_<;>try simp only[*,go_sem,seval]
 refine ZMH h fun _ b h=>Zd (QX b) ?_
 simp only[*,go_sem,seval]
 iterate 2 refine Ze h (fun _ h=>?_) fun _ h=>?_<;>try simp only[*,go_sem,seval]
 refine ZMH h fun _ c h=>Zd (ZdS c) ?_
 cases h
 simp only[*,go_sem,seval]
 refine Ze h (fun _ h=>?_) fun _ h=>?_<;>try simp only[*,go_sem,seval]
 refine ZMH h fun _ d h=>Zd (ZdS d) ?_
 cases h
 simp only[*,go_sem,seval]
 refine ZMH h fun _ e h=>Zd (Zk7 e) ?_
 iterate 3 (cases h;simp only[*,go_sem,seval])
theorem ZHt {r_0:Zg} {r:Bool} (h:ZFV r_0=some r):Zk prog J0 91 [(true,ZF r_0)] [(false,[(false,.bool r)])]:=by
 refine fnk func91 rfl ?_
 unfold ZFV at h
 simp only[fnS,f91,Zm,go_sem,seval]
 refine Zi h (fun i _ st=>IV [(1,.bp 0 0),(3,.p false [.c (.int .i64 ((i:Nat):Int))])] [.box 42 [.c (.str r_0.name),.c (.int .i64 r_0.priority),.c (.sl 173 5 (A0 ZK r_0.cond)),.c (.sl 50 3 (A0 ZG r_0.thn))]] st) [] [0] (by decide) ?_ ?_ ?_
 simp only[*,go_sem,seval]
 rintro _ _ ⟨⟩ ⟨sl,ob,n⟩ _ a d k h l
 simp only[go_sem,seval,Zc] at d
 obtain ⟨⟨_,_⟩,m,hn⟩:=d
 subst hn
 have o:=WF.boxL k m (j:=2) rfl
 have:=ZA a
 have:=ZC a
 have:=Zj (ZB a) o
 simp only[*,go_sem,seval]
 refine Ze h (fun _ h=>?_) fun _ h=>?_<;>try simp only[*,go_sem,seval]
 replace h:=Zn h l
 cases h
 simp only[*,go_sem,seval]
 refine ⟨_,[],[0],(A3 h).symm,by decide,?_⟩
 simp only[*,go_sem,seval]
 rintro ⟨⟩ ⟨sl,ob,n⟩ e _ h
 simp only[go_sem,seval,Zc] at e
 obtain ⟨⟨_,_⟩,_,hn⟩:=e
 subst hn
 have:=Zy (r_0.cond.length)
 simp only[*,go_sem,seval]
 refine Zi h (fun i _ st=>IV [(1,.bp 0 0),(4,.p false [.c (.int .i64 ((i:Nat):Int))])] [.box 42 [.c (.str r_0.name),.c (.int .i64 r_0.priority),.c (.sl 173 5 (A0 ZK r_0.cond)),.c (.sl 50 3 (A0 ZG r_0.thn))]] st) [] [0] (by decide) ?_ ?_ ?_
 simp only[*,go_sem,seval]
 rintro _ _ ⟨⟩ ⟨sl,ob,n⟩ _ b f q h t
 simp only[go_sem,seval,Zc] at f
 obtain ⟨⟨_,_⟩,u,hn⟩:=f
 subst hn
 have v:=WF.boxL q u (j:=3) rfl
 have:=ZA b
 have:=ZC b
 have:=Zj (ZB b) v
 simp only[*,go_sem,seval]
 refine Ze h (fun _ h=>?_) fun _ h=>?_<;>try simp only[*,go_sem,seval]
 replace h:=Zn h t
 cases h
 simp only[*,go_sem,seval]
 refine ⟨_,[],[0],(A3 h).symm,by decide,?_⟩
 simp only[*,go_sem,seval]
 rintro ⟨⟩ ⟨sl,ob,n⟩ g _ h
 simp only[go_sem,seval,Zc] at g
 obtain ⟨⟨_,_⟩,_,hn⟩:=g
 subst hn
 have:=Zy (r_0.thn.length)
 simp only[*,go_sem,seval]
 refine ZMH h fun _ w h=>Zd (ZgS w) ?_
 cases h
 simp only[*,go_sem,seval]
end
section
set_option linter.unusedSimpArgs false
set_option linter.unusedVariables false
set_option maxRecDepth 1000000
set_option maxHeartbeats 4000000
theorem ZgT {s_0:ByteArray} {r:(Zg × Bool)} (h:QD s_0=some r):Zk prog J0 189 [(false,[.str s_0])] [(true,[(false,.str r.1.name),(false,.int .i64 r.1.priority),(false,.sl 173 5 (A0 ZK r.1.cond)),(false,.sl 50 3 (A0 ZG r.1.thn))]),(false,[(false,.bool r.2)])]:=by
 refine fnk func189 rfl ?_
 unfold QD at h
 have a:Z9 ⟨#[32,45,62,32]⟩=true:=by decide
 have b:Z9 ⟨#[32]⟩=true:=by decide
 have c:Z9 ⟨#[58,32]⟩=true:=by decide
 simp only[fnS,f189,Zm,go_sem,seval,a,b,c]
 refine ZMH h fun _ d h=>Zd (Qd d) ?_
 simp only[*,go_sem,seval]
 refine Ze h (fun _ h=>?_) fun _ h=>?_<;>try simp only[*,go_sem,seval]
 cases h
 simp only[*,go_sem,seval]
 obtain ⟨_,h⟩:=Zq h
 obtain ⟨_,e,h⟩:=Za h
 try simp only[seval] at e
 simp only[*,go_sem,seval]
 refine ZMH h fun _ f h=>Zd (Qd f) ?_
 obtain ⟨_,h⟩:=Zq h
 obtain ⟨_,g,h⟩:=Za h
 try simp only[seval] at g
 simp only[*,go_sem,seval]
 refine ZMH h fun _ i h=>Zd (Qd i) ?_
 iterate 2 (simp only[*,go_sem,seval];(refine Ze h (fun _ h=>?_) fun _ h=>?_<;>try simp only[*,go_sem,seval]);cases h)
 simp only[*,go_sem,seval]
 obtain ⟨_,h⟩:=Zq h
 obtain ⟨_,j,h⟩:=Za h
 try simp only[seval] at j
 simp only[*,go_sem,seval]
 refine ZMH h fun _ k h=>Zd (Zb1 k) ?_
 simp only[*,go_sem,seval]
 refine Ze h (fun _ h=>?_) fun _ h=>?_<;>try simp only[*,go_sem,seval]
 obtain ⟨_,h⟩:=Zq h
 obtain ⟨_,l,h⟩:=Za h
 try simp only[seval] at l
 obtain ⟨_,h⟩:=Zq h
 obtain ⟨_,m,h⟩:=Za h
 try simp only[seval] at m
 obtain ⟨_,h⟩:=Zq h
 obtain ⟨_,o,h⟩:=Za h
 try simp only[seval] at o
 simp only[*,go_sem,seval]
 refine ZMH h fun _ p h=>Zd (Zpa p) ?_
 simp only[*,go_sem,seval]
 refine Ze h (fun _ h=>?_) fun _ h=>?_<;>try simp only[*,go_sem,seval]
 iterate 3 (cases h;simp only[*,go_sem,seval])
theorem ZhZ {a:(List Zg)} {String_1:(List Zb)} {r:((List Zb) × Bool)} (h:Yt a String_1=some r):Zk prog J0 28 [(false,[.sl 42 4 (A0 ZF a)]),(false,[.sl 45 2 (A0 Zl String_1)])] [(false,[(false,.sl 45 2 (A0 Zl r.1))]),(false,[(false,.bool r.2)])]:=by
 refine fnn 4 func28 rfl ?_
 unfold Yt at h
 simp only[fnN,f28,Zm,go_sem,seval]
 refine ZMH h fun _ H h=>Zd (ZkJ H) ?_
 simp only[*,go_sem,seval]
 refine Ze h (fun _ h=>?_) fun _ h=>?_<;>try simp only[*,go_sem,seval]
 refine ZMH h fun _ I h=>Zd (Zep I) ?_
 simp only[*,go_sem,seval]
 refine Ze h (fun _ h=>?_) fun _ h=>?_<;>try simp only[*,go_sem,seval]
 refine ZMH h fun _ J h=>Zd (ZgI J) ?_
 simp only[*,go_sem,seval]
 refine Yo h (fun s st=>match s with | (v,w)=>IV [(0,.p false [.c (.sl 42 4 (A0 ZF a))]),(6,.p false [.n (.sl 45 2 (A0 Zl v))]),(7,.p false [.c (.bool w)])] [] st) [(false,6,4096)] [] (by decide) ?_ ?_
 simp only[*,go_sem,seval]
 rintro ⟨v,w⟩ ⟨sl,ob,n⟩ _ x _ h y
 simp only[go_sem,seval,Zc] at x
 obtain ⟨⟨_,_,_⟩,hn⟩:=x
 subst hn
 simp only[*,go_sem,seval]
 refine Ze h (fun _ h=>?_) fun _ h=>?_<;>try simp only[*,go_sem,seval]
 refine Zi h (fun i s st=>match s with | (f,g)=>IV [(0,.p false [.c (.sl 42 4 (A0 ZF a))]),(6,.p false [.n (.sl 45 2 (A0 Zl f))]),(7,.p false [.c (.bool g)]),(27,.p false [.c (.sl 42 4 (A0 ZF a))]),(28,.p false [.c (.int .i64 ((a.length:Nat):Int))]),(29,.p false [.c (.int .i64 ((i:Nat):Int))])] [] st) [] [] (by decide) ?_ ?_ ?_
 simp only[*,go_sem,seval]
 rintro z d ⟨f,g⟩ ⟨sl,ob,n⟩ _ k A K h L
 simp only[go_sem,seval,Zc] at A
 obtain ⟨⟨M,_,_,_,_,_⟩,hn⟩:=A
 subst hn
 have N:=WF.slotL K M (j:=0) rfl
 have:=ZA k
 have:=ZC k
 have:=Zj (ZB k) N
 simp only[*,go_sem,seval]
 obtain ⟨_,O,h⟩:=Za h
 refine ZfP (ZeI O) ?_
 simp only[*,go_sem,seval]
 obtain ⟨e,P,h⟩:=Za h
 refine ZfP (Zet P) ?_
 simp only[*,go_sem,seval]
 refine Zi h (fun i s st=>match s with | (l,m)=>IV [(0,.p false [.c (.sl 42 4 (A0 ZF a))]),(6,.p false [.n (.sl 45 2 (A0 Zl l))]),(7,.p false [.c (.bool m)]),(9,.bp 0 0),(27,.p false [.c (.sl 42 4 (A0 ZF a))]),(28,.p false [.c (.int .i64 ((a.length:Nat):Int))]),(29,.p false [.c (.int .i64 ((z:Nat):Int))]),(36,.p false [.c (.sl 120 2 (A0 YK e))]),(37,.p false [.c (.int .i64 ((e.length:Nat):Int))]),(38,.p false [.c (.int .i64 ((i:Nat):Int))])] [.box 42 [.c (.str d.name),.c (.int .i64 d.priority),.c (.sl 173 5 (A0 ZK d.cond)),.c (.sl 50 3 (A0 ZG d.thn))]] st) [] [48] (by decide) ?_ ?_ ?_
 simp only[*,go_sem,seval]
 rintro Q B ⟨l,m⟩ ⟨sl,ob,n⟩ _ o C R h S
 simp only[go_sem,seval,Zc] at C
 obtain ⟨⟨_,_,_,_,_,_,_,T,_,_⟩,_,hn⟩:=C
 subst hn
 have U:=WF.slotL R T (j:=0) rfl
 have:=ZA o
 have:=ZC o
 have:=Zj (ZB o) U
 simp only[*,go_sem,seval]
 refine Zi h (fun i s st=>match s with | (q,t)=>IV [(0,.p false [.c (.sl 42 4 (A0 ZF a))]),(6,.p false [.n (.sl 45 2 (A0 Zl q))]),(7,.p false [.c (.bool t)]),(9,.bp 0 0),(11,.bp 1 0),(27,.p false [.c (.sl 42 4 (A0 ZF a))]),(28,.p false [.c (.int .i64 ((a.length:Nat):Int))]),(29,.p false [.c (.int .i64 ((z:Nat):Int))]),(36,.p false [.c (.sl 120 2 (A0 YK e))]),(37,.p false [.c (.int .i64 ((e.length:Nat):Int))]),(38,.p false [.c (.int .i64 ((Q:Nat):Int))]),(43,.p false [.c (.sl 50 3 (A0 ZG d.thn))]),(44,.p false [.c (.int .i64 ((d.thn.length:Nat):Int))]),(45,.p false [.c (.int .i64 ((i:Nat):Int))])] [.box 42 [.c (.str d.name),.c (.int .i64 d.priority),.c (.sl 173 5 (A0 ZK d.cond)),.c (.sl 50 3 (A0 ZG d.thn))],.box 120 [.c (.sl 45 2 (A0 Zl B.facts)),.c (.sl 166 2 (A0 Z4 B.binding))]] st) [] [0,49] (by decide) ?_ ?_ ?_
 simp only[*,go_sem,seval]
 rintro _ _ ⟨q,t⟩ ⟨sl,ob,n⟩ _ u D V h W
 simp only[go_sem,seval,Zc] at D
 obtain ⟨⟨_,_,_,_,_,_,_,_,_,_,_,X,_,_⟩,_,_,hn⟩:=D
 subst hn
 have Y:=WF.slotL V X (j:=0) rfl
 have:=ZA u
 have:=ZC u
 have:=Zj (ZB u) Y
 simp only[*,go_sem,seval]
 refine ZMH h fun _ Z h=>Zd (Zce Z) ?_
 simp only[*,go_sem,seval]
 refine ZMH h fun _ aa h=>Zd (Qq aa) ?_
 simp only[*,go_sem,seval]
 refine Ze h (fun _ h=>?_) fun _ h=>?_<;>try simp only[*,go_sem,seval]
 refine ⟨_,[],[0,1],(A3 h).symm,by decide,?_⟩
 simp only[*,go_sem,seval]
 refine Ze h (fun _ h=>?_) fun _ h=>?_<;>try simp only[*,go_sem,seval]
 replace h:=Zn h W
 replace h:=Zn h S
 replace h:=Zn h L
 replace h:=Zn h y
 cases h
 simp only[*,go_sem,seval]
 refine ZMH h fun _ ab h=>Zd (Zo5 ab) ?_
 simp only[*,go_sem,seval]
 refine ⟨_,[(false,6,4096)],[0,1],(A3 h).symm,by decide,?_⟩
 simp only[*,go_sem,seval]
 rintro ⟨q,t⟩ ⟨sl,ob,n⟩ E _ h
 simp only[go_sem,seval,Zc] at E
 obtain ⟨⟨_,_,_,_,_,_,_,_,_,_,_,_,_,_⟩,_,_,hn⟩:=E
 subst hn
 have:=Zy (d.thn.length)
 simp only[*,go_sem,seval]
 refine ⟨_,[],[0],(A3 h).symm,by decide,?_⟩
 simp only[*,go_sem,seval]
 rintro ⟨l,m⟩ ⟨sl,ob,n⟩ F _ h
 simp only[go_sem,seval,Zc] at F
 obtain ⟨⟨_,_,_,_,_,_,_,_,_,_⟩,_,hn⟩:=F
 subst hn
 have:=Zy (e.length)
 simp only[*,go_sem,seval]
 refine ⟨_,[],[],(A3 h).symm,by decide,?_⟩
 simp only[*,go_sem,seval]
 rintro ⟨f,g⟩ ⟨sl,ob,n⟩ G _ h
 simp only[go_sem,seval,Zc] at G
 obtain ⟨⟨_,_,_,_,_,_⟩,hn⟩:=G
 subst hn
 have:=Zy (a.length)
 simp only[*,go_sem,seval]
 refine ⟨_,[],[],(A3 h).symm,by decide,?_⟩
 simp only[*,go_sem,seval]
 replace h:=Zn h y
 iterate 3 (cases h;simp only[*,go_sem,seval])
theorem ZkN {append_0:(List Zg)} {r:Bool} (h:Zbs append_0=some r):Zk prog J0 170 [(false,[.sl 42 4 (A0 ZF append_0)])] [(false,[(false,.bool r)])]:=by
 refine fnk func170 rfl ?_
 unfold Zbs at h
 simp only[fnS,f170,Zm,go_sem,seval]
 refine Zi h (fun i _ st=>IV [(0,.p false [.c (.sl 42 4 (A0 ZF append_0))]),(3,.p false [.c (.int .i64 ((i:Nat):Int))])] [] st) [] [] (by decide) ?_ ?_ ?_
 simp only[*,go_sem,seval]
 rintro l x ⟨⟩ ⟨sl,ob,n⟩ _ b m y h d
 simp only[go_sem,seval,Zc] at m
 obtain ⟨⟨z,_⟩,hn⟩:=m
 subst hn
 have A:=WF.slotL y z (j:=0) rfl
 have:=ZA b
 have:=ZC b
 have:=Zj (ZB b) A
 simp only[*,go_sem,seval]
 refine ZMH h fun _ B h=>Zd (ZlW B) ?_
 simp only[*,go_sem,seval]
 refine Ze h (fun _ h=>?_) fun _ h=>?_<;>try simp only[*,go_sem,seval]
 refine ZMH h fun e C h=>Zd (ZhE C) ?_
 simp only[*,go_sem,seval]
 refine Zi h (fun i _ st=>IV [(0,.p false [.c (.sl 42 4 (A0 ZF append_0))]),(3,.p false [.c (.int .i64 ((l:Nat):Int))]),(4,.p false [.row 0]),(5,.p false [.c (.int .i64 ((i:Nat):Int))])] [.row 9 1 (A0 Zx e) 2] st) [] [224] (by decide) ?_ ?_ ?_
 simp only[*,go_sem,seval]
 rintro D a ⟨⟩ ⟨sl,ob,n⟩ _ f o E h q
 simp only[go_sem,seval,Zc] at o
 obtain ⟨⟨F,_,_,_⟩,_,hn⟩:=o
 subst hn
 have G:=WF.elL (WF.slotD E F (j:=0) rfl) b (j:=2) rfl
 have:=ZA f
 have:=ZC f
 have:=Zj (ZB f) G
 simp only[*,go_sem,seval]
 refine Zi h (fun i _ st=>IV [(0,.p false [.c (.sl 42 4 (A0 ZF append_0))]),(3,.p false [.c (.int .i64 ((l:Nat):Int))]),(4,.p false [.row 0]),(5,.p false [.c (.int .i64 ((D:Nat):Int))]),(6,.bp 1 0),(7,.p false [.c (.int .i64 ((i:Nat):Int))])] [.row 9 1 (A0 Zx e) 2,.box 173 [.c (.int .i64 a.kind),.c (.str a.pattern.rel),.c (.sl 9 1 (A0 Zx a.pattern.args)),.c (.str a.left),.c (.str a.right)]] st) [] [0,257] (by decide) ?_ ?_ ?_
 simp only[*,go_sem,seval]
 rintro _ _ ⟨⟩ ⟨sl,ob,n⟩ _ g t H h k
 simp only[go_sem,seval,Zc] at t
 obtain ⟨⟨_,_,_,_,_,_⟩,I,_,hn⟩:=t
 subst hn
 have J:=WF.rowL H I
 have:=ZA g
 have:=ZC g
 have:=Zj (ZB g) J
 simp only[*,go_sem,seval]
 iterate 2 refine Ze h (fun _ h=>?_) fun _ h=>?_<;>try simp only[*,go_sem,seval]
 replace h:=Zn h k
 replace h:=Zn h q
 replace h:=Zn h d
 cases h
 simp only[*,go_sem,seval]
 refine ZMH h fun _ K h=>Zd (ZkF K) ?_
 simp only[*,go_sem,seval]
 refine Ze h (fun _ h=>?_) fun _ h=>?_<;>try simp only[*,go_sem,seval]
 replace h:=Zn h k
 replace h:=Zn h q
 replace h:=Zn h d
 cases h
 simp only[*,go_sem,seval]
 refine ⟨_,[],[0,1],(A3 h).symm,by decide,?_⟩
 simp only[*,go_sem,seval]
 replace h:=Zn h k
 refine ⟨_,[],[0],(A3 h).symm,by decide,?_⟩
 simp only[*,go_sem,seval]
 rintro ⟨⟩ ⟨sl,ob,n⟩ u _ h
 simp only[go_sem,seval,Zc] at u
 obtain ⟨⟨_,_,_,_,_,_⟩,_,_,hn⟩:=u
 subst hn
 have:=Zy (e.length)
 simp only[*,go_sem,seval]
 refine ⟨_,[],[0],(A3 h).symm,by decide,?_⟩
 simp only[*,go_sem,seval]
 rintro ⟨⟩ ⟨sl,ob,n⟩ v _ h
 simp only[go_sem,seval,Zc] at v
 obtain ⟨⟨_,_,_,_⟩,_,hn⟩:=v
 subst hn
 have:=Zy (x.cond.length)
 simp only[*,go_sem,seval]
 refine ⟨_,[],[],(A3 h).symm,by decide,?_⟩
 simp only[*,go_sem,seval]
 replace h:=Zn h d
 cases h
 simp only[*,go_sem,seval]
 rintro ⟨⟩ ⟨sl,ob,n⟩ w _ h
 simp only[go_sem,seval,Zc] at w
 obtain ⟨⟨_,_⟩,hn⟩:=w
 subst hn
 have:=Zy (append_0.length)
 simp only[*,go_sem,seval]
 refine ZMH h fun _ L h=>Zd (Zm3 L) ?_
 cases h
 simp only[*,go_sem,seval]
theorem Zqk {append_0:(List Zu)} {a:Zt} {a_2:(List Zb)} {r:(List Zu)} (h:Zf9 append_0 a a_2=some r):Zk prog J0 238 [(false,[.sl 120 2 (A0 YK append_0)]),(true,ZK a),(false,[.sl 45 2 (A0 Zl a_2)])] [(false,[(false,.sl 120 2 (A0 YK r))])]:=by
 refine fnk func238 rfl ?_
 unfold Zf9 at h
 simp only[fnS,f238,Zm,go_sem,seval]
 refine Zi h (fun i b st=>IV [(0,.p false [.c (.sl 120 2 (A0 YK append_0))]),(2,.p false [.c (.sl 45 2 (A0 Zl a_2))]),(4,.bp 0 0),(7,.p false [.row 1]),(8,.p false [.c (.int .i64 ((i:Nat):Int))])] [.box 173 [.c (.int .i64 a.kind),.c (.str a.pattern.rel),.c (.sl 9 1 (A0 Zx a.pattern.args)),.c (.str a.left),.c (.str a.right)],.row 120 2 (A0 YK b) 2] st) [] [0,32] (by decide) ?_ ?_ ?_
 simp only[*,go_sem,seval]
 rintro o _ b ⟨sl,ob,n⟩ _ d g q h _
 simp only[go_sem,seval,Zc] at g
 obtain ⟨⟨t,_,_,_,_⟩,_,_,hn⟩:=g
 subst hn
 have u:=WF.slotL q t (j:=0) rfl
 have:=ZA d
 have:=ZC d
 have:=Zj (ZB d) u
 simp only[*,go_sem,seval]
 refine Ze h (fun _ h=>?_) fun _ h=>?_<;>try simp only[*,go_sem,seval]
 refine ZMH h fun _ v h=>Zd (ZkW v) ?_
 simp only[*,go_sem,seval]
 refine Ze h (fun _ h=>?_) fun _ h=>?_<;>try simp only[*,go_sem,seval]
 refine ZMH h fun _ w h=>Zd (ZrC w) ?_
 obtain ⟨x,h⟩:=Zq h
 try simp only[Nat.reduceLeDiff] at x
 simp only[*,go_sem,seval]
 refine ⟨_,[],[0,354],(A3 h).symm,by decide,?_⟩
 simp only[*,go_sem,seval]
 refine ⟨_,[],[0,1],(A3 h).symm,by decide,?_⟩
 simp only[*,go_sem,seval]
 refine Zi h (fun i e st=>IV [(0,.p false [.c (.sl 120 2 (A0 YK append_0))]),(2,.p false [.c (.sl 45 2 (A0 Zl a_2))]),(4,.bp 0 0),(7,.p false [.row 1]),(8,.p false [.c (.int .i64 ((o:Nat):Int))]),(9,.p false [.c (.int .i64 ((i:Nat):Int))])] [.box 173 [.c (.int .i64 a.kind),.c (.str a.pattern.rel),.c (.sl 9 1 (A0 Zx a.pattern.args)),.c (.str a.left),.c (.str a.right)],.row 120 2 (A0 YK e) 2] st) [] [0,1] (by decide) ?_ ?_ ?_
 simp only[*,go_sem,seval]
 rintro _ _ e ⟨sl,ob,n⟩ _ f k y h _
 simp only[go_sem,seval,Zc] at k
 obtain ⟨⟨_,z,_,_,_,_⟩,_,_,hn⟩:=k
 subst hn
 have A:=WF.slotL y z (j:=0) rfl
 have:=ZA f
 have:=ZC f
 have:=Zj (ZB f) A
 simp only[*,go_sem,seval]
 refine ZMH h fun _ B h=>Zd (Zf2 B) ?_
 simp only[*,go_sem,seval]
 refine Ze h (fun _ h=>?_) fun _ h=>?_<;>try simp only[*,go_sem,seval]
 refine ZMH h fun _ C h=>Zd (Zeq C) ?_
 simp only[*,go_sem,seval]
 refine ZMH h fun _ D h=>Zd (Xa D) ?_
 obtain ⟨E,h⟩:=Zq h
 try simp only[Nat.reduceLeDiff] at E
 obtain ⟨F,h⟩:=Zq h
 try simp only[Nat.reduceLeDiff] at F
 simp only[*,go_sem,seval]
 refine ⟨_,[],[0,626],(A3 h).symm,by decide,?_⟩
 simp only[*,go_sem,seval]
 refine ⟨_,[],[0,1],(A3 h).symm,by decide,?_⟩
 simp only[*,go_sem,seval]
 rintro e ⟨sl,ob,n⟩ l _ h
 simp only[go_sem,seval,Zc] at l
 obtain ⟨⟨_,_,_,_,_,_⟩,_,_,hn⟩:=l
 subst hn
 have:=Zy (a_2.length)
 simp only[*,go_sem,seval]
 refine ⟨_,[],[0,1],(A3 h).symm,by decide,?_⟩
 simp only[*,go_sem,seval]
 rintro b ⟨sl,ob,n⟩ m _ h
 simp only[go_sem,seval,Zc] at m
 obtain ⟨⟨_,_,_,_,_⟩,_,_,hn⟩:=m
 subst hn
 have:=Zy (append_0.length)
 cases h
 simp only[*,go_sem,seval]
end
section
set_option linter.unusedSimpArgs false
set_option linter.unusedVariables false
set_option maxRecDepth 1000000
set_option maxHeartbeats 4000000
theorem Zm2 {c_0:ZJ} {nots_1:Bool} {r:(Zg × ZJ)} (h:ZbM c_0 nots_1=some r):Zbx prog J0 JF0 124 (.box 152 (Zbj c_0)) [(false,[.bool nots_1])] [(true,[(false,.str r.1.name),(false,.int .i64 r.1.priority),(false,.sl 173 5 (A0 ZK r.1.cond)),(false,.sl 50 3 (A0 ZG r.1.thn))])] (.box 152 (Zbj r.2)):=by
 refine fnh func124 rfl ?_
 unfold ZbM at h
 have a:Z9 ⟨#[114,32,48,58,32,112,40,63,120,41,32,38,32,111,110,40,63,120,44,63,121,41,32,38,32,63,120,32,33,61,32,63,121,32,45,62,32,97,100,100,32,113,40,63,121,41]⟩=true:=by decide
 have b:Z9 ⟨#[114,32,48,58,32,115,40,63,120,41,32,38,32,110,111,116,32,122,40,41,32,38,32,110,111,116,32,112,40,63,120,41,32,45,62,32,97,100,100,32,98,97,100,40,41]⟩=true:=by decide
 have c:Z9 ⟨#[114,32,49,58,32,111,110,40,63,120,44,63,121,41,32,38,32,111,110,40,63,121,44,63,122,41,32,45,62,32,97,100,100,32,111,110,40,63,120,44,63,122,41]⟩=true:=by decide
 have d:Z9 ⟨#[114,32,49,58,32,113,40,63,120,41,32,38,32,111,110,40,63,120,44,63,121,41,32,38,32,110,111,116,32,113,40,63,121,41,32,45,62,32,97,100,100,32,115,40,63,120,41]⟩=true:=by decide
 have e:Z9 ⟨#[114,32,49,58,32,113,40,63,120,41,32,38,32,112,40,63,120,41,32,45,62,32,97,100,100,32,98,97,100,40,41]⟩=true:=by decide
 have f:Z9 ⟨#[114,32,49,58,32,97,116,40,63,120,44,63,121,41,32,45,62,32,97,100,100,32,111,110,40,63,120,44,63,121,41]⟩=true:=by decide
 have g:Z9 ⟨#[114,32,50,58,32,111,110,40,63,120,44,63,121,41,32,38,32,112,40,63,121,41,32,45,62,32,97,100,100,32,112,40,63,120,41]⟩=true:=by decide
 have i:Z9 ⟨#[114,32,50,58,32,112,40,63,120,41,32,38,32,110,111,116,32,113,40,63,120,41,32,45,62,32,97,100,100,32,115,40,63,120,41]⟩=true:=by decide
 have j:Z9 ⟨#[114,32,51,58,32,112,40,63,120,41,32,38,32,112,40,63,121,41,32,38,32,63,120,32,60,32,63,121,32,45,62,32,97,100,100,32,122,40,41]⟩=true:=by decide
 have k:Z9 ⟨#[114,32,52,58,32,111,110,40,63,120,44,97,41,32,45,62,32,97,100,100,32,113,40,63,120,41,32,38,32,97,100,100,32,112,40,97,41]⟩=true:=by decide
 have l:Z9 ⟨#[114,32,53,58,32,111,110,40,63,120,44,63,121,41,32,38,32,110,111,116,32,112,40,63,121,41,32,45,62,32,97,100,100,32,115,40,63,121,41]⟩=true:=by decide
 simp only[fnH,f124,Zdh,Zdg,Xp,go_sem,seval,a,b,c,d,e,f,g,i,j,k,l]
 refine Ze h (fun _ h=>?_) fun _ h=>?_<;>try simp only[*,go_sem,seval]
 obtain ⟨m,o,h⟩:=Za h
 refine QL (Q7 o) ?_
 obtain ⟨p,h⟩:=Zq h
 try simp only[seval] at p
 obtain ⟨q,t,h⟩:=Za h
 have u:(A0 Zx [(⟨#[114,32,49,58,32,111,110,40,63,120,44,63,121,41,32,38,32,111,110,40,63,121,44,63,122,41,32,45,62,32,97,100,100,32,111,110,40,63,120,44,63,122,41]⟩),(⟨#[114,32,50,58,32,111,110,40,63,120,44,63,121,41,32,38,32,112,40,63,121,41,32,45,62,32,97,100,100,32,112,40,63,120,41]⟩),(⟨#[114,32,48,58,32,112,40,63,120,41,32,38,32,111,110,40,63,120,44,63,121,41,32,38,32,63,120,32,33,61,32,63,121,32,45,62,32,97,100,100,32,113,40,63,121,41]⟩),(⟨#[114,32,51,58,32,112,40,63,120,41,32,38,32,112,40,63,121,41,32,38,32,63,120,32,60,32,63,121,32,45,62,32,97,100,100,32,122,40,41]⟩),(⟨#[114,32,52,58,32,111,110,40,63,120,44,97,41,32,45,62,32,97,100,100,32,113,40,63,120,41,32,38,32,97,100,100,32,112,40,97,41]⟩),(⟨#[114,32,49,58,32,113,40,63,120,41,32,38,32,112,40,63,120,41,32,45,62,32,97,100,100,32,98,97,100,40,41]⟩),(⟨#[114,32,49,58,32,97,116,40,63,120,44,63,121,41,32,45,62,32,97,100,100,32,111,110,40,63,120,44,63,121,41]⟩),(⟨#[114,32,50,58,32,112,40,63,120,41,32,38,32,110,111,116,32,113,40,63,120,41,32,45,62,32,97,100,100,32,115,40,63,120,41]⟩),(⟨#[114,32,53,58,32,111,110,40,63,120,44,63,121,41,32,38,32,110,111,116,32,112,40,63,121,41,32,45,62,32,97,100,100,32,115,40,63,121,41]⟩),(⟨#[114,32,48,58,32,115,40,63,120,41,32,38,32,110,111,116,32,122,40,41,32,38,32,110,111,116,32,112,40,63,120,41,32,45,62,32,97,100,100,32,98,97,100,40,41]⟩),(⟨#[114,32,49,58,32,113,40,63,120,41,32,38,32,111,110,40,63,120,44,63,121,41,32,38,32,110,111,116,32,113,40,63,121,41,32,45,62,32,97,100,100,32,115,40,63,120,41]⟩)])[(Int.toNat m.1)]?=some (Zx q):=by rw [A5,t];rfl
 simp only[A6,A7,ZoT] at u
 simp only[*,go_sem,seval]
 refine ZMH h fun _ v h=>Zd (ZgT v) ?_
 cases h
 simp only[*,go_sem,seval]
 obtain ⟨w,x,h⟩:=Za h
 refine QL (Q7 x) ?_
 obtain ⟨y,h⟩:=Zq h
 try simp only[seval] at y
 obtain ⟨z,A,h⟩:=Za h
 have B:(A0 Zx [(⟨#[114,32,49,58,32,111,110,40,63,120,44,63,121,41,32,38,32,111,110,40,63,121,44,63,122,41,32,45,62,32,97,100,100,32,111,110,40,63,120,44,63,122,41]⟩),(⟨#[114,32,50,58,32,111,110,40,63,120,44,63,121,41,32,38,32,112,40,63,121,41,32,45,62,32,97,100,100,32,112,40,63,120,41]⟩),(⟨#[114,32,48,58,32,112,40,63,120,41,32,38,32,111,110,40,63,120,44,63,121,41,32,38,32,63,120,32,33,61,32,63,121,32,45,62,32,97,100,100,32,113,40,63,121,41]⟩),(⟨#[114,32,51,58,32,112,40,63,120,41,32,38,32,112,40,63,121,41,32,38,32,63,120,32,60,32,63,121,32,45,62,32,97,100,100,32,122,40,41]⟩),(⟨#[114,32,52,58,32,111,110,40,63,120,44,97,41,32,45,62,32,97,100,100,32,113,40,63,120,41,32,38,32,97,100,100,32,112,40,97,41]⟩),(⟨#[114,32,49,58,32,113,40,63,120,41,32,38,32,112,40,63,120,41,32,45,62,32,97,100,100,32,98,97,100,40,41]⟩),(⟨#[114,32,49,58,32,97,116,40,63,120,44,63,121,41,32,45,62,32,97,100,100,32,111,110,40,63,120,44,63,121,41]⟩),(⟨#[114,32,50,58,32,112,40,63,120,41,32,38,32,110,111,116,32,113,40,63,120,41,32,45,62,32,97,100,100,32,115,40,63,120,41]⟩),(⟨#[114,32,53,58,32,111,110,40,63,120,44,63,121,41,32,38,32,110,111,116,32,112,40,63,121,41,32,45,62,32,97,100,100,32,115,40,63,121,41]⟩),(⟨#[114,32,48,58,32,115,40,63,120,41,32,38,32,110,111,116,32,122,40,41,32,38,32,110,111,116,32,112,40,63,120,41,32,45,62,32,97,100,100,32,98,97,100,40,41]⟩),(⟨#[114,32,49,58,32,113,40,63,120,41,32,38,32,111,110,40,63,120,44,63,121,41,32,38,32,110,111,116,32,113,40,63,121,41,32,45,62,32,97,100,100,32,115,40,63,120,41]⟩)])[(Int.toNat w.1)]?=some (Zx z):=by rw [A5,A];rfl
 simp only[A6,A7,ZoT] at B
 simp only[*,go_sem,seval]
 refine ZMH h fun _ C h=>Zd (ZgT C) ?_
 cases h
 simp only[*,go_sem,seval]
theorem ZqY {d:(List Zg)} {g:(List Zb)} {r:((List Zb) × Zr × (List ZaA) × Bool)} (h:Zbh d g=some r):Zk prog J0 128 [(false,[.sl 42 4 (A0 ZF d)]),(false,[.sl 45 2 (A0 Zl g)])] [(false,[(false,.sl 45 2 (A0 Zl r.1))]),(true,[(false,.int .i64 r.2.1.nodes),(false,.sl 199 3 (A0 ZE r.2.1.reasons))]),(false,[(false,.any)]),(false,[(false,.bool r.2.2.2)])]:=by
 refine fnn 4 func128 rfl ?_
 unfold Zbh at h
 simp only[fnN,f128,Zm,go_sem,seval]
 refine ZMH h fun e P h=>Zd (ZhZ P) ?_
 simp only[*,go_sem,seval]
 refine Ze h (fun _ h=>?_) fun _ h=>?_<;>try simp only[*,go_sem,seval]
 refine Zi h (fun i s st=>match s with | (q,t)=>IV [(0,.p false [.c (.sl 42 4 (A0 ZF d))]),(5,.bp 0 0),(8,.p false [.n (.sl 45 2 (A0 Zl e.1))]),(10,.bp 1 0),(11,.p false [.row 3]),(40,.p false [.c (.sl 45 2 (A0 Zl g))]),(41,.p false [.c (.int .i64 ((g.length:Nat):Int))]),(42,.p false [.c (.int .i64 ((i:Nat):Int))])] [.box 64 [.c (.int .i64 0),.nil 199 3],.box 64 [.c (.int .i64 ((e.1.length:Nat):Int)),.row 2],.row 199 3 (A0 ZE q) 2,.row 204 2 (A0 Zhi t) 2] st) [(false,8,4096),(false,11,0),(true,272,1)] [16,272,369,368] (by decide) ?_ ?_ ?_
 simp only[*,go_sem,seval]
 rintro _ _ ⟨q,t⟩ ⟨sl,ob,n⟩ _ u E Q h _
 simp only[go_sem,seval,Zc] at E
 obtain ⟨⟨_,_,_,_,_,R,_,_⟩,_,_,_,_,hn⟩:=E
 subst hn
 have S:=WF.slotL Q R (j:=0) rfl
 have:=ZA u
 have:=ZC u
 have:=Zj (ZB u) S
 simp only[*,go_sem,seval]
 refine ZMH h fun _ T h=>Zd (Qq T) ?_
 obtain ⟨U,h⟩:=Zq h
 try simp only[Nat.reduceLeDiff] at U
 obtain ⟨V,h⟩:=Zq h
 try simp only[Nat.reduceLeDiff] at V
 simp only[*,go_sem,seval]
 refine ⟨_,[],[0,1,196,292],(A3 h).symm,by decide,?_⟩
 simp only[*,go_sem,seval]
 rintro ⟨q,t⟩ ⟨sl,ob,n⟩ F _ h
 simp only[go_sem,seval,Zc] at F
 obtain ⟨⟨_,_,_,_,_,_,_,_⟩,_,_,_,_,hn⟩:=F
 subst hn
 have:=Zy (g.length)
 simp only[*,go_sem,seval]
 refine Zi h (fun i s st=>match s with | (v,w)=>IV [(5,.bp 0 0),(8,.p false [.n (.sl 45 2 (A0 Zl e.1))]),(10,.bp 1 0),(11,.p false [.row 3]),(60,.p false [.c (.sl 42 4 (A0 ZF d))]),(61,.p false [.c (.int .i64 ((d.length:Nat):Int))]),(62,.p false [.c (.int .i64 ((i:Nat):Int))])] [.box 64 [.c (.int .i64 0),.nil 199 3],.box 64 [.c (.int .i64 ((e.1.length:Nat):Int)),.row 2],.row 199 3 (A0 ZE v) 2,.row 204 2 (A0 Zhi w) 1] st) [(true,3,1)] [0,1,2,3] (by decide) ?_ ?_ ?_
 simp only[*,go_sem,seval]
 rintro x b ⟨v,w⟩ ⟨sl,ob,n⟩ _ y G W h _
 simp only[go_sem,seval,Zc] at G
 obtain ⟨⟨_,_,_,_,X,_,_⟩,_,_,_,_,hn⟩:=G
 subst hn
 have Y:=WF.slotL W X (j:=0) rfl
 have:=ZA y
 have:=ZC y
 have:=Zj (ZB y) Y
 simp only[*,go_sem,seval]
 obtain ⟨_,Z,h⟩:=Za h
 refine ZfP (ZeI Z) ?_
 simp only[*,go_sem,seval]
 obtain ⟨f,aa,h⟩:=Za h
 refine ZfP (Zet aa) ?_
 simp only[*,go_sem,seval]
 refine Zi h (fun i s st=>match s with | (k,l)=>IV [(5,.bp 0 0),(8,.p false [.n (.sl 45 2 (A0 Zl e.1))]),(10,.bp 1 0),(11,.p false [.row 3]),(15,.bp 4 0),(60,.p false [.c (.sl 42 4 (A0 ZF d))]),(61,.p false [.c (.int .i64 ((d.length:Nat):Int))]),(62,.p false [.c (.int .i64 ((x:Nat):Int))]),(69,.p false [.c (.sl 120 2 (A0 YK f))]),(70,.p false [.c (.int .i64 ((f.length:Nat):Int))]),(71,.p false [.c (.int .i64 ((i:Nat):Int))])] [.box 64 [.c (.int .i64 0),.nil 199 3],.box 64 [.c (.int .i64 ((e.1.length:Nat):Int)),.row 2],.row 199 3 (A0 ZE k) 2,.row 204 2 (A0 Zhi l) 1,.box 42 [.c (.str b.name),.c (.int .i64 b.priority),.c (.sl 173 5 (A0 ZK b.cond)),.c (.sl 50 3 (A0 ZG b.thn))]] st) [] [0,1,2,3,52] (by decide) ?_ ?_ ?_
 simp only[*,go_sem,seval]
 rintro H m ⟨k,l⟩ ⟨sl,ob,n⟩ _ z I ab h _
 simp only[go_sem,seval,Zc] at I
 obtain ⟨⟨_,_,_,_,_,_,_,_,ac,_,_⟩,_,_,_,_,_,hn⟩:=I
 subst hn
 have ad:=WF.slotL ab ac (j:=0) rfl
 have:=ZA z
 have:=ZC z
 have:=Zj (ZB z) ad
 simp only[*,go_sem,seval]
 refine Zi h (fun i o st=>IV [(5,.bp 0 0),(8,.p false [.n (.sl 45 2 (A0 Zl e.1))]),(10,.bp 1 0),(11,.p false [.row 3]),(15,.bp 4 0),(17,.bp 5 0),(18,.p false [.row 6]),(60,.p false [.c (.sl 42 4 (A0 ZF d))]),(61,.p false [.c (.int .i64 ((d.length:Nat):Int))]),(62,.p false [.c (.int .i64 ((x:Nat):Int))]),(69,.p false [.c (.sl 120 2 (A0 YK f))]),(70,.p false [.c (.int .i64 ((f.length:Nat):Int))]),(71,.p false [.c (.int .i64 ((H:Nat):Int))]),(76,.p false [.c (.sl 173 5 (A0 ZK b.cond))]),(77,.p false [.c (.int .i64 ((b.cond.length:Nat):Int))]),(78,.p false [.c (.int .i64 ((i:Nat):Int))])] [.box 64 [.c (.int .i64 0),.nil 199 3],.box 64 [.c (.int .i64 ((e.1.length:Nat):Int)),.row 2],.row 199 3 (A0 ZE k) 2,.row 204 2 (A0 Zhi l) 1,.box 42 [.c (.str b.name),.c (.int .i64 b.priority),.c (.sl 173 5 (A0 ZK b.cond)),.c (.sl 50 3 (A0 ZG b.thn))],.box 120 [.c (.sl 45 2 (A0 Zl m.facts)),.c (.sl 166 2 (A0 Z4 m.binding))],.row 45 2 (A0 Zl o) 2] st) [(false,18,0)] [0,1,2,3,4,53,165] (by decide) ?_ ?_ ?_
 simp only[*,go_sem,seval]
 rintro _ _ o ⟨sl,ob,n⟩ _ A J ae h _
 simp only[go_sem,seval,Zc] at J
 obtain ⟨⟨_,_,_,_,_,_,_,_,_,_,_,_,_,af,_,_⟩,_,_,_,_,_,_,_,hn⟩:=J
 subst hn
 have ag:=WF.slotL ae af (j:=0) rfl
 have:=ZA A
 have:=ZC A
 have:=Zj (ZB A) ag
 simp only[*,go_sem,seval]
 refine Ze h (fun _ h=>?_) fun _ h=>?_<;>try simp only[*,go_sem,seval]
 refine ZMH h fun _ ah h=>Zd (Zce ah) ?_
 obtain ⟨ai,h⟩:=Zq h
 try simp only[Nat.reduceLeDiff] at ai
 simp only[*,go_sem,seval]
 refine ⟨_,[],[0,1,2,3,4,5,359],(A3 h).symm,by decide,?_⟩
 simp only[*,go_sem,seval]
 refine ⟨_,[],[0,1,2,3,4,5,6],(A3 h).symm,by decide,?_⟩
 simp only[*,go_sem,seval]
 rintro o ⟨sl,ob,n⟩ K _ h
 simp only[go_sem,seval,Zc] at K
 obtain ⟨⟨_,_,_,_,_,_,_,_,_,_,_,_,_,_,_,_⟩,_,_,_,_,_,_,_,hn⟩:=K
 subst hn
 have:=Zy (b.cond.length)
 simp only[*,go_sem,seval]
 refine Zi h (fun i s st=>match s with | (B,C)=>IV [(5,.bp 0 0),(8,.p false [.n (.sl 45 2 (A0 Zl e.1))]),(10,.bp 1 0),(11,.p false [.row 3]),(15,.bp 4 0),(17,.bp 5 0),(18,.p false [.row 6]),(60,.p false [.c (.sl 42 4 (A0 ZF d))]),(61,.p false [.c (.int .i64 ((d.length:Nat):Int))]),(62,.p false [.c (.int .i64 ((x:Nat):Int))]),(69,.p false [.c (.sl 120 2 (A0 YK f))]),(70,.p false [.c (.int .i64 ((f.length:Nat):Int))]),(71,.p false [.c (.int .i64 ((H:Nat):Int))]),(99,.p false [.c (.sl 50 3 (A0 ZG b.thn))]),(100,.p false [.c (.int .i64 ((b.thn.length:Nat):Int))]),(101,.p false [.c (.int .i64 ((i:Nat):Int))])] [.box 64 [.c (.int .i64 0),.nil 199 3],.box 64 [.c (.int .i64 ((e.1.length:Nat):Int)),.row 2],.row 199 3 (A0 ZE B) 2,.row 204 2 (A0 Zhi C) 1,.box 42 [.c (.str b.name),.c (.int .i64 b.priority),.c (.sl 173 5 (A0 ZK b.cond)),.c (.sl 50 3 (A0 ZG b.thn))],.box 120 [.c (.sl 45 2 (A0 Zl m.facts)),.c (.sl 166 2 (A0 Z4 m.binding))],.row 45 2 (A0 Zl o) 2] st) [] [0,1,2,3,4,5,6] (by decide) ?_ ?_ ?_
 simp only[*,go_sem,seval]
 rintro _ _ ⟨B,C⟩ ⟨sl,ob,n⟩ _ D L aj h _
 simp only[go_sem,seval,Zc] at L
 obtain ⟨⟨_,_,_,_,_,_,_,_,_,_,_,_,_,ak,_,_⟩,_,_,_,_,_,_,_,hn⟩:=L
 subst hn
 have al:=WF.slotL aj ak (j:=0) rfl
 have:=ZA D
 have:=ZC D
 have:=Zj (ZB D) al
 simp only[*,go_sem,seval]
 refine ZMH h fun _ am h=>Zd (Zce am) ?_
 simp only[*,go_sem,seval]
 refine ZMH h fun _ an h=>Zd (Qq an) ?_
 simp only[*,go_sem,seval]
 refine ZMH h fun _ ao h=>Zd (ZiX ao) ?_
 simp only[*,go_sem,seval]
 refine ZMH h fun _ ap h=>Zd (ZiX ap) ?_
 simp only[*,go_sem,seval]
 refine ZMH h fun _ aq h=>Zd (Zma aq) ?_
 simp only[*,go_sem,seval]
 refine Ze h (fun _ h=>?_) fun _ h=>?_<;>try simp only[*,go_sem,seval]
 refine ⟨_,[],[0,1,2,3,4,5,6],(A3 h).symm,by decide,?_⟩
 simp only[*,go_sem,seval]
 obtain ⟨ar,h⟩:=Zq h
 try simp only[Nat.reduceLeDiff] at ar
 obtain ⟨au,h⟩:=Zq h
 try simp only[Nat.reduceLeDiff] at au
 simp only[*,go_sem,seval]
 refine ⟨_,[],[0,1,615,775,4,5,6],(A3 h).symm,by decide,?_⟩
 simp only[*,go_sem,seval]
 rintro ⟨B,C⟩ ⟨sl,ob,n⟩ M _ h
 simp only[go_sem,seval,Zc] at M
 obtain ⟨⟨_,_,_,_,_,_,_,_,_,_,_,_,_,_,_,_⟩,_,_,_,_,_,_,_,hn⟩:=M
 subst hn
 have:=Zy (b.thn.length)
 simp only[*,go_sem,seval]
 refine ⟨_,[],[0,1,2,3,4],(A3 h).symm,by decide,?_⟩
 simp only[*,go_sem,seval]
 rintro ⟨k,l⟩ ⟨sl,ob,n⟩ N _ h
 simp only[go_sem,seval,Zc] at N
 obtain ⟨⟨_,_,_,_,_,_,_,_,_,_,_⟩,_,_,_,_,_,hn⟩:=N
 subst hn
 have:=Zy (f.length)
 simp only[*,go_sem,seval]
 refine ⟨_,[],[0,1,2,3],(A3 h).symm,by decide,?_⟩
 simp only[*,go_sem,seval]
 rintro ⟨v,w⟩ ⟨sl,ob,n⟩ O _ h
 simp only[go_sem,seval,Zc] at O
 obtain ⟨⟨_,_,_,_,_,_,_⟩,_,_,_,_,hn⟩:=O
 subst hn
 have:=Zy (d.length)
 simp only[*,go_sem,seval]
 refine Ze h (fun _ h=>?_) fun _ h=>?_<;>try simp only[*,go_sem,seval]
 iterate 3 (cases h;simp only[*,go_sem,seval])
theorem ZhS {l_0:(List Zt)} {facts_1:(List Zb)} {r:(List Zu)} (h:ZaF l_0 facts_1=some r):Zk prog J0 171 [(false,[.sl 173 5 (A0 ZK l_0)]),(false,[.sl 45 2 (A0 Zl facts_1)])] [(false,[(false,.sl 120 2 (A0 YK r))])]:=by
 refine fnk func171 rfl ?_
 unfold ZaF at h
 simp only[fnS,f171,Zm,go_sem,seval]
 refine Zi h (fun i a st=>IV [(0,.p false [.c (.sl 173 5 (A0 ZK l_0))]),(1,.p false [.c (.sl 45 2 (A0 Zl facts_1))]),(5,.p false [.row 0]),(6,.p false [.c (.int .i64 ((i:Nat):Int))])] [.row 120 2 (A0 YK a) 2] st) [] [32] (by decide) ?_ ?_ ?_
 simp only[*,go_sem,seval]
 rintro _ _ a ⟨sl,ob,n⟩ _ b d f h _
 simp only[go_sem,seval,Zc] at d
 obtain ⟨⟨g,_,_,_⟩,_,hn⟩:=d
 subst hn
 have k:=WF.slotL f g (j:=0) rfl
 have:=ZA b
 have:=ZC b
 have:=Zj (ZB b) k
 simp only[*,go_sem,seval]
 refine ZMH h fun _ l h=>Zd (Zqk l) ?_
 simp only[*,go_sem,seval]
 refine ⟨_,[],[161],(A3 h).symm,by decide,?_⟩
 simp only[*,go_sem,seval]
 rintro a ⟨sl,ob,n⟩ e _ h
 simp only[go_sem,seval,Zc] at e
 obtain ⟨⟨_,_,_,_⟩,_,hn⟩:=e
 subst hn
 have:=Zy (l_0.length)
 cases h
 simp only[*,go_sem,seval]
end
section
set_option linter.unusedSimpArgs false
set_option linter.unusedVariables false
set_option maxRecDepth 1000000
set_option maxHeartbeats 4000000
theorem Zm1 {c_0:ZJ} {a:Bool} {r:((List Zg) × ZJ)} (h:Zd3 c_0 a=some r):Zbx prog J0 JF0 59 (.box 152 (Zbj c_0)) [(false,[.bool a])] [(false,[(false,.sl 42 4 (A0 ZF r.1))])] (.box 152 (Zbj r.2)):=by
 refine fnh func59 rfl ?_
 unfold Zd3 at h
 have k:Z9 ⟨#[114]⟩=true:=by decide
 simp only[fnH,f59,Zdh,Zdg,Xp,go_sem,seval,k]
 obtain ⟨_,l,h⟩:=Za h
 refine QL (Q7 l) ?_
 simp only[*,go_sem,seval]
 refine Yo h (fun s st=>match s with | (b,d,e,f,g)=>IV [(0,.bp 0 0),(1,.p false [.c (.bool a)]),(5,.p false [.row 1]),(6,.p false [.c (.int .i64 g)])] [.box 152 [.c (.sl 5 1 (A0 ZeK b)),.c (.int .i64 d),.c (.int .i64 e)],.row 42 4 (A0 ZF f) 2] st) [] [0,17] (by decide) ?_ ?_
 simp only[*,go_sem,seval]
 rintro ⟨b,d,e,f,g⟩ ⟨sl,ob,n⟩ _ j _ h m
 simp only[go_sem,seval,Zc] at j
 obtain ⟨⟨_,_,_,_⟩,_,_,hn⟩:=j
 subst hn
 simp only[*,go_sem,seval]
 refine Ze h (fun _ h=>?_) fun _ h=>?_<;>try simp only[*,go_sem,seval]
 obtain ⟨_,o,h⟩:=Za h
 refine QL (Zm2 o) ?_
 simp only[*,go_sem,seval]
 refine ZMH h fun _ q h=>Zd (ZgG q) ?_
 obtain ⟨t,h⟩:=Zq h
 simp only[go_sem] at t
 obtain ⟨u,h⟩:=Zq h
 try simp only[Nat.reduceLeDiff] at u
 simp only[*,go_sem,seval]
 refine ⟨_,[],[0,242],(A3 h).symm,by decide,?_⟩
 simp only[*,go_sem,seval]
 replace h:=Zn h m
 cases h
 simp only[*,go_sem,seval]
theorem Zig {rules_0:(List Zg)} {base_1:(List Zb)} {r:((List Zb) × Zr × Bool)} (h:Ql rules_0 base_1=some r):Zk prog J0 61 [(false,[.sl 42 4 (A0 ZF rules_0)]),(false,[.sl 45 2 (A0 Zl base_1)])] [(false,[(false,.sl 45 2 (A0 Zl r.1))]),(true,[(false,.int .i64 r.2.1.nodes),(false,.sl 199 3 (A0 ZE r.2.1.reasons))]),(false,[(false,.bool r.2.2)])]:=by
 refine fnk func61 rfl ?_
 unfold Ql at h
 simp only[fnS,f61,Zm,go_sem,seval]
 refine ZMH h fun _ a h=>Zd (ZqY a) ?_
 cases h
 simp only[*,go_sem,seval]
theorem Zit {a:(List Zg)} {String_1:(List Zb)} {r:((List Zb) × Bool)} (h:Yu a String_1=some r):Zk prog J0 109 [(false,[.sl 42 4 (A0 ZF a)]),(false,[.sl 45 2 (A0 Zl String_1)])] [(false,[(false,.sl 45 2 (A0 Zl r.1))]),(false,[(false,.bool r.2)])]:=by
 refine fnn 4 func109 rfl ?_
 unfold Yu at h
 simp only[fnN,f109,Zm,go_sem,seval]
 refine ZMH h fun _ B h=>Zd (ZkN B) ?_
 simp only[*,go_sem,seval]
 refine Ze h (fun _ h=>?_) fun _ h=>?_<;>try simp only[*,go_sem,seval]
 refine ZMH h fun _ C h=>Zd (Znd C) ?_
 simp only[*,go_sem,seval]
 refine Ze h (fun _ h=>?_) fun _ h=>?_<;>try simp only[*,go_sem,seval]
 refine ZMH h fun _ D h=>Zd (Zeq D) ?_
 simp only[*,go_sem,seval]
 refine Yo h (fun s st=>match s with | (b,o)=>IV [(0,.p false [.c (.sl 42 4 (A0 ZF a))]),(6,.p false [.n (.sl 45 2 (A0 Zl b))]),(7,.p false [.c (.bool o)])] [] st) [(false,6,4096)] [] (by decide) ?_ ?_
 simp only[*,go_sem,seval]
 rintro ⟨b,o⟩ ⟨sl,ob,n⟩ _ q _ h t
 simp only[go_sem,seval,Zc] at q
 obtain ⟨⟨_,_,_⟩,hn⟩:=q
 subst hn
 simp only[*,go_sem,seval]
 refine Ze h (fun _ h=>?_) fun _ h=>?_<;>try simp only[*,go_sem,seval]
 refine Zi h (fun i e st=>IV [(0,.p false [.c (.sl 42 4 (A0 ZF a))]),(6,.p false [.n (.sl 45 2 (A0 Zl e))]),(8,.p false [.n (.sl 45 2 (A0 Zl b))]),(9,.p false [.c (.int .i64 ((i:Nat):Int))])] [] st) [] [] (by decide) ?_ ?_ ?_
 simp only[*,go_sem,seval]
 rintro u E e ⟨sl,ob,n⟩ _ d v F h G
 simp only[go_sem,seval,Zc] at v
 obtain ⟨⟨H,_,_,_⟩,hn⟩:=v
 subst hn
 have I:=WF.slotL F H (j:=0) rfl
 have:=ZA d
 have:=ZC d
 have:=Zj (ZB d) I
 simp only[*,go_sem,seval]
 obtain ⟨_,J,h⟩:=Za h
 refine ZfP (ZeY J) ?_
 simp only[*,go_sem,seval]
 refine ZMH h fun f K h=>Zd (ZhS K) ?_
 simp only[*,go_sem,seval]
 refine Zi h (fun i g st=>IV [(0,.p false [.c (.sl 42 4 (A0 ZF a))]),(6,.p false [.n (.sl 45 2 (A0 Zl g))]),(8,.p false [.n (.sl 45 2 (A0 Zl b))]),(9,.p false [.c (.int .i64 ((u:Nat):Int))]),(10,.p false [.row 0]),(11,.p false [.c (.int .i64 ((i:Nat):Int))])] [.row 120 2 (A0 YK f) 2] st) [] [160] (by decide) ?_ ?_ ?_
 simp only[*,go_sem,seval]
 rintro L _ g ⟨sl,ob,n⟩ _ k w M h _
 simp only[go_sem,seval,Zc] at w
 obtain ⟨⟨_,_,_,_,_,_⟩,N,hn⟩:=w
 subst hn
 have O:=WF.rowL M N
 have:=ZA k
 have:=ZC k
 have:=Zj (ZB k) O
 simp only[*,go_sem,seval]
 refine Zi h (fun i l st=>IV [(0,.p false [.c (.sl 42 4 (A0 ZF a))]),(6,.p false [.n (.sl 45 2 (A0 Zl l))]),(8,.p false [.n (.sl 45 2 (A0 Zl b))]),(9,.p false [.c (.int .i64 ((u:Nat):Int))]),(10,.p false [.row 0]),(11,.p false [.c (.int .i64 ((L:Nat):Int))]),(12,.p false [.c (.int .i64 ((i:Nat):Int))])] [.row 120 2 (A0 YK f) 2] st) [] [0] (by decide) ?_ ?_ ?_
 simp only[*,go_sem,seval]
 rintro _ _ l ⟨sl,ob,n⟩ _ m x P h _
 simp only[go_sem,seval,Zc] at x
 obtain ⟨⟨Q,_,_,_,_,_,_⟩,_,hn⟩:=x
 subst hn
 have R:=WF.elL (WF.slotD P Q (j:=0) rfl) d (j:=3) rfl
 have:=ZA m
 have:=ZC m
 have:=Zj (ZB m) R
 simp only[*,go_sem,seval]
 refine ZMH h fun _ S h=>Zd (Zb8 S) ?_
 simp only[*,go_sem,seval]
 refine ZMH h fun _ T h=>Zd (Zdw T) ?_
 simp only[*,go_sem,seval]
 refine ⟨_,[(false,6,4096)],[0],(A3 h).symm,by decide,?_⟩
 simp only[*,go_sem,seval]
 rintro l ⟨sl,ob,n⟩ y _ h
 simp only[go_sem,seval,Zc] at y
 obtain ⟨⟨_,_,_,_,_,_,_⟩,_,hn⟩:=y
 subst hn
 have:=Zy (E.thn.length)
 simp only[*,go_sem,seval]
 refine ⟨_,[],[0],(A3 h).symm,by decide,?_⟩
 simp only[*,go_sem,seval]
 rintro g ⟨sl,ob,n⟩ z _ h
 simp only[go_sem,seval,Zc] at z
 obtain ⟨⟨_,_,_,_,_,_⟩,_,hn⟩:=z
 subst hn
 have:=Zy (f.length)
 simp only[*,go_sem,seval]
 refine Ze h (fun _ h=>?_) fun _ h=>?_<;>try simp only[*,go_sem,seval]
 replace h:=Zn h G
 replace h:=Zn h t
 cases h
 simp only[*,go_sem,seval]
 refine ⟨_,[],[],(A3 h).symm,by decide,?_⟩
 simp only[*,go_sem,seval]
 rintro e ⟨sl,ob,n⟩ A _ h
 simp only[go_sem,seval,Zc] at A
 obtain ⟨⟨_,_,_,_⟩,hn⟩:=A
 subst hn
 have:=Zy (a.length)
 simp only[*,go_sem,seval]
 refine ⟨_,[],[],(A3 h).symm,by decide,?_⟩
 simp only[*,go_sem,seval]
 replace h:=Zn h t
 iterate 3 (cases h;simp only[*,go_sem,seval])
end
section
set_option linter.unusedSimpArgs false
set_option linter.unusedVariables false
set_option maxRecDepth 1000000
set_option maxHeartbeats 4000000
theorem ZiC {rules_0:(List Zg)} {base_1:(List Zb)} {r:((List Zb) × Bool)} (h:ZbK rules_0 base_1=some r):Zk prog J0 13 [(false,[.sl 42 4 (A0 ZF rules_0)]),(false,[.sl 45 2 (A0 Zl base_1)])] [(false,[(false,.sl 45 2 (A0 Zl r.1))]),(false,[(false,.bool r.2)])]:=by
 refine fnk func13 rfl ?_
 unfold ZbK at h
 simp only[fnS,f13,Zm,go_sem,seval]
 refine ZMH h fun _ a h=>Zd (Zig a) ?_
 simp only[*,go_sem,seval]
 refine Ze h (fun _ h=>?_) fun _ h=>?_<;>try simp only[*,go_sem,seval]
 refine ZMH h fun _ b h=>Zd (ZmQ b) ?_
 iterate 2 (cases h;simp only[*,go_sem,seval])
theorem Zlw {d:(List Zg)} {e:(List Zb)} {r:((List Zb) × Zr × (List Xr) × Bool)} (h:Xy d e=some r):Zk prog J0 130 [(false,[.sl 42 4 (A0 ZF d)]),(false,[.sl 45 2 (A0 Zl e)])] [(false,[(false,.sl 45 2 (A0 Zl r.1))]),(true,[(false,.int .i64 r.2.1.nodes),(false,.sl 199 3 (A0 ZE r.2.1.reasons))]),(false,[(false,.any)]),(false,[(false,.bool r.2.2.2)])]:=by
 refine fnk func130 rfl ?_
 unfold Xy at h
 simp only[fnS,f130,Zm,go_sem,seval]
 refine ZMH h fun b I h=>Zd (Zit I) ?_
 simp only[*,go_sem,seval]
 refine Ze h (fun _ h=>?_) fun _ h=>?_<;>try simp only[*,go_sem,seval]
 refine Zi h (fun i s st=>match s with | (g,k)=>IV [(0,.p false [.c (.sl 42 4 (A0 ZF d))]),(1,.p false [.c (.sl 45 2 (A0 Zl e))]),(5,.bp 0 0),(8,.p false [.row 1]),(10,.bp 2 0),(11,.p false [.row 4]),(12,.p false [.c (.int .i64 ((i:Nat):Int))])] [.box 64 [.c (.int .i64 0),.nil 199 3],.row 45 2 (A0 Zl b.1) 2,.box 64 [.c (.int .i64 ((b.1.length:Nat):Int)),.row 3],.row 199 3 (A0 ZE g) 2,.row 208 3 (A0 Ze9 k) 2] st) [(true,240,1)] [16,96,240,352,272] (by decide) ?_ ?_ ?_
 simp only[*,go_sem,seval]
 rintro _ _ ⟨g,k⟩ ⟨sl,ob,n⟩ _ l z J h _
 simp only[go_sem,seval,Zc] at z
 obtain ⟨⟨_,K,_,_,_,_,_⟩,_,_,_,_,_,hn⟩:=z
 subst hn
 have L:=WF.slotL J K (j:=0) rfl
 have:=ZA l
 have:=ZC l
 have:=Zj (ZB l) L
 simp only[*,go_sem,seval]
 refine ZMH h fun _ M h=>Zd (Zb0 M) ?_
 obtain ⟨N,h⟩:=Zq h
 try simp only[Nat.reduceLeDiff] at N
 obtain ⟨O,h⟩:=Zq h
 try simp only[Nat.reduceLeDiff] at O
 simp only[*,go_sem,seval]
 refine ⟨_,[],[0,1,2,229,325],(A3 h).symm,by decide,?_⟩
 simp only[*,go_sem,seval]
 rintro ⟨g,k⟩ ⟨sl,ob,n⟩ A _ h
 simp only[go_sem,seval,Zc] at A
 obtain ⟨⟨_,_,_,_,_,_,_⟩,_,_,_,_,_,hn⟩:=A
 subst hn
 have:=Zy (e.length)
 simp only[*,go_sem,seval]
 refine Zi h (fun i s st=>match s with | (m,o)=>IV [(0,.p false [.c (.sl 42 4 (A0 ZF d))]),(5,.bp 0 0),(8,.p false [.row 1]),(10,.bp 2 0),(11,.p false [.row 4]),(13,.p false [.c (.int .i64 ((i:Nat):Int))])] [.box 64 [.c (.int .i64 0),.nil 199 3],.row 45 2 (A0 Zl b.1) 2,.box 64 [.c (.int .i64 ((b.1.length:Nat):Int)),.row 3],.row 199 3 (A0 ZE m) 2,.row 208 3 (A0 Ze9 o) 1] st) [(true,4,1)] [0,1,2,3,4] (by decide) ?_ ?_ ?_
 simp only[*,go_sem,seval]
 rintro B P ⟨m,o⟩ ⟨sl,ob,n⟩ _ f C Q h R
 simp only[go_sem,seval,Zc] at C
 obtain ⟨⟨S,_,_,_,_,_⟩,_,_,_,_,_,hn⟩:=C
 subst hn
 have T:=WF.slotL Q S (j:=0) rfl
 have:=ZA f
 have:=ZC f
 have:=Zj (ZB f) T
 simp only[*,go_sem,seval]
 obtain ⟨_,U,h⟩:=Za h
 refine ZfP (ZeY U) ?_
 simp only[*,go_sem,seval]
 refine ZMH h fun q V h=>Zd (ZhS V) ?_
 simp only[*,go_sem,seval]
 refine Zi h (fun i s st=>match s with | (t,u)=>IV [(0,.p false [.c (.sl 42 4 (A0 ZF d))]),(5,.bp 0 0),(8,.p false [.row 1]),(10,.bp 2 0),(11,.p false [.row 4]),(13,.p false [.c (.int .i64 ((B:Nat):Int))]),(14,.p false [.row 5]),(15,.p false [.c (.int .i64 ((i:Nat):Int))])] [.box 64 [.c (.int .i64 0),.nil 199 3],.row 45 2 (A0 Zl b.1) 2,.box 64 [.c (.int .i64 ((b.1.length:Nat):Int)),.row 3],.row 199 3 (A0 ZE t) 2,.row 208 3 (A0 Ze9 u) 1,.row 120 2 (A0 YK q) 2] st) [] [0,1,2,3,4,165] (by decide) ?_ ?_ ?_
 simp only[*,go_sem,seval]
 rintro W _ ⟨t,u⟩ ⟨sl,ob,n⟩ _ v D X h Y
 simp only[go_sem,seval,Zc] at D
 obtain ⟨⟨_,_,_,_,_,_,_,_⟩,_,_,_,_,_,Z,hn⟩:=D
 subst hn
 have aa:=WF.rowL X Z
 have:=ZA v
 have:=ZC v
 have:=Zj (ZB v) aa
 simp only[*,go_sem,seval]
 refine Zi h (fun i s st=>match s with | (w,x)=>IV [(0,.p false [.c (.sl 42 4 (A0 ZF d))]),(5,.bp 0 0),(8,.p false [.row 1]),(10,.bp 2 0),(11,.p false [.row 4]),(13,.p false [.c (.int .i64 ((B:Nat):Int))]),(14,.p false [.row 5]),(15,.p false [.c (.int .i64 ((W:Nat):Int))]),(16,.p false [.c (.int .i64 ((i:Nat):Int))])] [.box 64 [.c (.int .i64 0),.nil 199 3],.row 45 2 (A0 Zl b.1) 2,.box 64 [.c (.int .i64 ((b.1.length:Nat):Int)),.row 3],.row 199 3 (A0 ZE w) 2,.row 208 3 (A0 Ze9 x) 1,.row 120 2 (A0 YK q) 2] st) [] [0,1,2,3,4,5] (by decide) ?_ ?_ ?_
 simp only[*,go_sem,seval]
 rintro _ _ ⟨w,x⟩ ⟨sl,ob,n⟩ _ y E ab h ac
 simp only[go_sem,seval,Zc] at E
 obtain ⟨⟨ad,_,_,_,_,_,_,_,_⟩,_,_,_,_,_,_,hn⟩:=E
 subst hn
 have ae:=WF.elL (WF.slotD ab ad (j:=0) rfl) f (j:=3) rfl
 have:=ZA y
 have:=ZC y
 have:=Zj (ZB y) ae
 simp only[*,go_sem,seval]
 refine ZMH h fun _ af h=>Zd (ZkZ af) ?_
 simp only[*,go_sem,seval]
 refine ZMH h fun _ ag h=>Zd (Zo7 ag) ?_
 simp only[*,go_sem,seval]
 refine Ze h (fun _ h=>?_) fun _ h=>?_<;>try simp only[*,go_sem,seval]
 refine ⟨_,[],[0,1,2,3,4,5],(A3 h).symm,by decide,?_⟩
 simp only[*,go_sem,seval]
 refine Ze h (fun _ h=>?_) fun _ h=>?_<;>try simp only[*,go_sem,seval]
 replace h:=Zn h ac
 replace h:=Zn h Y
 replace h:=Zn h R
 cases h
 simp only[*,go_sem,seval]
 obtain ⟨ah,h⟩:=Zq h
 try simp only[Nat.reduceLeDiff] at ah
 obtain ⟨ai,h⟩:=Zq h
 try simp only[Nat.reduceLeDiff] at ai
 simp only[*,go_sem,seval]
 refine ⟨_,[],[0,1,2,550,790,5],(A3 h).symm,by decide,?_⟩
 simp only[*,go_sem,seval]
 rintro ⟨w,x⟩ ⟨sl,ob,n⟩ F _ h
 simp only[go_sem,seval,Zc] at F
 obtain ⟨⟨_,_,_,_,_,_,_,_,_⟩,_,_,_,_,_,_,hn⟩:=F
 subst hn
 have:=Zy (P.thn.length)
 simp only[*,go_sem,seval]
 refine ⟨_,[],[0,1,2,3,4,5],(A3 h).symm,by decide,?_⟩
 simp only[*,go_sem,seval]
 rintro ⟨t,u⟩ ⟨sl,ob,n⟩ G _ h
 simp only[go_sem,seval,Zc] at G
 obtain ⟨⟨_,_,_,_,_,_,_,_⟩,_,_,_,_,_,_,hn⟩:=G
 subst hn
 have:=Zy (q.length)
 simp only[*,go_sem,seval]
 refine ⟨_,[],[0,1,2,3,4],(A3 h).symm,by decide,?_⟩
 simp only[*,go_sem,seval]
 rintro ⟨m,o⟩ ⟨sl,ob,n⟩ H _ h
 simp only[go_sem,seval,Zc] at H
 obtain ⟨⟨_,_,_,_,_,_⟩,_,_,_,_,_,hn⟩:=H
 subst hn
 have:=Zy (d.length)
 iterate 2 (cases h;simp only[*,go_sem,seval])
theorem ZHR {c_0:ZJ} {r:((List Zg) × (List Zb) × ByteArray × ZJ)} (h:ZGz c_0=some r):Zbx prog J0 JF0 108 (.box 152 (Zbj c_0)) [] [(false,[(false,.sl 42 4 (A0 ZF r.1))]),(false,[(false,.sl 45 2 (A0 Zl r.2.1))]),(false,[(false,.str r.2.2.1)])] (.box 152 (Zbj r.2.2.2)):=by
 refine fnh func108 rfl ?_
 unfold ZGz at h
 have a:Z9 ⟨#[113]⟩=true:=by decide
 have b:Z9 ⟨#[122]⟩=true:=by decide
 have c:Z9 ⟨#[98,97,100]⟩=true:=by decide
 have d:Z9 ⟨#[]⟩=true:=by decide
 simp only[fnH,f108,Zdh,Zdg,Xp,go_sem,seval,a,b,c,d]
 obtain ⟨_,e,h⟩:=Za h
 refine QL (ZHf e) ?_
 simp only[*,go_sem,seval]
 obtain ⟨_,f,h⟩:=Za h
 refine QL (Zm1 f) ?_
 simp only[*,go_sem,seval]
 obtain ⟨_,g,h⟩:=Za h
 refine QL (ZoJ g) ?_
 simp only[*,go_sem,seval]
 obtain ⟨_,i,h⟩:=Za h
 refine QL (Zk5 i) ?_
 cases h
 simp only[*,go_sem,seval]
theorem ZIm {append_0:(List Zg)} {String_1:(List Zb)} {a_2:ByteArray} {r:((List Zb) × QZ × Bool)} (h:ZGx append_0 String_1 a_2=some r):Zk prog J0 36 [(false,[.sl 42 4 (A0 ZF append_0)]),(false,[.sl 45 2 (A0 Zl String_1)]),(false,[.str a_2])] [(false,[(false,.sl 45 2 (A0 Zl r.1))]),(true,[(false,.int .i64 r.2.1.beliefs.nodes),(false,.sl 199 3 (A0 ZE r.2.1.beliefs.reasons)),(false,.sl 3 1 (A0 ZI r.2.1.assumed)),(false,.sl 3 1 (A0 ZI r.2.1.bad))]),(false,[(false,.bool r.2.2)])]:=by
 refine ZJu [(10,[2,3,4,5,6,0,1,7,8,9,10,11,12,13],false)] func36 rfl ?_
 unfold ZGx at h
 simp only[fnS,f36,Zm,go_sem,ZFO,seval]
 refine ZMH h fun v1 e1 h=>Zd (by have hh:=Zig e1;first | exact hh | (simp only[go_sem,ZFO, *] at hh;exact hh)) ?_
 simp only[go_sem,ZFO,seval, *]
 refine Ze h (fun c2 h=>?_) (fun c2 h=>?_)<;>try simp only[go_sem,ZFO,seval, *]
 ·refine Ze h (fun c3 h=>?_) (fun c3 h=>?_)<;>try simp only[go_sem,ZFO,seval, *]
  ·obtain rfl:=A3 h
   simp only[go_sem,ZFO,seval, *]
  ·refine Zi h (fun i _ st=>IV [(1,.p false [.c (.sl 45 2 (A0 Zl String_1))]),(2,.p false [.c (.str a_2)]),(7,.bp 0 0),(9,.p false [.row 1]),(10,.bp 2 0),(32,.p false [.c (.sl 42 4 (A0 ZF append_0))]),(33,.p false [.c (.int .i64 ((append_0.length:Nat):Int))]),(34,.p false [.c (.int .i64 ((i:Nat):Int))])] [.box 67 [.c (.int .i64 0),.nil 199 3,.nil 3 1,.nil 3 1],.row 45 2 (A0 Zl v1.1) 2,.box 64 [.c (.int .i64 v1.2.1.nodes),.row 3],.row 199 3 (A0 ZE v1.2.1.reasons) 2] st) [] [16,80,160,81] (by decide) ?_ ?_ ?_
   ·simp only[go_sem,ZFO,seval, *]
   ·rintro i15 x16 ⟨⟩ ⟨sl,ob,n⟩ y4 hx5 hI6 hW7 h hy4
    simp only[go_sem,ZFO,seval,Zc] at hI6
    obtain ⟨⟨g8_1,g8_2,g8_7,g8_9,g8_10,g8_32,g8_33,g8_34⟩,og8_0,og8_1,og8_2,og8_3,hn⟩:=hI6
    subst hn
    have hlhx5:=WF.slotL hW7 g8_32 (j:=0) rfl
    have q9:=ZA hx5
    have q10:=ZC hx5
    have q11:=Zj (ZB hx5) hlhx5
    simp only[go_sem,ZFO,seval, *]
    refine ZMH h fun v17 e12 h=>Zd (by have hh:=ZHl e12;first | exact hh | (simp only[go_sem,ZFO, *] at hh;exact hh)) ?_
    simp only[go_sem,ZFO,seval, *]
    refine Ze h (fun c13 h=>?_) (fun c13 h=>?_)<;>try simp only[go_sem,ZFO,seval, *]
    ·refine ⟨_,[],[0,1,2,3],(A3 h).symm,by decide,?_⟩
     simp only[go_sem,ZFO,seval, *]
    ·replace h:=Zn h hy4
     obtain rfl:=A3 h
     simp only[go_sem,ZFO,seval, *]
   ·rintro ⟨⟩ ⟨sl,ob,n⟩ hI14 hW15 h
    simp only[go_sem,ZFO,seval,Zc] at hI14
    obtain ⟨⟨g16_1,g16_2,g16_7,g16_9,g16_10,g16_32,g16_33,g16_34⟩,og16_0,og16_1,og16_2,og16_3,hn⟩:=hI14
    subst hn
    have q17:=Zy (append_0.length)
    obtain ⟨p18,h⟩:=Zq h
    simp only[go_sem,ZFO,seval, *]
    refine ZMH h fun v18 e19 h=>Zd (by have hh:=ZiX e19;first | exact hh | (simp only[go_sem,ZFO, *] at hh;exact hh)) ?_
    simp only[go_sem,ZFO,seval, *]
    refine Zi h (fun i row_21 st=>IV [(2,.p false [.c (.str a_2)]),(7,.bp 0 0),(9,.p false [.row 1]),(14,.bp 2 0),(55,.p false [.row 1]),(56,.p false [.c (.int .i64 ((v1.1.length:Nat):Int))]),(57,.p false [.c (.int .i64 ((i:Nat):Int))])] [.box 67 [.c (.int .i64 0),.nil 199 3,.nil 3 1,.nil 3 1],.row 45 2 (A0 Zl v1.1) 2,.box 67 [.c (.int .i64 v1.2.1.nodes),.row 3,.row 4,.row 5],.row 199 3 (A0 ZE (List.drop String_1.length v1.2.1.reasons)) 2,.row 3 1 (A0 ZI v18) 2,.row 3 1 (A0 ZI row_21) 2] st) [(true,212,3)] [0,1,212,116,180,292] (by decide) ?_ ?_ ?_
    ·simp only[go_sem,ZFO,seval, *]
    ·rintro i24 x25 row_21 ⟨sl,ob,n⟩ y20 hx21 hI22 hW23 h hy20
     simp only[go_sem,ZFO,seval,Zc] at hI22
     obtain ⟨⟨g24_2,g24_7,g24_9,g24_14,g24_55,g24_56,g24_57⟩,og24_0,og24_1,og24_2,og24_3,og24_4,og24_5,hn⟩:=hI22
     subst hn
     have hlhx21:=WF.rowL hW23 og24_1
     have q25:=ZA hx21
     have q26:=ZC hx21
     have q27:=Zj (ZB hx21) hlhx21
     simp only[go_sem,ZFO,seval, *]
     refine Ze h (fun c28 h=>?_) (fun c28 h=>?_)<;>try simp only[go_sem,ZFO,seval, *]
     ·obtain ⟨p29,h⟩:=Zq h
      try simp only[Nat.reduceLeDiff] at p29
      simp only[go_sem,ZFO,seval, *]
      refine ⟨_,[],[0,1,2,3,4,246],(A3 h).symm,by decide,?_⟩
      simp only[go_sem,ZFO,seval, *]
     ·refine ⟨_,[],[0,1,2,3,4,5],(A3 h).symm,by decide,?_⟩
      simp only[go_sem,ZFO,seval, *]
    ·rintro row_21 ⟨sl,ob,n⟩ hI30 hW31 h
     simp only[go_sem,ZFO,seval,Zc] at hI30
     obtain ⟨⟨g32_2,g32_7,g32_9,g32_14,g32_55,g32_56,g32_57⟩,og32_0,og32_1,og32_2,og32_3,og32_4,og32_5,hn⟩:=hI30
     subst hn
     have q33:=Zy (v1.1.length)
     obtain rfl:=A3 h
     simp only[go_sem,ZFO,seval, *]
 ·obtain rfl:=A3 h
  simp only[go_sem,ZFO,seval, *]
end
section
set_option linter.unusedSimpArgs false
set_option linter.unusedVariables false
set_option maxRecDepth 1000000
set_option maxHeartbeats 4000000
theorem Zir {rules_0:(List Zg)} {base_1:(List Zb)} {r:((List Zb) × Zr × Bool)} (h:Qi rules_0 base_1=some r):Zk prog J0 63 [(false,[.sl 42 4 (A0 ZF rules_0)]),(false,[.sl 45 2 (A0 Zl base_1)])] [(false,[(false,.sl 45 2 (A0 Zl r.1))]),(true,[(false,.int .i64 r.2.1.nodes),(false,.sl 199 3 (A0 ZE r.2.1.reasons))]),(false,[(false,.bool r.2.2)])]:=by
 refine fnk func63 rfl ?_
 unfold Qi at h
 simp only[fnS,f63,Zm,go_sem,seval]
 refine ZMH h fun _ a h=>Zd (Zlw a) ?_
 simp only[*,go_sem,seval]
 refine Ze h (fun _ h=>?_) fun _ h=>?_<;>try simp only[*,go_sem,seval]
 iterate 2 (cases h;simp only[*,go_sem,seval])
theorem ZHa {code_0:(List Int)} {r:((List Zg) × (List Zb) × ByteArray × Zb)} (h:ZFW code_0=some r):Zk prog J0 45 [(false,[.sl 5 1 (A0 ZeK code_0)])] [(false,[(false,.sl 42 4 (A0 ZF r.1))]),(false,[(false,.sl 45 2 (A0 Zl r.2.1))]),(false,[(false,.str r.2.2.1)]),(true,[(false,.str r.2.2.2.rel),(true,.sl 9 1 (A0 Zx r.2.2.2.args))])]:=by
 refine fnk func45 rfl ?_
 unfold ZFW at h
 have a:Z9 ⟨#[]⟩=true:=by decide
 simp only[fnS,f45,Zm,go_sem,seval,a]
 obtain ⟨_,b,h⟩:=Za h
 refine ZCT (Zsi b) ?_
 simp only[*,go_sem,seval]
 obtain ⟨_,c,h⟩:=Za h
 refine QL (ZHR c) ?_
 simp only[*,go_sem,seval]
 refine ZMH h fun _ d h=>Zd (Zit d) ?_
 simp only[*,go_sem,seval]
 refine Ze h (fun _ h=>?_) fun _ h=>?_<;>try simp only[*,go_sem,seval]
 obtain ⟨_,e,h⟩:=Za h
 refine QL (ZHf e) ?_
 simp only[*,go_sem,seval]
 refine Ze h (fun _ h=>?_) fun _ h=>?_<;>try simp only[*,go_sem,seval]
 obtain ⟨_,f,h⟩:=Za h
 refine QL (ZHx f) ?_
 cases h
 simp only[*,go_sem,seval]
 obtain ⟨_,g,h⟩:=Za h
 refine QL (Q7 g) ?_
 obtain ⟨_,h⟩:=Zq h
 obtain ⟨_,_,h⟩:=Za h
 cases h
 simp only[*,go_sem,seval]
 obtain ⟨_,i,h⟩:=Za h
 refine QL (ZHx i) ?_
 cases h
 simp only[*,go_sem,seval]
theorem ZIg {rules_0:(List Zg)} {base_1:(List Zb)} {bad_2:ByteArray} {f_3:Zb} {r:((List (List Zb)) × Bool)} (h:ZGt rules_0 base_1 bad_2 f_3=some r):Zk prog J0 46 [(false,[.sl 42 4 (A0 ZF rules_0)]),(false,[.sl 45 2 (A0 Zl base_1)]),(false,[.str bad_2]),(true,Zl f_3)] [(false,[(false,.sl 25 1 (A0 Zse r.1))]),(false,[(false,.bool r.2)])]:=by
 refine fnk func46 rfl ?_
 unfold ZGt at h
 simp only[fnS,f46,Zm,go_sem,seval]
 refine ZMH h fun a q h=>Zd (ZIm q) ?_
 simp only[*,go_sem,seval]
 refine Ze h (fun _ h=>?_) fun _ h=>?_<;>try simp only[*,go_sem,seval]
 refine ZMH h fun _ t h=>Zd (Qq t) ?_
 simp only[*,go_sem,seval]
 refine ZMH h fun b u h=>Zd (ZHS u) ?_
 simp only[*,go_sem,seval]
 refine Zi h (fun i d st=>IV [(10,.p false [.row 0]),(11,.bp 1 0),(13,.p false [.row 5]),(33,.p false [.row 6]),(34,.p false [.c (.int .i64 ((b.length:Nat):Int))]),(35,.p false [.c (.int .i64 ((i:Nat):Int))])] [.row 45 2 (A0 Zl a.1) 2,.box 67 [.c (.int .i64 a.2.1.beliefs.nodes),.row 2,.row 3,.row 4],.row 199 3 (A0 ZE a.2.1.beliefs.reasons) 2,.row 3 1 (A0 ZI a.2.1.assumed) 2,.row 3 1 (A0 ZI a.2.1.bad) 2,.row 25 1 (A0 Zse d) 2,.row 3 1 (A0 ZI b) 2] st) [(false,13,0)] [96,176,97,98,99,400,352] (by decide) ?_ ?_ ?_
 simp only[*,go_sem,seval]
 rintro v _ d ⟨sl,ob,n⟩ _ e k w h _
 simp only[go_sem,seval,Zc] at k
 obtain ⟨⟨_,_,_,_,_,_⟩,_,_,_,_,_,_,x,hn⟩:=k
 subst hn
 have y:=WF.rowL w x
 have:=ZA e
 have:=ZC e
 have:=Zj (ZB e) y
 simp only[*,go_sem,seval]
 refine ZMH h fun f z h=>Zd (ZHc z) ?_
 simp only[*,go_sem,seval]
 refine Zi h (fun i g st=>IV [(10,.p false [.row 0]),(11,.bp 1 0),(13,.p false [.row 5]),(16,.p false [.row 6]),(33,.p false [.row 7]),(34,.p false [.c (.int .i64 ((b.length:Nat):Int))]),(35,.p false [.c (.int .i64 ((v:Nat):Int))]),(42,.p false [.row 8]),(43,.p false [.c (.int .i64 ((f.length:Nat):Int))]),(44,.p false [.c (.int .i64 ((i:Nat):Int))])] [.row 45 2 (A0 Zl a.1) 2,.box 67 [.c (.int .i64 a.2.1.beliefs.nodes),.row 2,.row 3,.row 4],.row 199 3 (A0 ZE a.2.1.beliefs.reasons) 2,.row 3 1 (A0 ZI a.2.1.assumed) 2,.row 3 1 (A0 ZI a.2.1.bad) 2,.row 25 1 (A0 Zse d) 2,.row 45 2 (A0 Zl g) 2,.row 3 1 (A0 ZI b) 2,.row 3 1 (A0 ZI f) 2] st) [(false,16,0)] [0,1,2,3,4,5,183,6,135] (by decide) ?_ ?_ ?_
 simp only[*,go_sem,seval]
 rintro _ _ g ⟨sl,ob,n⟩ _ j l A h _
 simp only[go_sem,seval,Zc] at l
 obtain ⟨⟨_,_,_,_,_,_,_,_,_,_⟩,_,_,_,_,_,_,_,_,B,hn⟩:=l
 subst hn
 have C:=WF.rowL A B
 have:=ZA j
 have:=ZC j
 have:=Zj (ZB j) C
 obtain ⟨_,h⟩:=Zq h
 obtain ⟨_,_,h⟩:=Za h
 simp only[*,go_sem,seval]
 refine ZMH h fun _ D h=>Zd (YO D) ?_
 obtain ⟨E,h⟩:=Zq h
 try simp only[Nat.reduceLeDiff] at E
 simp only[*,go_sem,seval]
 refine ⟨_,[],[0,1,2,3,4,5,185,7,8],(A3 h).symm,by decide,?_⟩
 simp only[*,go_sem,seval]
 rintro g ⟨sl,ob,n⟩ m _ h
 simp only[go_sem,seval,Zc] at m
 obtain ⟨⟨_,_,_,_,_,_,_,_,_,_⟩,_,_,_,_,_,_,_,_,_,hn⟩:=m
 subst hn
 have:=Zy (f.length)
 obtain ⟨F,h⟩:=Zq h
 try simp only[Nat.reduceLeDiff] at F
 simp only[*,go_sem,seval]
 refine ⟨_,[],[0,1,2,3,4,73,7],(A3 h).symm,by decide,?_⟩
 simp only[*,go_sem,seval]
 rintro d ⟨sl,ob,n⟩ o _ h
 simp only[go_sem,seval,Zc] at o
 obtain ⟨⟨_,_,_,_,_,_⟩,_,_,_,_,_,_,_,hn⟩:=o
 subst hn
 have:=Zy (b.length)
 iterate 2 (cases h;simp only[*,go_sem,seval])
end
section
set_option linter.unusedSimpArgs false
set_option linter.unusedVariables false
set_option maxRecDepth 1000000
set_option maxHeartbeats 4000000
theorem ZIb {rules_0:(List Zg)} {base_1:(List Zb)} {bad_2:ByteArray} {r:((List Zb) × QZ × Bool)} (h:ZGr rules_0 base_1 bad_2=some r):Zk prog J0 33 [(false,[.sl 42 4 (A0 ZF rules_0)]),(false,[.sl 45 2 (A0 Zl base_1)]),(false,[.str bad_2])] [(false,[(false,.sl 45 2 (A0 Zl r.1))]),(true,[(false,.int .i64 r.2.1.beliefs.nodes),(false,.sl 199 3 (A0 ZE r.2.1.beliefs.reasons)),(false,.sl 3 1 (A0 ZI r.2.1.assumed)),(false,.sl 3 1 (A0 ZI r.2.1.bad))]),(false,[(false,.bool r.2.2)])]:=by
 refine ZJu [(8,[2,3,4,5,6,0,1,7,8,9,10,11,12,13,14,15,16,17,18],false)] func33 rfl ?_
 unfold ZGr at h
 simp only[fnS,f33,Zm,go_sem,ZFO,seval]
 refine ZMH h fun v1 e1 h=>Zd (by have hh:=Zir e1;first | exact hh | (simp only[go_sem,ZFO, *] at hh;exact hh)) ?_
 simp only[go_sem,ZFO,seval, *]
 refine Zi h (fun i ok_4 st=>IV [(0,.p false [.c (.sl 42 4 (A0 ZF rules_0))]),(1,.p false [.c (.sl 45 2 (A0 Zl base_1))]),(2,.p false [.c (.str bad_2)]),(7,.bp 0 0),(9,.p false [.row 1]),(10,.bp 2 0),(11,.p false [.c (.bool ok_4)]),(12,.p false [.c (.int .i64 ((i:Nat):Int))])] [.box 67 [.c (.int .i64 0),.nil 199 3,.nil 3 1,.nil 3 1],.row 45 2 (A0 Zl v1.1) 2,.box 64 [.c (.int .i64 v1.2.1.nodes),.row 3],.row 199 3 (A0 ZE v1.2.1.reasons) 2] st) [] [16,80,160,81] (by decide) ?_ ?_ ?_
 ·simp only[go_sem,ZFO,seval, *]
 ·rintro i11 x12 ok_4 ⟨sl,ob,n⟩ y2 hx3 hI4 hW5 h hy2
  simp only[go_sem,ZFO,seval,Zc] at hI4
  obtain ⟨⟨g6_0,g6_1,g6_2,g6_7,g6_9,g6_10,g6_11,g6_12⟩,og6_0,og6_1,og6_2,og6_3,hn⟩:=hI4
  subst hn
  have hlhx3:=WF.slotL hW5 g6_0 (j:=0) rfl
  have q7:=ZA hx3
  have q8:=ZC hx3
  have q9:=Zj (ZB hx3) hlhx3
  simp only[go_sem,ZFO,seval, *]
  refine Ze h (fun c10 h=>?_) (fun c10 h=>?_)<;>try simp only[go_sem,ZFO,seval, *]
  ·refine ZMH h fun v13 e11 h=>Zd (by have hh:=ZHt e11;first | exact hh | (simp only[go_sem,ZFO, *] at hh;exact hh)) ?_
   simp only[go_sem,ZFO,seval, *]
   refine ⟨_,[],[0,1,2,3],(A3 h).symm,by decide,?_⟩
   simp only[go_sem,ZFO,seval, *]
  ·refine ⟨_,[],[0,1,2,3],(A3 h).symm,by decide,?_⟩
   simp only[go_sem,ZFO,seval, *]
 ·rintro ok_4 ⟨sl,ob,n⟩ hI12 hW13 h
  simp only[go_sem,ZFO,seval,Zc] at hI12
  obtain ⟨⟨g14_0,g14_1,g14_2,g14_7,g14_9,g14_10,g14_11,g14_12⟩,og14_0,og14_1,og14_2,og14_3,hn⟩:=hI12
  subst hn
  have q15:=Zy (rules_0.length)
  simp only[go_sem,ZFO,seval, *]
  refine Ze h (fun c16 h=>?_) (fun c16 h=>?_)<;>try simp only[go_sem,ZFO,seval, *]
  ·refine Ze h (fun c17 h=>?_) (fun c17 h=>?_)<;>try simp only[go_sem,ZFO,seval, *]
   ·obtain rfl:=A3 h
    simp only[go_sem,ZFO,seval, *]
   ·obtain ⟨p18,h⟩:=Zq h
    simp only[go_sem,ZFO,seval, *]
    refine ZMH h fun v14 e19 h=>Zd (by have hh:=ZhF e19;first | exact hh | (simp only[go_sem,ZFO, *] at hh;exact hh)) ?_
    simp only[go_sem,ZFO,seval, *]
    refine ZMH h fun v15 e20 h=>Zd (by have hh:=ZGJ e20;first | exact hh | (simp only[go_sem,ZFO, *] at hh;exact hh)) ?_
    simp only[go_sem,ZFO,seval, *]
    refine ZMH h fun v16 e21 h=>Zd (by have hh:=ZhF e21;first | exact hh | (simp only[go_sem,ZFO, *] at hh;exact hh)) ?_
    obtain rfl:=A3 h
    simp only[go_sem,ZFO,seval, *]
  ·obtain rfl:=A3 h
   simp only[go_sem,ZFO,seval, *]
end
section
set_option linter.unusedSimpArgs false
set_option linter.unusedVariables false
set_option maxRecDepth 1000000
set_option maxHeartbeats 4000000
theorem ZIa {rules_0:(List Zg)} {base_1:(List Zb)} {bad_2:ByteArray} {f_3:Zb} {r:((List (List Zb)) × Bool)} (h:ZGy rules_0 base_1 bad_2 f_3=some r):Zk prog J0 47 [(false,[.sl 42 4 (A0 ZF rules_0)]),(false,[.sl 45 2 (A0 Zl base_1)]),(false,[.str bad_2]),(true,Zl f_3)] [(false,[(false,.sl 25 1 (A0 Zse r.1))]),(false,[(false,.bool r.2)])]:=by
 refine fnk func47 rfl ?_
 unfold ZGy at h
 simp only[fnS,f47,Zm,go_sem,seval]
 refine ZMH h fun a j h=>Zd (ZIb j) ?_
 simp only[*,go_sem,seval]
 refine Ze h (fun _ h=>?_) fun _ h=>?_<;>try simp only[*,go_sem,seval]
 refine ZMH h fun _ k h=>Zd (Zb0 k) ?_
 simp only[*,go_sem,seval]
 refine ZMH h fun e l h=>Zd (ZHW l) ?_
 simp only[*,go_sem,seval]
 refine Zi h (fun i b st=>IV [(10,.p false [.row 0]),(11,.bp 1 0),(13,.p false [.row 5]),(15,.p false [.row 6]),(16,.p false [.c (.int .i64 ((i:Nat):Int))])] [.row 45 2 (A0 Zl a.1) 2,.box 67 [.c (.int .i64 a.2.1.beliefs.nodes),.row 2,.row 3,.row 4],.row 199 3 (A0 ZE a.2.1.beliefs.reasons) 2,.row 3 1 (A0 ZI a.2.1.assumed) 2,.row 3 1 (A0 ZI a.2.1.bad) 2,.row 25 1 (A0 Zse b) 2,.row 3 1 (A0 ZI e) 2] st) [] [96,176,97,98,99,240,400] (by decide) ?_ ?_ ?_
 simp only[*,go_sem,seval]
 rintro _ _ b ⟨sl,ob,n⟩ _ d f m h _
 simp only[go_sem,seval,Zc] at f
 obtain ⟨⟨_,_,_,_,_⟩,_,_,_,_,_,_,o,hn⟩:=f
 subst hn
 have q:=WF.rowL m o
 have:=ZA d
 have:=ZC d
 have:=Zj (ZB d) q
 simp only[*,go_sem,seval]
 refine ZMH h fun _ t h=>Zd (ZHQ t) ?_
 obtain ⟨u,h⟩:=Zq h
 try simp only[Nat.reduceLeDiff] at u
 simp only[*,go_sem,seval]
 refine ⟨_,[],[0,1,2,3,4,215,6],(A3 h).symm,by decide,?_⟩
 simp only[*,go_sem,seval]
 rintro b ⟨sl,ob,n⟩ g _ h
 simp only[go_sem,seval,Zc] at g
 obtain ⟨⟨_,_,_,_,_⟩,_,_,_,_,_,_,_,hn⟩:=g
 subst hn
 have:=Zy (e.length)
 iterate 2 (cases h;simp only[*,go_sem,seval])
end
section
set_option linter.unusedSimpArgs false
set_option linter.unusedVariables false
set_option maxRecDepth 1000000
set_option maxHeartbeats 4000000
theorem ZHJ {append_0:(List Int)} {r:Bool} (h:ZGj append_0=some r):Zk prog J0 8 [(false,[.sl 5 1 (A0 ZeK append_0)])] [(false,[(false,.bool r)])]:=by
 refine fnk func8 rfl ?_
 unfold ZGj at h
 simp only[fnS,f8,Zm,go_sem,seval]
 refine ZMH h fun _ j h=>Zd (ZvY j) ?_
 simp only[*,go_sem,seval]
 refine Ze h (fun _ h=>?_) fun _ h=>?_<;>try simp only[*,go_sem,seval]
 cases h
 simp only[*,go_sem,seval]
 obtain ⟨d,k,h⟩:=Za h
 refine ZfP (ZHa k) ?_
 simp only[*,go_sem,seval]
 refine ZMH h fun e l h=>Zd (ZIg l) ?_
 simp only[*,go_sem,seval]
 refine ZMH h fun _ m h=>Zd (ZIa m) ?_
 simp only[*,go_sem,seval]
 iterate 2 refine Ze h (fun _ h=>?_) fun _ h=>?_<;>try simp only[*,go_sem,seval]
 refine ZMH h fun _ o h=>Zd (ZFM o) ?_
 simp only[*,go_sem,seval]
 obtain ⟨q,t,h⟩:=Za h
 refine ZfP (ZFE t) ?_
 simp only[*,go_sem,seval]
 refine ZMH h fun u v h=>Zd (ZiC v) ?_
 simp only[*,go_sem,seval]
 refine Ze h (fun _ h=>?_) fun _ h=>?_<;>try simp only[*,go_sem,seval]
 refine ZMH h fun _ w h=>Zd (ZGJ w) ?_
 simp only[*,go_sem,seval]
 refine Ze h (fun _ h=>?_) fun _ h=>?_<;>try simp only[*,go_sem,seval]
 cases h
 simp only[*,go_sem,seval]
 refine Zi h (fun i a st=>IV [(6,.bp 0 0),(7,.p false [.row 1]),(11,.p false [.c (.sl 45 2 (A0 Zl q))]),(12,.p false [.row 2]),(14,.p false [.c (.bool a)]),(15,.p false [.c (.int .i64 ((i:Nat):Int))])] [.box 45 [.c (.str d.2.2.2.rel),.c (.sl 9 1 (A0 Zx d.2.2.2.args))],.row 25 1 (A0 Zse e.1) 2,.row 45 2 (A0 Zl u.1) 2] st) [] [160,304,752] (by decide) ?_ ?_ ?_
 simp only[*,go_sem,seval]
 rintro _ _ a ⟨sl,ob,n⟩ _ b f x h _
 simp only[go_sem,seval,Zc] at f
 obtain ⟨⟨_,_,_,_,_,_⟩,_,y,_,hn⟩:=f
 subst hn
 have z:=WF.rowL x y
 have:=ZA b
 have:=ZC b
 have:=Zj (ZB b) z
 simp only[*,go_sem,seval]
 refine Ze h (fun _ h=>?_) fun _ h=>?_<;>try simp only[*,go_sem,seval]
 refine ⟨_,[],[0,1,2],(A3 h).symm,by decide,?_⟩
 simp only[*,go_sem,seval]
 refine ZMH h fun _ A h=>Zd (Zru A) ?_
 simp only[*,go_sem,seval]
 refine ⟨_,[],[0,1,2],(A3 h).symm,by decide,?_⟩
 simp only[*,go_sem,seval]
 rintro a ⟨sl,ob,n⟩ g _ h
 simp only[go_sem,seval,Zc] at g
 obtain ⟨⟨_,_,_,_,_,_⟩,_,_,_,hn⟩:=g
 subst hn
 have:=Zy (e.1.length)
 simp only[*,go_sem,seval]
 refine ZMH h fun _ B h=>Zd (Zid B) ?_
 iterate 4 (cases h;simp only[*,go_sem,seval])
end
section
open Go.RowKit
structure Enc {α:Type} (c:ZbC α) (f:α→List CT):Prop where
 to:∀{w:World} {cs:List Value} {x:α} {L:List Nat},c.rep w cs x L→RCs w (f x) cs L
 of:∀{w:World} {cs:List Value} {x:α} {L:List Nat},RCs w (f x) cs L→c.rep w cs x L
section
variable {α:Type} {c:ZbC α} {f:α→List CT} {w:World}
theorem Enc.reps (h:Enc c f):∀{ds:List α} {xs:List Value} {L:List Nat},c.reps w xs ds L→REs w c.size (ds.map f) xs L
 | [],_,_,h1=>h1
 | _::_,_,_,⟨c1,c2,L1,L2,h1,h2,h3,h4⟩=>⟨c1,c2,L1,L2,h1,h2,⟨h.to h3,c.len h3⟩,h.reps h4⟩
theorem Enc.reps_of (h:Enc c f):∀{ds:List α} {xs:List Value} {L:List Nat},REs w c.size (ds.map f) xs L→c.reps w xs ds L
 | [],_,_,h1=>h1
 | _::_,_,_,⟨c1,c2,L1,L2,h1,h2,h3,h4⟩=>⟨c1,c2,L1,L2,h1,h2,h.of h3.1,h.reps_of h4⟩
theorem Enc.sl (h:Enc c f) (e:Nat) {v:Value} {ds:List α} {L:List Nat}:(ZlE c).rep w [v] ds L↔RC w (.sl e c.size (ds.map f)) v L:=by
 constructor
 ·rintro ⟨A,cap,hv,h1,h2,xs,L0,L1,hL,h3,h4⟩
  obtain rfl:v=_:=by simpa using hv
  exact ⟨A,cap,xs,L0,L1,by simp,by simpa using h1,h2,hL,c.pos,by simpa using h3,h.reps h4⟩
 ·rintro ⟨A,cap,xs,L0,L1,hv,h1,h2,hL,h0,h3,h4⟩
  exact ⟨A,cap,by simpa using hv,by simpa using h1,h2,xs,L0,L1,hL,by simpa using h3,h.reps_of h4⟩
theorem RCs.solo {x:CT} {v:Value} {L:List Nat} (h:RC w x v L):RCs w [x] [v] L:=⟨v,[],L,[],rfl,by simp,h,rfl,rfl⟩
end
theorem Zxy:Enc Zvd ZeK where
 to:=fun ⟨h1,h2⟩=>by subst h1;subst h2;exact RCs.solo ⟨rfl,rfl⟩
 of:=fun ⟨v,cs',L1,L2,h1,h2,h3,h4,h5⟩=>by
  obtain ⟨rfl,rfl⟩:=h3
  subst h4;subst h5;exact ⟨h1,h2⟩
theorem encStr:Enc ZEr Zx where
 to:=fun ⟨h1,h2,h3⟩=>by subst h1;subst h2;exact RCs.solo ⟨rfl,rfl,h3⟩
 of:=fun ⟨v,cs',L1,L2,h1,h2,h3,h4,h5⟩=>by
  obtain ⟨rfl,rfl,t⟩:=h3
  subst h4;subst h5;exact ⟨h1,h2,t⟩
def Zz7 (w:World):Bool × List CT→Value→Prop:=ZkB w fun _=>False
theorem ZCc {α:Type} {c:ZbC α} {f:α→List CT} (h:Enc c f) (e:Nat) {w:World} {v:Value} {ds:List α} {L:List Nat} (hr:(ZlE c).rep w [v] ds L):Zz7 w (false,[.sl e c.size (ds.map f)]) v:=.inr ⟨rfl,_,L,rfl,(h.sl e).1 hr,fun _ _ h=>h⟩
section
variable {w w':World} {v:Value} {e:Ending}
theorem Zxc {B:Nat} {n:Nat→Prop} {x:RT} (h:ZjD w B n [x] v):∃F,OP w B n x v F∧Own w B F:=by
 obtain ⟨vs,F,⟨u,vs',F1,F2,rfl,rfl,h1,rfl,rfl⟩,h2,rfl⟩:=h
 rw [List.append_nil] at h2
 exact ⟨F1,by simpa using h1,h2⟩
theorem Zvp {b:Bool} {B:Nat} {m:Nat→Prop} (hr:ZjD w B m [(false,[(false,.bool b)])] v):v=.bool b:=by
 obtain ⟨F,h1,h2⟩:=Zxc hr
 rcases h1 with ⟨h1,_⟩ | ⟨_,ct,h1,h3⟩
 ·simp at h1
 ·obtain rfl:_=ct:=by simpa using h1
  exact h3.1.1
end
section
variable {P:Program} {J:World→Prop} {f:FuncId} {args:List (Bool × List CT)} {res:List RT}
theorem Zk.calls (h:Zk P J f args res) {w:World} {vs:List Value} (hj:J w) (ha:ZL (Zz7 w) args vs):Calls P f vs.toArray w fun e w'=>∃v n,e=.returned v∧ZjD w' w.heap.size n res v∧Below w.heap.size w w':=
 (h.2 w (fun _=>False) vs hj (fun _ h=>h.elim) ha).mono fun _ _ ⟨v,n,h1,h2,_,h3⟩=>⟨v,n,h1,h2,h3⟩
theorem Zk.givesB {b:Bool} (h:Zk P J f args [(false,[(false,.bool b)])]) {w:World} {vs:List Value} (hj:J w) (ha:ZL (Zz7 w) args vs):Calls P f vs.toArray w fun e w'=>e=.returned (.bool b)∧Below w.heap.size w w':=
 (h.calls hj ha).mono fun _ _ ⟨v,_,h1,h2,h3⟩=>⟨by rw [h1,Zvp h2],h3⟩
end
end
section
open Go.RowKit Go.Deep
def ZvE {α:Type} (P:Program) (t:TypeId) (c:ZbC α) (wf:α→Prop):Prop:=
 ∀{H:Type} {enc:TypeId × Value→H} {w:World} {base:Nat} {spare:Nat→Bool} {held:Bool} {fuel:Nat} {cs:List Value} {x:DataW H × List MemPlace},
  DataW.trod enc P w base spare held fuel t cs=some x→∃d L,c.rep w cs d L∧wf d
theorem ZrU {P:Program} {t:TypeId} (ht:P.underlying t=some (.int .u8)):ZvE P t Zvd (fun n=>0≤n∧n≤255):=by
 intro H enc w base spare held fuel cs x h
 obtain ⟨n,rfl,_,hw⟩:=DataW.trod_int ht h
 refine ⟨n,[],⟨rfl,rfl⟩,?_⟩
 simp [Lit.wf,IntKind.min,IntKind.max,IntKind.signed,IntKind.bits] at hw
 exact ⟨by omega,by omega⟩
theorem ZrJ {α:Type} {c:ZbC α} {wf:α→Prop} {P:Program} {t e:TypeId} (ht:P.underlying t=some (.slice e)) (hc:P.cellsOf e=c.size) (ho:ZvE P e c wf):ZvE P t (ZlE c) (fun ds=>∀d∈ds,wf d):=by
 intro H enc w base spare held fuel cs x h
 rcases open_slice ht h with ⟨rfl,_⟩ | ⟨a,len,cap,m,n,D,Pl,rfl,hb,hl,hm,hmm,_,hx⟩
 ·exact ⟨[],[],⟨none,0,rfl,Nat.le_refl _,Nat.zero_le _,Sli.nil _ _⟩,by simp⟩
 ·have hlm:len≤m:=by rw [hmm];split<;>omega
  have key:∀q,q≤len→∃(xs:List Value) (ds:List α) (L:List Nat),ds.length=q∧(∀j u,xs[j]?=some u→w.cell? (a.add j)=some u)∧c.reps w xs ds L∧∀d∈ds,wf d:=by
   intro q
   induction q with
   | zero=>exact fun _=>⟨[],[],[],rfl,by simp,⟨rfl,rfl⟩,by simp⟩
   | succ q ih=>
    intro hq
    obtain ⟨xs,ds,L,hd,hcell,hr,hwf⟩:=ih (by omega)
    obtain ⟨cs',h1,h2⟩:=hx q (by omega)
    obtain ⟨d,Lq,hrep,hwd⟩:=ho h2
    obtain ⟨_,hlen,hat⟩:=World.cells?_some h1
    refine ⟨xs++cs',ds++[d],L++Lq,by simp [hd],fun j u hu=>?_,ZgC hr (Zj5 hrep),?_⟩
    ·have hxl:xs.length=q * c.size:=by rw [ZgQ hr,hd]
     rw [List.getElem?_append] at hu
     split at hu
     ·exact hcell j u hu
     ·rename_i hj
      have hj2:=(List.getElem?_eq_some_iff.1 hu).1
      have:=hat (j - xs.length) (by omega)
      rw [←hu,←this,Go.Deep.add_add,hc,←hxl]
      congr 2
      omega
    ·intro y hy
     rcases List.mem_append.1 hy with hy | hy
     ·exact hwf y hy
     ·simp at hy;subst hy;exact hwd
  obtain ⟨xs,ds,L,hd,hcell,hr,hwf⟩:=key len (Nat.le_refl _)
  have hxl:=ZgQ hr
  rcases Nat.eq_zero_or_pos len with h0 | h0
  ·have:ds=[]:=List.eq_nil_of_length_eq_zero (by omega)
   subst this
   refine ⟨[],[],⟨some a,cap,by simp at hd;rw [←hd];rfl,by simp,hm,Sli.nil _ _⟩,by simp⟩
  ·obtain ⟨b,off,sp⟩:=a
   have hp:0<xs.length:=by rw [hxl,hd];exact Nat.mul_pos h0 c.pos
   have hsp:sp=none:=by
    have h1:=hcell 0 _ (List.getElem?_eq_getElem hp)
    have e:(⟨b,off,sp⟩:Addr).add 0=⟨b,off,sp⟩:=by simp [Addr.add]
    rw [e] at h1
    cases sp with
    | none=>rfl
    | some q=>
     simp only[World.cell?] at h1
     split at h1<;>simp at h1
   subst hsp
   refine ⟨ds,[b]++L,⟨some ⟨b,off,none⟩,cap,by rw [hd],by omega,hm,xs,[b],L,rfl,⟨by rw [hxl],.inr ⟨by omega,b,off,rfl,rfl,fun j u hu=>?_⟩⟩,hr⟩,hwf⟩
   have:=hcell j u hu
   rwa [Zdn] at this
end
section
open Go.RowKit
theorem ZHI (w:World) (hJ:J0 w) (A:Option Addr) (c:Nat) (code:List Int) (L:List Nat) (h:(ZlE Zvd).rep w [.slice A code.length c] code L):
  Calls prog 8 #[.slice A code.length c] w (fun e w'=>e=.returned (.bool true)∧Below w.heap.size w w'):=
 Zk.givesB (ZHJ (ZHn code)) hJ (vs:=[_]) ⟨ZCc Zxy _ h,trivial⟩
end
end Go.Proofs.YtfehfkfdfmcgfaaGreatDoor
