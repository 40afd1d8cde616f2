/- Texts of this proof, joined: Dp16, Dp17, Dp18, Dp19, Dp20, Dp21, Dp22, BStd, Open, LawFnRelevant. What each holds is said at its theorems. -/
import Derived.Test.YtfehfkfdfmcgfaaGreatDoorRelevantQ6
import Derived.Test.YtfehfkfdfmcgfaaGreatDoorRelevantQ7
import Derived.Test.YtfehfkfdfmcgfaaGreatDoorRelevantQ5
import Derived.Test.YtfehfkfdfmcgfaaGreatDoorRelevantQ1
import Derived.Deep.Slices
import Derived.ChangeArms
import Derived.ProofKit
import Derived.Test.YtfehfkfdfmcgfaaGreatDoorRelevantQ4
set_option linter.unusedSimpArgs false
set_option linter.unusedVariables false
open Int renaming toNat→A2
open List renaming map→A0,getElem?_map→A3,map_cons→A4,map_nil→A5
open Option.some renaming inj→A1
open Go.Proofs.Tryz
namespace Go.Proofs.YtfehfkfdfmcgfaaGreatDoor
section
set_option linter.unusedSimpArgs false
set_option linter.unusedVariables false
set_option maxRecDepth 1000000
set_option maxHeartbeats 4000000
theorem ZgT {s_0:ByteArray} {r:(Zg × Bool)} (h:QD s_0=some r):Zk prog J0 189 [(false,[.str s_0])] [(true,[(false,.str r.1.name),(false,.int .i64 r.1.priority),(false,.sl 173 5 (A0 ZK r.1.cond)),(false,.sl 50 3 (A0 ZG r.1.thn))]),(false,[(false,.bool r.2)])]:=by
 refine fnk func189 rfl ?_
 unfold QD at h
 have a:Z9 ⟨#[32,45,62,32]⟩=true:=by decide
 have b:Z9 ⟨#[32]⟩=true:=by decide
 have c:Z9 ⟨#[58,32]⟩=true:=by decide
 simp only[fnS,f189,Zm,go_sem,seval,a,b,c]
 refine ZMH h fun _ d h=>Zd (Qd d) ?_
 simp only[*,go_sem,seval]
 refine Ze h (fun _ h=>?_) fun _ h=>?_<;>try simp only[*,go_sem,seval]
 cases h
 simp only[*,go_sem,seval]
 obtain ⟨_,h⟩:=Zq h
 obtain ⟨_,e,h⟩:=Za h
 try simp only[seval] at e
 simp only[*,go_sem,seval]
 refine ZMH h fun _ f h=>Zd (Qd f) ?_
 obtain ⟨_,h⟩:=Zq h
 obtain ⟨_,g,h⟩:=Za h
 try simp only[seval] at g
 simp only[*,go_sem,seval]
 refine ZMH h fun _ i h=>Zd (Qd i) ?_
 iterate 2 (simp only[*,go_sem,seval];refine Ze h (fun _ h=>?_) fun _ h=>?_<;>try simp only[*,go_sem,seval];cases h)
 simp only[*,go_sem,seval]
 obtain ⟨_,h⟩:=Zq h
 obtain ⟨_,j,h⟩:=Za h
 try simp only[seval] at j
 simp only[*,go_sem,seval]
 refine ZMH h fun _ k h=>Zd (Zb1 k) ?_
 simp only[*,go_sem,seval]
 refine Ze h (fun _ h=>?_) fun _ h=>?_<;>try simp only[*,go_sem,seval]
 obtain ⟨_,h⟩:=Zq h
 obtain ⟨_,l,h⟩:=Za h
 try simp only[seval] at l
 obtain ⟨_,h⟩:=Zq h
 obtain ⟨_,m,h⟩:=Za h
 try simp only[seval] at m
 obtain ⟨_,h⟩:=Zq h
 obtain ⟨_,o,h⟩:=Za h
 try simp only[seval] at o
 simp only[*,go_sem,seval]
 refine ZMH h fun _ p h=>Zd (Zpa p) ?_
 simp only[*,go_sem,seval]
 refine Ze h (fun _ h=>?_) fun _ h=>?_<;>try simp only[*,go_sem,seval]
 iterate 3 (cases h;simp only[*,go_sem,seval])
theorem ZhZ {a:(List Zg)} {String_1:(List Zb)} {r:((List Zb) × Bool)} (h:Yt a String_1=some r):Zk prog J0 28 [(false,[.sl 42 4 (A0 ZF a)]),(false,[.sl 45 2 (A0 Zl String_1)])] [(false,[(false,.sl 45 2 (A0 Zl r.1))]),(false,[(false,.bool r.2)])]:=by
 refine fnn 4 func28 rfl ?_
 unfold Yt at h
 simp only[fnN,f28,Zm,go_sem,seval]
 refine ZMH h fun _ H h=>Zd (ZkJ H) ?_
 simp only[*,go_sem,seval]
 refine Ze h (fun _ h=>?_) fun _ h=>?_<;>try simp only[*,go_sem,seval]
 refine ZMH h fun _ I h=>Zd (Zep I) ?_
 simp only[*,go_sem,seval]
 refine Ze h (fun _ h=>?_) fun _ h=>?_<;>try simp only[*,go_sem,seval]
 refine ZMH h fun _ J h=>Zd (ZgI J) ?_
 simp only[*,go_sem,seval]
 refine Yo h (fun s st=>match s with | (v,w)=>IV [(0,.p false [.c (.sl 42 4 (A0 ZF a))]),(6,.p false [.n (.sl 45 2 (A0 Zl v))]),(7,.p false [.c (.bool w)])] [] st) [(false,6,4096)] [] (by decide) ?_ ?_
 simp only[*,go_sem,seval]
 rintro ⟨v,w⟩ ⟨sl,ob,n⟩ _ x _ h y
 simp only[go_sem,seval,Zc] at x
 obtain ⟨⟨_,_,_⟩,hn⟩:=x
 subst hn
 simp only[*,go_sem,seval]
 refine Ze h (fun _ h=>?_) fun _ h=>?_<;>try simp only[*,go_sem,seval]
 refine Zi h (fun i s st=>match s with | (f,g)=>IV [(0,.p false [.c (.sl 42 4 (A0 ZF a))]),(6,.p false [.n (.sl 45 2 (A0 Zl f))]),(7,.p false [.c (.bool g)]),(27,.p false [.c (.sl 42 4 (A0 ZF a))]),(28,.p false [.c (.int .i64 ((a.length:Nat):Int))]),(29,.p false [.c (.int .i64 ((i:Nat):Int))])] [] st) [] [] (by decide) ?_ ?_ ?_
 simp only[*,go_sem,seval]
 rintro z d ⟨f,g⟩ ⟨sl,ob,n⟩ _ k A K h L
 simp only[go_sem,seval,Zc] at A
 obtain ⟨⟨M,_,_,_,_,_⟩,hn⟩:=A
 subst hn
 have N:=WF.slotL K M (j:=0) rfl
 have:=ZA k
 have:=ZC k
 have:=Zj (ZB k) N
 simp only[*,go_sem,seval]
 obtain ⟨_,O,h⟩:=Za h
 refine ZfP (ZeI O) ?_
 simp only[*,go_sem,seval]
 obtain ⟨e,P,h⟩:=Za h
 refine ZfP (Zet P) ?_
 simp only[*,go_sem,seval]
 refine Zi h (fun i s st=>match s with | (l,m)=>IV [(0,.p false [.c (.sl 42 4 (A0 ZF a))]),(6,.p false [.n (.sl 45 2 (A0 Zl l))]),(7,.p false [.c (.bool m)]),(9,.bp 0 0),(27,.p false [.c (.sl 42 4 (A0 ZF a))]),(28,.p false [.c (.int .i64 ((a.length:Nat):Int))]),(29,.p false [.c (.int .i64 ((z:Nat):Int))]),(36,.p false [.c (.sl 120 2 (A0 YK e))]),(37,.p false [.c (.int .i64 ((e.length:Nat):Int))]),(38,.p false [.c (.int .i64 ((i:Nat):Int))])] [.box 42 [.c (.str d.name),.c (.int .i64 d.priority),.c (.sl 173 5 (A0 ZK d.cond)),.c (.sl 50 3 (A0 ZG d.thn))]] st) [] [48] (by decide) ?_ ?_ ?_
 simp only[*,go_sem,seval]
 rintro Q B ⟨l,m⟩ ⟨sl,ob,n⟩ _ o C R h S
 simp only[go_sem,seval,Zc] at C
 obtain ⟨⟨_,_,_,_,_,_,_,T,_,_⟩,_,hn⟩:=C
 subst hn
 have U:=WF.slotL R T (j:=0) rfl
 have:=ZA o
 have:=ZC o
 have:=Zj (ZB o) U
 simp only[*,go_sem,seval]
 refine Zi h (fun i s st=>match s with | (q,t)=>IV [(0,.p false [.c (.sl 42 4 (A0 ZF a))]),(6,.p false [.n (.sl 45 2 (A0 Zl q))]),(7,.p false [.c (.bool t)]),(9,.bp 0 0),(11,.bp 1 0),(27,.p false [.c (.sl 42 4 (A0 ZF a))]),(28,.p false [.c (.int .i64 ((a.length:Nat):Int))]),(29,.p false [.c (.int .i64 ((z:Nat):Int))]),(36,.p false [.c (.sl 120 2 (A0 YK e))]),(37,.p false [.c (.int .i64 ((e.length:Nat):Int))]),(38,.p false [.c (.int .i64 ((Q:Nat):Int))]),(43,.p false [.c (.sl 50 3 (A0 ZG d.thn))]),(44,.p false [.c (.int .i64 ((d.thn.length:Nat):Int))]),(45,.p false [.c (.int .i64 ((i:Nat):Int))])] [.box 42 [.c (.str d.name),.c (.int .i64 d.priority),.c (.sl 173 5 (A0 ZK d.cond)),.c (.sl 50 3 (A0 ZG d.thn))],.box 120 [.c (.sl 45 2 (A0 Zl B.facts)),.c (.sl 166 2 (A0 Z4 B.binding))]] st) [] [0,49] (by decide) ?_ ?_ ?_
 simp only[*,go_sem,seval]
 rintro _ _ ⟨q,t⟩ ⟨sl,ob,n⟩ _ u D V h W
 simp only[go_sem,seval,Zc] at D
 obtain ⟨⟨_,_,_,_,_,_,_,_,_,_,_,X,_,_⟩,_,_,hn⟩:=D
 subst hn
 have Y:=WF.slotL V X (j:=0) rfl
 have:=ZA u
 have:=ZC u
 have:=Zj (ZB u) Y
 simp only[*,go_sem,seval]
 refine ZMH h fun _ Z h=>Zd (Zce Z) ?_
 simp only[*,go_sem,seval]
 refine ZMH h fun _ aa h=>Zd (Qq aa) ?_
 simp only[*,go_sem,seval]
 refine Ze h (fun _ h=>?_) fun _ h=>?_<;>try simp only[*,go_sem,seval]
 refine ⟨_,[],[0,1],(A1 h).symm,by decide,?_⟩
 simp only[*,go_sem,seval]
 refine Ze h (fun _ h=>?_) fun _ h=>?_<;>try simp only[*,go_sem,seval]
 replace h:=Zn h W
 replace h:=Zn h S
 replace h:=Zn h L
 replace h:=Zn h y
 cases h
 simp only[*,go_sem,seval]
 refine ZMH h fun _ ab h=>Zd (Zo5 ab) ?_
 simp only[*,go_sem,seval]
 refine ⟨_,[(false,6,4096)],[0,1],(A1 h).symm,by decide,?_⟩
 simp only[*,go_sem,seval]
 rintro ⟨q,t⟩ ⟨sl,ob,n⟩ E _ h
 simp only[go_sem,seval,Zc] at E
 obtain ⟨⟨_,_,_,_,_,_,_,_,_,_,_,_,_,_⟩,_,_,hn⟩:=E
 subst hn
 have:=Zy (d.thn.length)
 simp only[*,go_sem,seval]
 refine ⟨_,[],[0],(A1 h).symm,by decide,?_⟩
 simp only[*,go_sem,seval]
 rintro ⟨l,m⟩ ⟨sl,ob,n⟩ F _ h
 simp only[go_sem,seval,Zc] at F
 obtain ⟨⟨_,_,_,_,_,_,_,_,_,_⟩,_,hn⟩:=F
 subst hn
 have:=Zy (e.length)
 simp only[*,go_sem,seval]
 refine ⟨_,[],[],(A1 h).symm,by decide,?_⟩
 simp only[*,go_sem,seval]
 rintro ⟨f,g⟩ ⟨sl,ob,n⟩ G _ h
 simp only[go_sem,seval,Zc] at G
 obtain ⟨⟨_,_,_,_,_,_⟩,hn⟩:=G
 subst hn
 have:=Zy (a.length)
 simp only[*,go_sem,seval]
 refine ⟨_,[],[],(A1 h).symm,by decide,?_⟩
 simp only[*,go_sem,seval]
 replace h:=Zn h y
 iterate 3 (cases h;simp only[*,go_sem,seval])
theorem ZkN {append_0:(List Zg)} {r:Bool} (h:Zbs append_0=some r):Zk prog J0 170 [(false,[.sl 42 4 (A0 ZF append_0)])] [(false,[(false,.bool r)])]:=by
 refine fnk func170 rfl ?_
 unfold Zbs at h
 simp only[fnS,f170,Zm,go_sem,seval]
 refine Zi h (fun i _ st=>IV [(0,.p false [.c (.sl 42 4 (A0 ZF append_0))]),(3,.p false [.c (.int .i64 ((i:Nat):Int))])] [] st) [] [] (by decide) ?_ ?_ ?_
 simp only[*,go_sem,seval]
 rintro l x ⟨⟩ ⟨sl,ob,n⟩ _ b m y h d
 simp only[go_sem,seval,Zc] at m
 obtain ⟨⟨z,_⟩,hn⟩:=m
 subst hn
 have A:=WF.slotL y z (j:=0) rfl
 have:=ZA b
 have:=ZC b
 have:=Zj (ZB b) A
 simp only[*,go_sem,seval]
 refine ZMH h fun _ B h=>Zd (ZlW B) ?_
 simp only[*,go_sem,seval]
 refine Ze h (fun _ h=>?_) fun _ h=>?_<;>try simp only[*,go_sem,seval]
 refine ZMH h fun e C h=>Zd (ZhE C) ?_
 simp only[*,go_sem,seval]
 refine Zi h (fun i _ st=>IV [(0,.p false [.c (.sl 42 4 (A0 ZF append_0))]),(3,.p false [.c (.int .i64 ((l:Nat):Int))]),(4,.p false [.row 0]),(5,.p false [.c (.int .i64 ((i:Nat):Int))])] [.row 9 1 (A0 Zx e) 2] st) [] [224] (by decide) ?_ ?_ ?_
 simp only[*,go_sem,seval]
 rintro D a ⟨⟩ ⟨sl,ob,n⟩ _ f o E h q
 simp only[go_sem,seval,Zc] at o
 obtain ⟨⟨F,_,_,_⟩,_,hn⟩:=o
 subst hn
 have G:=WF.elL (WF.slotD E F (j:=0) rfl) b (j:=2) rfl
 have:=ZA f
 have:=ZC f
 have:=Zj (ZB f) G
 simp only[*,go_sem,seval]
 refine Zi h (fun i _ st=>IV [(0,.p false [.c (.sl 42 4 (A0 ZF append_0))]),(3,.p false [.c (.int .i64 ((l:Nat):Int))]),(4,.p false [.row 0]),(5,.p false [.c (.int .i64 ((D:Nat):Int))]),(6,.bp 1 0),(7,.p false [.c (.int .i64 ((i:Nat):Int))])] [.row 9 1 (A0 Zx e) 2,.box 173 [.c (.int .i64 a.kind),.c (.str a.pattern.rel),.c (.sl 9 1 (A0 Zx a.pattern.args)),.c (.str a.left),.c (.str a.right)]] st) [] [0,257] (by decide) ?_ ?_ ?_
 simp only[*,go_sem,seval]
 rintro _ _ ⟨⟩ ⟨sl,ob,n⟩ _ g t H h k
 simp only[go_sem,seval,Zc] at t
 obtain ⟨⟨_,_,_,_,_,_⟩,I,_,hn⟩:=t
 subst hn
 have J:=WF.rowL H I
 have:=ZA g
 have:=ZC g
 have:=Zj (ZB g) J
 simp only[*,go_sem,seval]
 iterate 2 refine Ze h (fun _ h=>?_) fun _ h=>?_<;>try simp only[*,go_sem,seval]
 replace h:=Zn h k
 replace h:=Zn h q
 replace h:=Zn h d
 cases h
 simp only[*,go_sem,seval]
 refine ZMH h fun _ K h=>Zd (ZkF K) ?_
 simp only[*,go_sem,seval]
 refine Ze h (fun _ h=>?_) fun _ h=>?_<;>try simp only[*,go_sem,seval]
 replace h:=Zn h k
 replace h:=Zn h q
 replace h:=Zn h d
 cases h
 simp only[*,go_sem,seval]
 refine ⟨_,[],[0,1],(A1 h).symm,by decide,?_⟩
 simp only[*,go_sem,seval]
 replace h:=Zn h k
 refine ⟨_,[],[0],(A1 h).symm,by decide,?_⟩
 simp only[*,go_sem,seval]
 rintro ⟨⟩ ⟨sl,ob,n⟩ u _ h
 simp only[go_sem,seval,Zc] at u
 obtain ⟨⟨_,_,_,_,_,_⟩,_,_,hn⟩:=u
 subst hn
 have:=Zy (e.length)
 simp only[*,go_sem,seval]
 refine ⟨_,[],[0],(A1 h).symm,by decide,?_⟩
 simp only[*,go_sem,seval]
 rintro ⟨⟩ ⟨sl,ob,n⟩ v _ h
 simp only[go_sem,seval,Zc] at v
 obtain ⟨⟨_,_,_,_⟩,_,hn⟩:=v
 subst hn
 have:=Zy (x.cond.length)
 simp only[*,go_sem,seval]
 refine ⟨_,[],[],(A1 h).symm,by decide,?_⟩
 simp only[*,go_sem,seval]
 replace h:=Zn h d
 cases h
 simp only[*,go_sem,seval]
 rintro ⟨⟩ ⟨sl,ob,n⟩ w _ h
 simp only[go_sem,seval,Zc] at w
 obtain ⟨⟨_,_⟩,hn⟩:=w
 subst hn
 have:=Zy (append_0.length)
 simp only[*,go_sem,seval]
 refine ZMH h fun _ L h=>Zd (Zm3 L) ?_
 cases h
 simp only[*,go_sem,seval]
theorem Zqk {append_0:(List Zu)} {a:Zt} {a_2:(List Zb)} {r:(List Zu)} (h:Zf9 append_0 a a_2=some r):Zk prog J0 238 [(false,[.sl 120 2 (A0 YK append_0)]),(true,ZK a),(false,[.sl 45 2 (A0 Zl a_2)])] [(false,[(false,.sl 120 2 (A0 YK r))])]:=by
 refine fnk func238 rfl ?_
 unfold Zf9 at h
 simp only[fnS,f238,Zm,go_sem,seval]
 refine Zi h (fun i b st=>IV [(0,.p false [.c (.sl 120 2 (A0 YK append_0))]),(2,.p false [.c (.sl 45 2 (A0 Zl a_2))]),(4,.bp 0 0),(7,.p false [.row 1]),(8,.p false [.c (.int .i64 ((i:Nat):Int))])] [.box 173 [.c (.int .i64 a.kind),.c (.str a.pattern.rel),.c (.sl 9 1 (A0 Zx a.pattern.args)),.c (.str a.left),.c (.str a.right)],.row 120 2 (A0 YK b) 2] st) [] [0,32] (by decide) ?_ ?_ ?_
 simp only[*,go_sem,seval]
 rintro o _ b ⟨sl,ob,n⟩ _ d g q h _
 simp only[go_sem,seval,Zc] at g
 obtain ⟨⟨t,_,_,_,_⟩,_,_,hn⟩:=g
 subst hn
 have u:=WF.slotL q t (j:=0) rfl
 have:=ZA d
 have:=ZC d
 have:=Zj (ZB d) u
 simp only[*,go_sem,seval]
 refine Ze h (fun _ h=>?_) fun _ h=>?_<;>try simp only[*,go_sem,seval]
 refine ZMH h fun _ v h=>Zd (ZkW v) ?_
 simp only[*,go_sem,seval]
 refine Ze h (fun _ h=>?_) fun _ h=>?_<;>try simp only[*,go_sem,seval]
 refine ZMH h fun _ w h=>Zd (ZrC w) ?_
 obtain ⟨x,h⟩:=Zq h
 try simp only[Nat.reduceLeDiff] at x
 simp only[*,go_sem,seval]
 refine ⟨_,[],[0,354],(A1 h).symm,by decide,?_⟩
 simp only[*,go_sem,seval]
 refine ⟨_,[],[0,1],(A1 h).symm,by decide,?_⟩
 simp only[*,go_sem,seval]
 refine Zi h (fun i e st=>IV [(0,.p false [.c (.sl 120 2 (A0 YK append_0))]),(2,.p false [.c (.sl 45 2 (A0 Zl a_2))]),(4,.bp 0 0),(7,.p false [.row 1]),(8,.p false [.c (.int .i64 ((o:Nat):Int))]),(9,.p false [.c (.int .i64 ((i:Nat):Int))])] [.box 173 [.c (.int .i64 a.kind),.c (.str a.pattern.rel),.c (.sl 9 1 (A0 Zx a.pattern.args)),.c (.str a.left),.c (.str a.right)],.row 120 2 (A0 YK e) 2] st) [] [0,1] (by decide) ?_ ?_ ?_
 simp only[*,go_sem,seval]
 rintro _ _ e ⟨sl,ob,n⟩ _ f k y h _
 simp only[go_sem,seval,Zc] at k
 obtain ⟨⟨_,z,_,_,_,_⟩,_,_,hn⟩:=k
 subst hn
 have A:=WF.slotL y z (j:=0) rfl
 have:=ZA f
 have:=ZC f
 have:=Zj (ZB f) A
 simp only[*,go_sem,seval]
 refine ZMH h fun _ B h=>Zd (Zf2 B) ?_
 simp only[*,go_sem,seval]
 refine Ze h (fun _ h=>?_) fun _ h=>?_<;>try simp only[*,go_sem,seval]
 refine ZMH h fun _ C h=>Zd (Zeq C) ?_
 simp only[*,go_sem,seval]
 refine ZMH h fun _ D h=>Zd (Xa D) ?_
 obtain ⟨E,h⟩:=Zq h
 try simp only[Nat.reduceLeDiff] at E
 obtain ⟨F,h⟩:=Zq h
 try simp only[Nat.reduceLeDiff] at F
 simp only[*,go_sem,seval]
 refine ⟨_,[],[0,626],(A1 h).symm,by decide,?_⟩
 simp only[*,go_sem,seval]
 refine ⟨_,[],[0,1],(A1 h).symm,by decide,?_⟩
 simp only[*,go_sem,seval]
 rintro e ⟨sl,ob,n⟩ l _ h
 simp only[go_sem,seval,Zc] at l
 obtain ⟨⟨_,_,_,_,_,_⟩,_,_,hn⟩:=l
 subst hn
 have:=Zy (a_2.length)
 simp only[*,go_sem,seval]
 refine ⟨_,[],[0,1],(A1 h).symm,by decide,?_⟩
 simp only[*,go_sem,seval]
 rintro b ⟨sl,ob,n⟩ m _ h
 simp only[go_sem,seval,Zc] at m
 obtain ⟨⟨_,_,_,_,_⟩,_,_,hn⟩:=m
 subst hn
 have:=Zy (append_0.length)
 cases h
 simp only[*,go_sem,seval]
end
section
set_option linter.unusedSimpArgs false
set_option linter.unusedVariables false
set_option maxRecDepth 1000000
set_option maxHeartbeats 4000000
theorem Zm2 {c_0:ZJ} {nots_1:Bool} {r:(Zg × ZJ)} (h:ZbM c_0 nots_1=some r):Zbx prog J0 JF0 124 (.box 152 (Zbj c_0)) [(false,[.bool nots_1])] [(true,[(false,.str r.1.name),(false,.int .i64 r.1.priority),(false,.sl 173 5 (A0 ZK r.1.cond)),(false,.sl 50 3 (A0 ZG r.1.thn))])] (.box 152 (Zbj r.2)):=by
 refine fnh func124 rfl ?_
 unfold ZbM at h
 have a:Z9 ⟨#[114,32,48,58,32,112,40,63,120,41,32,38,32,111,110,40,63,120,44,63,121,41,32,38,32,63,120,32,33,61,32,63,121,32,45,62,32,97,100,100,32,113,40,63,121,41]⟩=true:=by decide
 have b:Z9 ⟨#[114,32,48,58,32,115,40,63,120,41,32,38,32,110,111,116,32,122,40,41,32,38,32,110,111,116,32,112,40,63,120,41,32,45,62,32,97,100,100,32,98,97,100,40,41]⟩=true:=by decide
 have c:Z9 ⟨#[114,32,49,58,32,111,110,40,63,120,44,63,121,41,32,38,32,111,110,40,63,121,44,63,122,41,32,45,62,32,97,100,100,32,111,110,40,63,120,44,63,122,41]⟩=true:=by decide
 have d:Z9 ⟨#[114,32,49,58,32,113,40,63,120,41,32,38,32,111,110,40,63,120,44,63,121,41,32,38,32,110,111,116,32,113,40,63,121,41,32,45,62,32,97,100,100,32,115,40,63,120,41]⟩=true:=by decide
 have e:Z9 ⟨#[114,32,49,58,32,113,40,63,120,41,32,38,32,112,40,63,120,41,32,45,62,32,97,100,100,32,98,97,100,40,41]⟩=true:=by decide
 have f:Z9 ⟨#[114,32,49,58,32,97,116,40,63,120,44,63,121,41,32,45,62,32,97,100,100,32,111,110,40,63,120,44,63,121,41]⟩=true:=by decide
 have g:Z9 ⟨#[114,32,50,58,32,111,110,40,63,120,44,63,121,41,32,38,32,112,40,63,121,41,32,45,62,32,97,100,100,32,112,40,63,120,41]⟩=true:=by decide
 have i:Z9 ⟨#[114,32,50,58,32,112,40,63,120,41,32,38,32,110,111,116,32,113,40,63,120,41,32,45,62,32,97,100,100,32,115,40,63,120,41]⟩=true:=by decide
 have j:Z9 ⟨#[114,32,51,58,32,112,40,63,120,41,32,38,32,112,40,63,121,41,32,38,32,63,120,32,60,32,63,121,32,45,62,32,97,100,100,32,122,40,41]⟩=true:=by decide
 have k:Z9 ⟨#[114,32,52,58,32,111,110,40,63,120,44,97,41,32,45,62,32,97,100,100,32,113,40,63,120,41,32,38,32,97,100,100,32,112,40,97,41]⟩=true:=by decide
 have l:Z9 ⟨#[114,32,53,58,32,111,110,40,63,120,44,63,121,41,32,38,32,110,111,116,32,112,40,63,121,41,32,45,62,32,97,100,100,32,115,40,63,121,41]⟩=true:=by decide
 simp only[fnH,f124,Zdh,Zdg,Xp,go_sem,seval,a,b,c,d,e,f,g,i,j,k,l]
 refine Ze h (fun _ h=>?_) fun _ h=>?_<;>try simp only[*,go_sem,seval]
 obtain ⟨m,o,h⟩:=Za h
 refine QL (Q7 o) ?_
 obtain ⟨p,h⟩:=Zq h
 try simp only[seval] at p
 obtain ⟨q,t,h⟩:=Za h
 have u:(A0 Zx [(⟨#[114,32,49,58,32,111,110,40,63,120,44,63,121,41,32,38,32,111,110,40,63,121,44,63,122,41,32,45,62,32,97,100,100,32,111,110,40,63,120,44,63,122,41]⟩),(⟨#[114,32,50,58,32,111,110,40,63,120,44,63,121,41,32,38,32,112,40,63,121,41,32,45,62,32,97,100,100,32,112,40,63,120,41]⟩),(⟨#[114,32,48,58,32,112,40,63,120,41,32,38,32,111,110,40,63,120,44,63,121,41,32,38,32,63,120,32,33,61,32,63,121,32,45,62,32,97,100,100,32,113,40,63,121,41]⟩),(⟨#[114,32,51,58,32,112,40,63,120,41,32,38,32,112,40,63,121,41,32,38,32,63,120,32,60,32,63,121,32,45,62,32,97,100,100,32,122,40,41]⟩),(⟨#[114,32,52,58,32,111,110,40,63,120,44,97,41,32,45,62,32,97,100,100,32,113,40,63,120,41,32,38,32,97,100,100,32,112,40,97,41]⟩),(⟨#[114,32,49,58,32,113,40,63,120,41,32,38,32,112,40,63,120,41,32,45,62,32,97,100,100,32,98,97,100,40,41]⟩),(⟨#[114,32,49,58,32,97,116,40,63,120,44,63,121,41,32,45,62,32,97,100,100,32,111,110,40,63,120,44,63,121,41]⟩),(⟨#[114,32,50,58,32,112,40,63,120,41,32,38,32,110,111,116,32,113,40,63,120,41,32,45,62,32,97,100,100,32,115,40,63,120,41]⟩),(⟨#[114,32,53,58,32,111,110,40,63,120,44,63,121,41,32,38,32,110,111,116,32,112,40,63,121,41,32,45,62,32,97,100,100,32,115,40,63,121,41]⟩),(⟨#[114,32,48,58,32,115,40,63,120,41,32,38,32,110,111,116,32,122,40,41,32,38,32,110,111,116,32,112,40,63,120,41,32,45,62,32,97,100,100,32,98,97,100,40,41]⟩),(⟨#[114,32,49,58,32,113,40,63,120,41,32,38,32,111,110,40,63,120,44,63,121,41,32,38,32,110,111,116,32,113,40,63,121,41,32,45,62,32,97,100,100,32,115,40,63,120,41]⟩)])[(A2 m.1)]?=some (Zx q):=by rw [A3,t];rfl
 simp only[A4,A5,ZoT] at u
 simp only[*,go_sem,seval]
 refine ZMH h fun _ v h=>Zd (ZgT v) ?_
 cases h
 simp only[*,go_sem,seval]
 obtain ⟨w,x,h⟩:=Za h
 refine QL (Q7 x) ?_
 obtain ⟨y,h⟩:=Zq h
 try simp only[seval] at y
 obtain ⟨z,A,h⟩:=Za h
 have B:(A0 Zx [(⟨#[114,32,49,58,32,111,110,40,63,120,44,63,121,41,32,38,32,111,110,40,63,121,44,63,122,41,32,45,62,32,97,100,100,32,111,110,40,63,120,44,63,122,41]⟩),(⟨#[114,32,50,58,32,111,110,40,63,120,44,63,121,41,32,38,32,112,40,63,121,41,32,45,62,32,97,100,100,32,112,40,63,120,41]⟩),(⟨#[114,32,48,58,32,112,40,63,120,41,32,38,32,111,110,40,63,120,44,63,121,41,32,38,32,63,120,32,33,61,32,63,121,32,45,62,32,97,100,100,32,113,40,63,121,41]⟩),(⟨#[114,32,51,58,32,112,40,63,120,41,32,38,32,112,40,63,121,41,32,38,32,63,120,32,60,32,63,121,32,45,62,32,97,100,100,32,122,40,41]⟩),(⟨#[114,32,52,58,32,111,110,40,63,120,44,97,41,32,45,62,32,97,100,100,32,113,40,63,120,41,32,38,32,97,100,100,32,112,40,97,41]⟩),(⟨#[114,32,49,58,32,113,40,63,120,41,32,38,32,112,40,63,120,41,32,45,62,32,97,100,100,32,98,97,100,40,41]⟩),(⟨#[114,32,49,58,32,97,116,40,63,120,44,63,121,41,32,45,62,32,97,100,100,32,111,110,40,63,120,44,63,121,41]⟩),(⟨#[114,32,50,58,32,112,40,63,120,41,32,38,32,110,111,116,32,113,40,63,120,41,32,45,62,32,97,100,100,32,115,40,63,120,41]⟩),(⟨#[114,32,53,58,32,111,110,40,63,120,44,63,121,41,32,38,32,110,111,116,32,112,40,63,121,41,32,45,62,32,97,100,100,32,115,40,63,121,41]⟩),(⟨#[114,32,48,58,32,115,40,63,120,41,32,38,32,110,111,116,32,122,40,41,32,38,32,110,111,116,32,112,40,63,120,41,32,45,62,32,97,100,100,32,98,97,100,40,41]⟩),(⟨#[114,32,49,58,32,113,40,63,120,41,32,38,32,111,110,40,63,120,44,63,121,41,32,38,32,110,111,116,32,113,40,63,121,41,32,45,62,32,97,100,100,32,115,40,63,120,41]⟩)])[(A2 w.1)]?=some (Zx z):=by rw [A3,A];rfl
 simp only[A4,A5,ZoT] at B
 simp only[*,go_sem,seval]
 refine ZMH h fun _ C h=>Zd (ZgT C) ?_
 cases h
 simp only[*,go_sem,seval]
theorem ZqY {d:(List Zg)} {g:(List Zb)} {r:((List Zb) × Zr × (List ZaA) × Bool)} (h:Zbh d g=some r):Zk prog J0 128 [(false,[.sl 42 4 (A0 ZF d)]),(false,[.sl 45 2 (A0 Zl g)])] [(false,[(false,.sl 45 2 (A0 Zl r.1))]),(true,[(false,.int .i64 r.2.1.nodes),(false,.sl 199 3 (A0 ZE r.2.1.reasons))]),(false,[(false,.any)]),(false,[(false,.bool r.2.2.2)])]:=by
 refine fnn 4 func128 rfl ?_
 unfold Zbh at h
 simp only[fnN,f128,Zm,go_sem,seval]
 refine ZMH h fun e P h=>Zd (ZhZ P) ?_
 simp only[*,go_sem,seval]
 refine Ze h (fun _ h=>?_) fun _ h=>?_<;>try simp only[*,go_sem,seval]
 refine Zi h (fun i s st=>match s with | (q,t)=>IV [(0,.p false [.c (.sl 42 4 (A0 ZF d))]),(5,.bp 0 0),(8,.p false [.n (.sl 45 2 (A0 Zl e.1))]),(10,.bp 1 0),(11,.p false [.row 3]),(40,.p false [.c (.sl 45 2 (A0 Zl g))]),(41,.p false [.c (.int .i64 ((g.length:Nat):Int))]),(42,.p false [.c (.int .i64 ((i:Nat):Int))])] [.box 64 [.c (.int .i64 0),.nil 199 3],.box 64 [.c (.int .i64 ((e.1.length:Nat):Int)),.row 2],.row 199 3 (A0 ZE q) 2,.row 204 2 (A0 Zhi t) 2] st) [(false,8,4096),(false,11,0),(true,272,1)] [16,272,369,368] (by decide) ?_ ?_ ?_
 simp only[*,go_sem,seval]
 rintro _ _ ⟨q,t⟩ ⟨sl,ob,n⟩ _ u E Q h _
 simp only[go_sem,seval,Zc] at E
 obtain ⟨⟨_,_,_,_,_,R,_,_⟩,_,_,_,_,hn⟩:=E
 subst hn
 have S:=WF.slotL Q R (j:=0) rfl
 have:=ZA u
 have:=ZC u
 have:=Zj (ZB u) S
 simp only[*,go_sem,seval]
 refine ZMH h fun _ T h=>Zd (Qq T) ?_
 obtain ⟨U,h⟩:=Zq h
 try simp only[Nat.reduceLeDiff] at U
 obtain ⟨V,h⟩:=Zq h
 try simp only[Nat.reduceLeDiff] at V
 simp only[*,go_sem,seval]
 refine ⟨_,[],[0,1,196,292],(A1 h).symm,by decide,?_⟩
 simp only[*,go_sem,seval]
 rintro ⟨q,t⟩ ⟨sl,ob,n⟩ F _ h
 simp only[go_sem,seval,Zc] at F
 obtain ⟨⟨_,_,_,_,_,_,_,_⟩,_,_,_,_,hn⟩:=F
 subst hn
 have:=Zy (g.length)
 simp only[*,go_sem,seval]
 refine Zi h (fun i s st=>match s with | (v,w)=>IV [(5,.bp 0 0),(8,.p false [.n (.sl 45 2 (A0 Zl e.1))]),(10,.bp 1 0),(11,.p false [.row 3]),(60,.p false [.c (.sl 42 4 (A0 ZF d))]),(61,.p false [.c (.int .i64 ((d.length:Nat):Int))]),(62,.p false [.c (.int .i64 ((i:Nat):Int))])] [.box 64 [.c (.int .i64 0),.nil 199 3],.box 64 [.c (.int .i64 ((e.1.length:Nat):Int)),.row 2],.row 199 3 (A0 ZE v) 2,.row 204 2 (A0 Zhi w) 1] st) [(true,3,1)] [0,1,2,3] (by decide) ?_ ?_ ?_
 simp only[*,go_sem,seval]
 rintro x b ⟨v,w⟩ ⟨sl,ob,n⟩ _ y G W h _
 simp only[go_sem,seval,Zc] at G
 obtain ⟨⟨_,_,_,_,X,_,_⟩,_,_,_,_,hn⟩:=G
 subst hn
 have Y:=WF.slotL W X (j:=0) rfl
 have:=ZA y
 have:=ZC y
 have:=Zj (ZB y) Y
 simp only[*,go_sem,seval]
 obtain ⟨_,Z,h⟩:=Za h
 refine ZfP (ZeI Z) ?_
 simp only[*,go_sem,seval]
 obtain ⟨f,aa,h⟩:=Za h
 refine ZfP (Zet aa) ?_
 simp only[*,go_sem,seval]
 refine Zi h (fun i s st=>match s with | (k,l)=>IV [(5,.bp 0 0),(8,.p false [.n (.sl 45 2 (A0 Zl e.1))]),(10,.bp 1 0),(11,.p false [.row 3]),(15,.bp 4 0),(60,.p false [.c (.sl 42 4 (A0 ZF d))]),(61,.p false [.c (.int .i64 ((d.length:Nat):Int))]),(62,.p false [.c (.int .i64 ((x:Nat):Int))]),(69,.p false [.c (.sl 120 2 (A0 YK f))]),(70,.p false [.c (.int .i64 ((f.length:Nat):Int))]),(71,.p false [.c (.int .i64 ((i:Nat):Int))])] [.box 64 [.c (.int .i64 0),.nil 199 3],.box 64 [.c (.int .i64 ((e.1.length:Nat):Int)),.row 2],.row 199 3 (A0 ZE k) 2,.row 204 2 (A0 Zhi l) 1,.box 42 [.c (.str b.name),.c (.int .i64 b.priority),.c (.sl 173 5 (A0 ZK b.cond)),.c (.sl 50 3 (A0 ZG b.thn))]] st) [] [0,1,2,3,52] (by decide) ?_ ?_ ?_
 simp only[*,go_sem,seval]
 rintro H m ⟨k,l⟩ ⟨sl,ob,n⟩ _ z I ab h _
 simp only[go_sem,seval,Zc] at I
 obtain ⟨⟨_,_,_,_,_,_,_,_,ac,_,_⟩,_,_,_,_,_,hn⟩:=I
 subst hn
 have ad:=WF.slotL ab ac (j:=0) rfl
 have:=ZA z
 have:=ZC z
 have:=Zj (ZB z) ad
 simp only[*,go_sem,seval]
 refine Zi h (fun i o st=>IV [(5,.bp 0 0),(8,.p false [.n (.sl 45 2 (A0 Zl e.1))]),(10,.bp 1 0),(11,.p false [.row 3]),(15,.bp 4 0),(17,.bp 5 0),(18,.p false [.row 6]),(60,.p false [.c (.sl 42 4 (A0 ZF d))]),(61,.p false [.c (.int .i64 ((d.length:Nat):Int))]),(62,.p false [.c (.int .i64 ((x:Nat):Int))]),(69,.p false [.c (.sl 120 2 (A0 YK f))]),(70,.p false [.c (.int .i64 ((f.length:Nat):Int))]),(71,.p false [.c (.int .i64 ((H:Nat):Int))]),(76,.p false [.c (.sl 173 5 (A0 ZK b.cond))]),(77,.p false [.c (.int .i64 ((b.cond.length:Nat):Int))]),(78,.p false [.c (.int .i64 ((i:Nat):Int))])] [.box 64 [.c (.int .i64 0),.nil 199 3],.box 64 [.c (.int .i64 ((e.1.length:Nat):Int)),.row 2],.row 199 3 (A0 ZE k) 2,.row 204 2 (A0 Zhi l) 1,.box 42 [.c (.str b.name),.c (.int .i64 b.priority),.c (.sl 173 5 (A0 ZK b.cond)),.c (.sl 50 3 (A0 ZG b.thn))],.box 120 [.c (.sl 45 2 (A0 Zl m.facts)),.c (.sl 166 2 (A0 Z4 m.binding))],.row 45 2 (A0 Zl o) 2] st) [(false,18,0)] [0,1,2,3,4,53,165] (by decide) ?_ ?_ ?_
 simp only[*,go_sem,seval]
 rintro _ _ o ⟨sl,ob,n⟩ _ A J ae h _
 simp only[go_sem,seval,Zc] at J
 obtain ⟨⟨_,_,_,_,_,_,_,_,_,_,_,_,_,af,_,_⟩,_,_,_,_,_,_,_,hn⟩:=J
 subst hn
 have ag:=WF.slotL ae af (j:=0) rfl
 have:=ZA A
 have:=ZC A
 have:=Zj (ZB A) ag
 simp only[*,go_sem,seval]
 refine Ze h (fun _ h=>?_) fun _ h=>?_<;>try simp only[*,go_sem,seval]
 refine ZMH h fun _ ah h=>Zd (Zce ah) ?_
 obtain ⟨ai,h⟩:=Zq h
 try simp only[Nat.reduceLeDiff] at ai
 simp only[*,go_sem,seval]
 refine ⟨_,[],[0,1,2,3,4,5,359],(A1 h).symm,by decide,?_⟩
 simp only[*,go_sem,seval]
 refine ⟨_,[],[0,1,2,3,4,5,6],(A1 h).symm,by decide,?_⟩
 simp only[*,go_sem,seval]
 rintro o ⟨sl,ob,n⟩ K _ h
 simp only[go_sem,seval,Zc] at K
 obtain ⟨⟨_,_,_,_,_,_,_,_,_,_,_,_,_,_,_,_⟩,_,_,_,_,_,_,_,hn⟩:=K
 subst hn
 have:=Zy (b.cond.length)
 simp only[*,go_sem,seval]
 refine Zi h (fun i s st=>match s with | (B,C)=>IV [(5,.bp 0 0),(8,.p false [.n (.sl 45 2 (A0 Zl e.1))]),(10,.bp 1 0),(11,.p false [.row 3]),(15,.bp 4 0),(17,.bp 5 0),(18,.p false [.row 6]),(60,.p false [.c (.sl 42 4 (A0 ZF d))]),(61,.p false [.c (.int .i64 ((d.length:Nat):Int))]),(62,.p false [.c (.int .i64 ((x:Nat):Int))]),(69,.p false [.c (.sl 120 2 (A0 YK f))]),(70,.p false [.c (.int .i64 ((f.length:Nat):Int))]),(71,.p false [.c (.int .i64 ((H:Nat):Int))]),(99,.p false [.c (.sl 50 3 (A0 ZG b.thn))]),(100,.p false [.c (.int .i64 ((b.thn.length:Nat):Int))]),(101,.p false [.c (.int .i64 ((i:Nat):Int))])] [.box 64 [.c (.int .i64 0),.nil 199 3],.box 64 [.c (.int .i64 ((e.1.length:Nat):Int)),.row 2],.row 199 3 (A0 ZE B) 2,.row 204 2 (A0 Zhi C) 1,.box 42 [.c (.str b.name),.c (.int .i64 b.priority),.c (.sl 173 5 (A0 ZK b.cond)),.c (.sl 50 3 (A0 ZG b.thn))],.box 120 [.c (.sl 45 2 (A0 Zl m.facts)),.c (.sl 166 2 (A0 Z4 m.binding))],.row 45 2 (A0 Zl o) 2] st) [] [0,1,2,3,4,5,6] (by decide) ?_ ?_ ?_
 simp only[*,go_sem,seval]
 rintro _ _ ⟨B,C⟩ ⟨sl,ob,n⟩ _ D L aj h _
 simp only[go_sem,seval,Zc] at L
 obtain ⟨⟨_,_,_,_,_,_,_,_,_,_,_,_,_,ak,_,_⟩,_,_,_,_,_,_,_,hn⟩:=L
 subst hn
 have al:=WF.slotL aj ak (j:=0) rfl
 have:=ZA D
 have:=ZC D
 have:=Zj (ZB D) al
 simp only[*,go_sem,seval]
 refine ZMH h fun _ am h=>Zd (Zce am) ?_
 simp only[*,go_sem,seval]
 refine ZMH h fun _ an h=>Zd (Qq an) ?_
 simp only[*,go_sem,seval]
 refine ZMH h fun _ ao h=>Zd (ZiX ao) ?_
 simp only[*,go_sem,seval]
 refine ZMH h fun _ ap h=>Zd (ZiX ap) ?_
 simp only[*,go_sem,seval]
 refine ZMH h fun _ aq h=>Zd (Zma aq) ?_
 simp only[*,go_sem,seval]
 refine Ze h (fun _ h=>?_) fun _ h=>?_<;>try simp only[*,go_sem,seval]
 refine ⟨_,[],[0,1,2,3,4,5,6],(A1 h).symm,by decide,?_⟩
 simp only[*,go_sem,seval]
 obtain ⟨ar,h⟩:=Zq h
 try simp only[Nat.reduceLeDiff] at ar
 obtain ⟨au,h⟩:=Zq h
 try simp only[Nat.reduceLeDiff] at au
 simp only[*,go_sem,seval]
 refine ⟨_,[],[0,1,615,775,4,5,6],(A1 h).symm,by decide,?_⟩
 simp only[*,go_sem,seval]
 rintro ⟨B,C⟩ ⟨sl,ob,n⟩ M _ h
 simp only[go_sem,seval,Zc] at M
 obtain ⟨⟨_,_,_,_,_,_,_,_,_,_,_,_,_,_,_,_⟩,_,_,_,_,_,_,_,hn⟩:=M
 subst hn
 have:=Zy (b.thn.length)
 simp only[*,go_sem,seval]
 refine ⟨_,[],[0,1,2,3,4],(A1 h).symm,by decide,?_⟩
 simp only[*,go_sem,seval]
 rintro ⟨k,l⟩ ⟨sl,ob,n⟩ N _ h
 simp only[go_sem,seval,Zc] at N
 obtain ⟨⟨_,_,_,_,_,_,_,_,_,_,_⟩,_,_,_,_,_,hn⟩:=N
 subst hn
 have:=Zy (f.length)
 simp only[*,go_sem,seval]
 refine ⟨_,[],[0,1,2,3],(A1 h).symm,by decide,?_⟩
 simp only[*,go_sem,seval]
 rintro ⟨v,w⟩ ⟨sl,ob,n⟩ O _ h
 simp only[go_sem,seval,Zc] at O
 obtain ⟨⟨_,_,_,_,_,_,_⟩,_,_,_,_,hn⟩:=O
 subst hn
 have:=Zy (d.length)
 simp only[*,go_sem,seval]
 refine Ze h (fun _ h=>?_) fun _ h=>?_<;>try simp only[*,go_sem,seval]
 iterate 3 (cases h;simp only[*,go_sem,seval])
theorem ZhS {l_0:(List Zt)} {facts_1:(List Zb)} {r:(List Zu)} (h:ZaF l_0 facts_1=some r):Zk prog J0 171 [(false,[.sl 173 5 (A0 ZK l_0)]),(false,[.sl 45 2 (A0 Zl facts_1)])] [(false,[(false,.sl 120 2 (A0 YK r))])]:=by
 refine fnk func171 rfl ?_
 unfold ZaF at h
 simp only[fnS,f171,Zm,go_sem,seval]
 refine Zi h (fun i a st=>IV [(0,.p false [.c (.sl 173 5 (A0 ZK l_0))]),(1,.p false [.c (.sl 45 2 (A0 Zl facts_1))]),(5,.p false [.row 0]),(6,.p false [.c (.int .i64 ((i:Nat):Int))])] [.row 120 2 (A0 YK a) 2] st) [] [32] (by decide) ?_ ?_ ?_
 simp only[*,go_sem,seval]
 rintro _ _ a ⟨sl,ob,n⟩ _ b d f h _
 simp only[go_sem,seval,Zc] at d
 obtain ⟨⟨g,_,_,_⟩,_,hn⟩:=d
 subst hn
 have k:=WF.slotL f g (j:=0) rfl
 have:=ZA b
 have:=ZC b
 have:=Zj (ZB b) k
 simp only[*,go_sem,seval]
 refine ZMH h fun _ l h=>Zd (Zqk l) ?_
 simp only[*,go_sem,seval]
 refine ⟨_,[],[161],(A1 h).symm,by decide,?_⟩
 simp only[*,go_sem,seval]
 rintro a ⟨sl,ob,n⟩ e _ h
 simp only[go_sem,seval,Zc] at e
 obtain ⟨⟨_,_,_,_⟩,_,hn⟩:=e
 subst hn
 have:=Zy (l_0.length)
 cases h
 simp only[*,go_sem,seval]
end
section
set_option linter.unusedSimpArgs false
set_option linter.unusedVariables false
set_option maxRecDepth 1000000
set_option maxHeartbeats 4000000
theorem Zm1 {c_0:ZJ} {a:Bool} {r:((List Zg) × ZJ)} (h:Zd3 c_0 a=some r):Zbx prog J0 JF0 59 (.box 152 (Zbj c_0)) [(false,[.bool a])] [(false,[(false,.sl 42 4 (A0 ZF r.1))])] (.box 152 (Zbj r.2)):=by
 refine fnh func59 rfl ?_
 unfold Zd3 at h
 have k:Z9 ⟨#[114]⟩=true:=by decide
 simp only[fnH,f59,Zdh,Zdg,Xp,go_sem,seval,k]
 obtain ⟨_,l,h⟩:=Za h
 refine QL (Q7 l) ?_
 simp only[*,go_sem,seval]
 refine Yo h (fun s st=>match s with | (b,d,e,f,g)=>IV [(0,.bp 0 0),(1,.p false [.c (.bool a)]),(5,.p false [.row 1]),(6,.p false [.c (.int .i64 g)])] [.box 152 [.c (.sl 5 1 (A0 ZeK b)),.c (.int .i64 d),.c (.int .i64 e)],.row 42 4 (A0 ZF f) 2] st) [] [0,17] (by decide) ?_ ?_
 simp only[*,go_sem,seval]
 rintro ⟨b,d,e,f,g⟩ ⟨sl,ob,n⟩ _ j _ h m
 simp only[go_sem,seval,Zc] at j
 obtain ⟨⟨_,_,_,_⟩,_,_,hn⟩:=j
 subst hn
 simp only[*,go_sem,seval]
 refine Ze h (fun _ h=>?_) fun _ h=>?_<;>try simp only[*,go_sem,seval]
 obtain ⟨_,o,h⟩:=Za h
 refine QL (Zm2 o) ?_
 simp only[*,go_sem,seval]
 refine ZMH h fun _ q h=>Zd (ZgG q) ?_
 obtain ⟨t,h⟩:=Zq h
 simp only[go_sem] at t
 obtain ⟨u,h⟩:=Zq h
 try simp only[Nat.reduceLeDiff] at u
 simp only[*,go_sem,seval]
 refine ⟨_,[],[0,242],(A1 h).symm,by decide,?_⟩
 simp only[*,go_sem,seval]
 replace h:=Zn h m
 cases h
 simp only[*,go_sem,seval]
theorem Zig {rules_0:(List Zg)} {base_1:(List Zb)} {r:((List Zb) × Zr × Bool)} (h:Ql rules_0 base_1=some r):Zk prog J0 61 [(false,[.sl 42 4 (A0 ZF rules_0)]),(false,[.sl 45 2 (A0 Zl base_1)])] [(false,[(false,.sl 45 2 (A0 Zl r.1))]),(true,[(false,.int .i64 r.2.1.nodes),(false,.sl 199 3 (A0 ZE r.2.1.reasons))]),(false,[(false,.bool r.2.2)])]:=by
 refine fnk func61 rfl ?_
 unfold Ql at h
 simp only[fnS,f61,Zm,go_sem,seval]
 refine ZMH h fun _ a h=>Zd (ZqY a) ?_
 cases h
 simp only[*,go_sem,seval]
theorem Zit {a:(List Zg)} {String_1:(List Zb)} {r:((List Zb) × Bool)} (h:Yu a String_1=some r):Zk prog J0 109 [(false,[.sl 42 4 (A0 ZF a)]),(false,[.sl 45 2 (A0 Zl String_1)])] [(false,[(false,.sl 45 2 (A0 Zl r.1))]),(false,[(false,.bool r.2)])]:=by
 refine fnn 4 func109 rfl ?_
 unfold Yu at h
 simp only[fnN,f109,Zm,go_sem,seval]
 refine ZMH h fun _ B h=>Zd (ZkN B) ?_
 simp only[*,go_sem,seval]
 refine Ze h (fun _ h=>?_) fun _ h=>?_<;>try simp only[*,go_sem,seval]
 refine ZMH h fun _ C h=>Zd (Znd C) ?_
 simp only[*,go_sem,seval]
 refine Ze h (fun _ h=>?_) fun _ h=>?_<;>try simp only[*,go_sem,seval]
 refine ZMH h fun _ D h=>Zd (Zeq D) ?_
 simp only[*,go_sem,seval]
 refine Yo h (fun s st=>match s with | (b,o)=>IV [(0,.p false [.c (.sl 42 4 (A0 ZF a))]),(6,.p false [.n (.sl 45 2 (A0 Zl b))]),(7,.p false [.c (.bool o)])] [] st) [(false,6,4096)] [] (by decide) ?_ ?_
 simp only[*,go_sem,seval]
 rintro ⟨b,o⟩ ⟨sl,ob,n⟩ _ q _ h t
 simp only[go_sem,seval,Zc] at q
 obtain ⟨⟨_,_,_⟩,hn⟩:=q
 subst hn
 simp only[*,go_sem,seval]
 refine Ze h (fun _ h=>?_) fun _ h=>?_<;>try simp only[*,go_sem,seval]
 refine Zi h (fun i e st=>IV [(0,.p false [.c (.sl 42 4 (A0 ZF a))]),(6,.p false [.n (.sl 45 2 (A0 Zl e))]),(8,.p false [.n (.sl 45 2 (A0 Zl b))]),(9,.p false [.c (.int .i64 ((i:Nat):Int))])] [] st) [] [] (by decide) ?_ ?_ ?_
 simp only[*,go_sem,seval]
 rintro u E e ⟨sl,ob,n⟩ _ d v F h G
 simp only[go_sem,seval,Zc] at v
 obtain ⟨⟨H,_,_,_⟩,hn⟩:=v
 subst hn
 have I:=WF.slotL F H (j:=0) rfl
 have:=ZA d
 have:=ZC d
 have:=Zj (ZB d) I
 simp only[*,go_sem,seval]
 obtain ⟨_,J,h⟩:=Za h
 refine ZfP (ZeY J) ?_
 simp only[*,go_sem,seval]
 refine ZMH h fun f K h=>Zd (ZhS K) ?_
 simp only[*,go_sem,seval]
 refine Zi h (fun i g st=>IV [(0,.p false [.c (.sl 42 4 (A0 ZF a))]),(6,.p false [.n (.sl 45 2 (A0 Zl g))]),(8,.p false [.n (.sl 45 2 (A0 Zl b))]),(9,.p false [.c (.int .i64 ((u:Nat):Int))]),(10,.p false [.row 0]),(11,.p false [.c (.int .i64 ((i:Nat):Int))])] [.row 120 2 (A0 YK f) 2] st) [] [160] (by decide) ?_ ?_ ?_
 simp only[*,go_sem,seval]
 rintro L _ g ⟨sl,ob,n⟩ _ k w M h _
 simp only[go_sem,seval,Zc] at w
 obtain ⟨⟨_,_,_,_,_,_⟩,N,hn⟩:=w
 subst hn
 have O:=WF.rowL M N
 have:=ZA k
 have:=ZC k
 have:=Zj (ZB k) O
 simp only[*,go_sem,seval]
 refine Zi h (fun i l st=>IV [(0,.p false [.c (.sl 42 4 (A0 ZF a))]),(6,.p false [.n (.sl 45 2 (A0 Zl l))]),(8,.p false [.n (.sl 45 2 (A0 Zl b))]),(9,.p false [.c (.int .i64 ((u:Nat):Int))]),(10,.p false [.row 0]),(11,.p false [.c (.int .i64 ((L:Nat):Int))]),(12,.p false [.c (.int .i64 ((i:Nat):Int))])] [.row 120 2 (A0 YK f) 2] st) [] [0] (by decide) ?_ ?_ ?_
 simp only[*,go_sem,seval]
 rintro _ _ l ⟨sl,ob,n⟩ _ m x P h _
 simp only[go_sem,seval,Zc] at x
 obtain ⟨⟨Q,_,_,_,_,_,_⟩,_,hn⟩:=x
 subst hn
 have R:=WF.elL (WF.slotD P Q (j:=0) rfl) d (j:=3) rfl
 have:=ZA m
 have:=ZC m
 have:=Zj (ZB m) R
 simp only[*,go_sem,seval]
 refine ZMH h fun _ S h=>Zd (Zb8 S) ?_
 simp only[*,go_sem,seval]
 refine ZMH h fun _ T h=>Zd (Zdw T) ?_
 simp only[*,go_sem,seval]
 refine ⟨_,[(false,6,4096)],[0],(A1 h).symm,by decide,?_⟩
 simp only[*,go_sem,seval]
 rintro l ⟨sl,ob,n⟩ y _ h
 simp only[go_sem,seval,Zc] at y
 obtain ⟨⟨_,_,_,_,_,_,_⟩,_,hn⟩:=y
 subst hn
 have:=Zy (E.thn.length)
 simp only[*,go_sem,seval]
 refine ⟨_,[],[0],(A1 h).symm,by decide,?_⟩
 simp only[*,go_sem,seval]
 rintro g ⟨sl,ob,n⟩ z _ h
 simp only[go_sem,seval,Zc] at z
 obtain ⟨⟨_,_,_,_,_,_⟩,_,hn⟩:=z
 subst hn
 have:=Zy (f.length)
 simp only[*,go_sem,seval]
 refine Ze h (fun _ h=>?_) fun _ h=>?_<;>try simp only[*,go_sem,seval]
 replace h:=Zn h G
 replace h:=Zn h t
 cases h
 simp only[*,go_sem,seval]
 refine ⟨_,[],[],(A1 h).symm,by decide,?_⟩
 simp only[*,go_sem,seval]
 rintro e ⟨sl,ob,n⟩ A _ h
 simp only[go_sem,seval,Zc] at A
 obtain ⟨⟨_,_,_,_⟩,hn⟩:=A
 subst hn
 have:=Zy (a.length)
 simp only[*,go_sem,seval]
 refine ⟨_,[],[],(A1 h).symm,by decide,?_⟩
 simp only[*,go_sem,seval]
 replace h:=Zn h t
 iterate 3 (cases h;simp only[*,go_sem,seval])
end
section
set_option linter.unusedSimpArgs false
set_option linter.unusedVariables false
set_option maxRecDepth 1000000
set_option maxHeartbeats 4000000
theorem ZjG {code_0:(List Int)} {r:((List Zg) × (List Zb))} (h:Zau code_0=some r):Zk prog J0 12 [(false,[.sl 5 1 (A0 ZeK code_0)])] [(false,[(false,.sl 42 4 (A0 ZF r.1))]),(false,[(false,.sl 45 2 (A0 Zl r.2))])]:=by
 refine fnk func12 rfl ?_
 unfold Zau at h
 simp only[fnS,f12,Zm,go_sem,seval]
 obtain ⟨_,a,h⟩:=Za h
 refine ZCT (Zsi a) ?_
 simp only[*,go_sem,seval]
 obtain ⟨_,b,h⟩:=Za h
 refine QL (Zm1 b) ?_
 simp only[*,go_sem,seval]
 obtain ⟨_,c,h⟩:=Za h
 refine QL (ZoJ c) ?_
 cases h
 simp only[*,go_sem,seval]
theorem ZiC {rules_0:(List Zg)} {base_1:(List Zb)} {r:((List Zb) × Bool)} (h:ZbK rules_0 base_1=some r):Zk prog J0 13 [(false,[.sl 42 4 (A0 ZF rules_0)]),(false,[.sl 45 2 (A0 Zl base_1)])] [(false,[(false,.sl 45 2 (A0 Zl r.1))]),(false,[(false,.bool r.2)])]:=by
 refine fnk func13 rfl ?_
 unfold ZbK at h
 simp only[fnS,f13,Zm,go_sem,seval]
 refine ZMH h fun _ a h=>Zd (Zig a) ?_
 simp only[*,go_sem,seval]
 refine Ze h (fun _ h=>?_) fun _ h=>?_<;>try simp only[*,go_sem,seval]
 refine ZMH h fun _ b h=>Zd (ZmQ b) ?_
 iterate 2 (cases h;simp only[*,go_sem,seval])
theorem Zlw {d:(List Zg)} {e:(List Zb)} {r:((List Zb) × Zr × (List Xr) × Bool)} (h:Xy d e=some r):Zk prog J0 130 [(false,[.sl 42 4 (A0 ZF d)]),(false,[.sl 45 2 (A0 Zl e)])] [(false,[(false,.sl 45 2 (A0 Zl r.1))]),(true,[(false,.int .i64 r.2.1.nodes),(false,.sl 199 3 (A0 ZE r.2.1.reasons))]),(false,[(false,.any)]),(false,[(false,.bool r.2.2.2)])]:=by
 refine fnk func130 rfl ?_
 unfold Xy at h
 simp only[fnS,f130,Zm,go_sem,seval]
 refine ZMH h fun b I h=>Zd (Zit I) ?_
 simp only[*,go_sem,seval]
 refine Ze h (fun _ h=>?_) fun _ h=>?_<;>try simp only[*,go_sem,seval]
 refine Zi h (fun i s st=>match s with | (g,k)=>IV [(0,.p false [.c (.sl 42 4 (A0 ZF d))]),(1,.p false [.c (.sl 45 2 (A0 Zl e))]),(5,.bp 0 0),(8,.p false [.row 1]),(10,.bp 2 0),(11,.p false [.row 4]),(12,.p false [.c (.int .i64 ((i:Nat):Int))])] [.box 64 [.c (.int .i64 0),.nil 199 3],.row 45 2 (A0 Zl b.1) 2,.box 64 [.c (.int .i64 ((b.1.length:Nat):Int)),.row 3],.row 199 3 (A0 ZE g) 2,.row 208 3 (A0 Ze9 k) 2] st) [(true,240,1)] [16,96,240,352,272] (by decide) ?_ ?_ ?_
 simp only[*,go_sem,seval]
 rintro _ _ ⟨g,k⟩ ⟨sl,ob,n⟩ _ l z J h _
 simp only[go_sem,seval,Zc] at z
 obtain ⟨⟨_,K,_,_,_,_,_⟩,_,_,_,_,_,hn⟩:=z
 subst hn
 have L:=WF.slotL J K (j:=0) rfl
 have:=ZA l
 have:=ZC l
 have:=Zj (ZB l) L
 simp only[*,go_sem,seval]
 refine ZMH h fun _ M h=>Zd (Zb0 M) ?_
 obtain ⟨N,h⟩:=Zq h
 try simp only[Nat.reduceLeDiff] at N
 obtain ⟨O,h⟩:=Zq h
 try simp only[Nat.reduceLeDiff] at O
 simp only[*,go_sem,seval]
 refine ⟨_,[],[0,1,2,229,325],(A1 h).symm,by decide,?_⟩
 simp only[*,go_sem,seval]
 rintro ⟨g,k⟩ ⟨sl,ob,n⟩ A _ h
 simp only[go_sem,seval,Zc] at A
 obtain ⟨⟨_,_,_,_,_,_,_⟩,_,_,_,_,_,hn⟩:=A
 subst hn
 have:=Zy (e.length)
 simp only[*,go_sem,seval]
 refine Zi h (fun i s st=>match s with | (m,o)=>IV [(0,.p false [.c (.sl 42 4 (A0 ZF d))]),(5,.bp 0 0),(8,.p false [.row 1]),(10,.bp 2 0),(11,.p false [.row 4]),(13,.p false [.c (.int .i64 ((i:Nat):Int))])] [.box 64 [.c (.int .i64 0),.nil 199 3],.row 45 2 (A0 Zl b.1) 2,.box 64 [.c (.int .i64 ((b.1.length:Nat):Int)),.row 3],.row 199 3 (A0 ZE m) 2,.row 208 3 (A0 Ze9 o) 1] st) [(true,4,1)] [0,1,2,3,4] (by decide) ?_ ?_ ?_
 simp only[*,go_sem,seval]
 rintro B P ⟨m,o⟩ ⟨sl,ob,n⟩ _ f C Q h R
 simp only[go_sem,seval,Zc] at C
 obtain ⟨⟨S,_,_,_,_,_⟩,_,_,_,_,_,hn⟩:=C
 subst hn
 have T:=WF.slotL Q S (j:=0) rfl
 have:=ZA f
 have:=ZC f
 have:=Zj (ZB f) T
 simp only[*,go_sem,seval]
 obtain ⟨_,U,h⟩:=Za h
 refine ZfP (ZeY U) ?_
 simp only[*,go_sem,seval]
 refine ZMH h fun q V h=>Zd (ZhS V) ?_
 simp only[*,go_sem,seval]
 refine Zi h (fun i s st=>match s with | (t,u)=>IV [(0,.p false [.c (.sl 42 4 (A0 ZF d))]),(5,.bp 0 0),(8,.p false [.row 1]),(10,.bp 2 0),(11,.p false [.row 4]),(13,.p false [.c (.int .i64 ((B:Nat):Int))]),(14,.p false [.row 5]),(15,.p false [.c (.int .i64 ((i:Nat):Int))])] [.box 64 [.c (.int .i64 0),.nil 199 3],.row 45 2 (A0 Zl b.1) 2,.box 64 [.c (.int .i64 ((b.1.length:Nat):Int)),.row 3],.row 199 3 (A0 ZE t) 2,.row 208 3 (A0 Ze9 u) 1,.row 120 2 (A0 YK q) 2] st) [] [0,1,2,3,4,165] (by decide) ?_ ?_ ?_
 simp only[*,go_sem,seval]
 rintro W _ ⟨t,u⟩ ⟨sl,ob,n⟩ _ v D X h Y
 simp only[go_sem,seval,Zc] at D
 obtain ⟨⟨_,_,_,_,_,_,_,_⟩,_,_,_,_,_,Z,hn⟩:=D
 subst hn
 have aa:=WF.rowL X Z
 have:=ZA v
 have:=ZC v
 have:=Zj (ZB v) aa
 simp only[*,go_sem,seval]
 refine Zi h (fun i s st=>match s with | (w,x)=>IV [(0,.p false [.c (.sl 42 4 (A0 ZF d))]),(5,.bp 0 0),(8,.p false [.row 1]),(10,.bp 2 0),(11,.p false [.row 4]),(13,.p false [.c (.int .i64 ((B:Nat):Int))]),(14,.p false [.row 5]),(15,.p false [.c (.int .i64 ((W:Nat):Int))]),(16,.p false [.c (.int .i64 ((i:Nat):Int))])] [.box 64 [.c (.int .i64 0),.nil 199 3],.row 45 2 (A0 Zl b.1) 2,.box 64 [.c (.int .i64 ((b.1.length:Nat):Int)),.row 3],.row 199 3 (A0 ZE w) 2,.row 208 3 (A0 Ze9 x) 1,.row 120 2 (A0 YK q) 2] st) [] [0,1,2,3,4,5] (by decide) ?_ ?_ ?_
 simp only[*,go_sem,seval]
 rintro _ _ ⟨w,x⟩ ⟨sl,ob,n⟩ _ y E ab h ac
 simp only[go_sem,seval,Zc] at E
 obtain ⟨⟨ad,_,_,_,_,_,_,_,_⟩,_,_,_,_,_,_,hn⟩:=E
 subst hn
 have ae:=WF.elL (WF.slotD ab ad (j:=0) rfl) f (j:=3) rfl
 have:=ZA y
 have:=ZC y
 have:=Zj (ZB y) ae
 simp only[*,go_sem,seval]
 refine ZMH h fun _ af h=>Zd (ZkZ af) ?_
 simp only[*,go_sem,seval]
 refine ZMH h fun _ ag h=>Zd (Zo7 ag) ?_
 simp only[*,go_sem,seval]
 refine Ze h (fun _ h=>?_) fun _ h=>?_<;>try simp only[*,go_sem,seval]
 refine ⟨_,[],[0,1,2,3,4,5],(A1 h).symm,by decide,?_⟩
 simp only[*,go_sem,seval]
 refine Ze h (fun _ h=>?_) fun _ h=>?_<;>try simp only[*,go_sem,seval]
 replace h:=Zn h ac
 replace h:=Zn h Y
 replace h:=Zn h R
 cases h
 simp only[*,go_sem,seval]
 obtain ⟨ah,h⟩:=Zq h
 try simp only[Nat.reduceLeDiff] at ah
 obtain ⟨ai,h⟩:=Zq h
 try simp only[Nat.reduceLeDiff] at ai
 simp only[*,go_sem,seval]
 refine ⟨_,[],[0,1,2,550,790,5],(A1 h).symm,by decide,?_⟩
 simp only[*,go_sem,seval]
 rintro ⟨w,x⟩ ⟨sl,ob,n⟩ F _ h
 simp only[go_sem,seval,Zc] at F
 obtain ⟨⟨_,_,_,_,_,_,_,_,_⟩,_,_,_,_,_,_,hn⟩:=F
 subst hn
 have:=Zy (P.thn.length)
 simp only[*,go_sem,seval]
 refine ⟨_,[],[0,1,2,3,4,5],(A1 h).symm,by decide,?_⟩
 simp only[*,go_sem,seval]
 rintro ⟨t,u⟩ ⟨sl,ob,n⟩ G _ h
 simp only[go_sem,seval,Zc] at G
 obtain ⟨⟨_,_,_,_,_,_,_,_⟩,_,_,_,_,_,_,hn⟩:=G
 subst hn
 have:=Zy (q.length)
 simp only[*,go_sem,seval]
 refine ⟨_,[],[0,1,2,3,4],(A1 h).symm,by decide,?_⟩
 simp only[*,go_sem,seval]
 rintro ⟨m,o⟩ ⟨sl,ob,n⟩ H _ h
 simp only[go_sem,seval,Zc] at H
 obtain ⟨⟨_,_,_,_,_,_⟩,_,_,_,_,_,hn⟩:=H
 subst hn
 have:=Zy (d.length)
 iterate 2 (cases h;simp only[*,go_sem,seval])
end
section
set_option linter.unusedSimpArgs false
set_option linter.unusedVariables false
set_option maxRecDepth 1000000
set_option maxHeartbeats 4000000
theorem Zir {rules_0:(List Zg)} {base_1:(List Zb)} {r:((List Zb) × Zr × Bool)} (h:Qi rules_0 base_1=some r):Zk prog J0 63 [(false,[.sl 42 4 (A0 ZF rules_0)]),(false,[.sl 45 2 (A0 Zl base_1)])] [(false,[(false,.sl 45 2 (A0 Zl r.1))]),(true,[(false,.int .i64 r.2.1.nodes),(false,.sl 199 3 (A0 ZE r.2.1.reasons))]),(false,[(false,.bool r.2.2)])]:=by
 refine fnk func63 rfl ?_
 unfold Qi at h
 simp only[fnS,f63,Zm,go_sem,seval]
 refine ZMH h fun _ a h=>Zd (Zlw a) ?_
 simp only[*,go_sem,seval]
 refine Ze h (fun _ h=>?_) fun _ h=>?_<;>try simp only[*,go_sem,seval]
 iterate 2 (cases h;simp only[*,go_sem,seval])
end
section
set_option linter.unusedSimpArgs false
set_option linter.unusedVariables false
set_option maxRecDepth 1000000
set_option maxHeartbeats 4000000
theorem Zpb {rules_0:(List Zg)} {base_1:(List Zb)} {r:((List Zb) × Bool)} (h:Ze1 rules_0 base_1=some r):Zk prog J0 14 [(false,[.sl 42 4 (A0 ZF rules_0)]),(false,[.sl 45 2 (A0 Zl base_1)])] [(false,[(false,.sl 45 2 (A0 Zl r.1))]),(false,[(false,.bool r.2)])]:=by
 refine fnk func14 rfl ?_
 unfold Ze1 at h
 simp only[fnS,f14,Zm,go_sem,seval]
 refine ZMH h fun _ a h=>Zd (Zir a) ?_
 simp only[*,go_sem,seval]
 refine Ze h (fun _ h=>?_) fun _ h=>?_<;>try simp only[*,go_sem,seval]
 refine ZMH h fun _ b h=>Zd (Zr1 b) ?_
 iterate 2 (cases h;simp only[*,go_sem,seval])
end
section
set_option linter.unusedSimpArgs false
set_option linter.unusedVariables false
set_option maxRecDepth 1000000
set_option maxHeartbeats 4000000
theorem ZMV {code_0:(List Int)} {r:Bool} (h:ZMM code_0=some r):Zk prog J0 4 [(false,[.sl 5 1 (A0 ZeK code_0)])] [(false,[(false,.bool r)])]:=by
 refine fnk func4 rfl ?_
 unfold ZMM at h
 have a:Z9 ⟨#[111,110]⟩=true:=by decide
 have b:Z9 ⟨#[112]⟩=true:=by decide
 have c:Z9 ⟨#[113]⟩=true:=by decide
 have d:Z9 ⟨#[115]⟩=true:=by decide
 have e:Z9 ⟨#[122]⟩=true:=by decide
 have f:Z9 ⟨#[98,97,100]⟩=true:=by decide
 have g:¬((6:Int)=0):=by decide
 simp only[fnS,f4,Zm,go_sem,seval,a,b,c,d,e,f,g]
 refine ZMH h fun _ i h=>Zd (ZvY i) ?_
 simp only[*,go_sem,seval]
 refine Ze h (fun _ h=>?_) fun _ h=>?_<;>try simp only[*,go_sem,seval]
 cases h
 simp only[*,go_sem,seval]
 refine ZMH h fun _ j h=>Zd (ZjG j) ?_
 simp only[*,go_sem,seval]
 refine ZMH h fun k l h=>Zd (ZFM l) ?_
 obtain ⟨m,h⟩:=Zq h
 try simp only[seval] at m
 obtain ⟨o,p,h⟩:=Za h
 have q:(A0 Zx [(⟨#[111,110]⟩),(⟨#[112]⟩),(⟨#[113]⟩),(⟨#[115]⟩),(⟨#[122]⟩),(⟨#[98,97,100]⟩)])[(A2 (Int.tmod k 6))]?=some (Zx o):=by rw [A3,p];rfl
 simp only[A4,A5,ZoT] at q
 simp only[*,go_sem,seval]
 refine ZMH h fun _ t h=>Zd (Zpb t) ?_
 simp only[*,go_sem,seval]
 refine ZMH h fun _ u h=>Zd (ZMS u) ?_
 simp only[*,go_sem,seval]
 refine Ze h (fun _ h=>?_) fun _ h=>?_<;>try simp only[*,go_sem,seval]
 refine ZMH h fun _ v h=>Zd (ZiC v) ?_
 simp only[*,go_sem,seval]
 iterate 2 refine Ze h (fun _ h=>?_) fun _ h=>?_<;>try simp only[*,go_sem,seval]
 refine ZMH h fun _ w h=>Zd (ZGJ w) ?_
 simp only[*,go_sem,seval]
 refine ZMH h fun _ x h=>Zd (ZGJ x) ?_
 simp only[*,go_sem,seval]
 refine ZMH h fun _ y h=>Zd (ZFw y) ?_
 iterate 4 (cases h;simp only[*,go_sem,seval])
end
section
open Go.RowKit
structure Enc {α:Type} (c:ZbC α) (f:α→List CT):Prop where
 to:∀{w:World} {cs:List Value} {x:α} {L:List Nat},c.rep w cs x L→RCs w (f x) cs L
 of:∀{w:World} {cs:List Value} {x:α} {L:List Nat},RCs w (f x) cs L→c.rep w cs x L
section
variable {α:Type} {c:ZbC α} {f:α→List CT} {w:World}
theorem Enc.reps (h:Enc c f):∀{ds:List α} {xs:List Value} {L:List Nat},c.reps w xs ds L→REs w c.size (ds.map f) xs L
 | [],_,_,h1=>h1
 | _::_,_,_,⟨c1,c2,L1,L2,h1,h2,h3,h4⟩=>⟨c1,c2,L1,L2,h1,h2,⟨h.to h3,c.len h3⟩,h.reps h4⟩
theorem Enc.reps_of (h:Enc c f):∀{ds:List α} {xs:List Value} {L:List Nat},REs w c.size (ds.map f) xs L→c.reps w xs ds L
 | [],_,_,h1=>h1
 | _::_,_,_,⟨c1,c2,L1,L2,h1,h2,h3,h4⟩=>⟨c1,c2,L1,L2,h1,h2,h.of h3.1,h.reps_of h4⟩
theorem Enc.sl (h:Enc c f) (e:Nat) {v:Value} {ds:List α} {L:List Nat}:(ZlE c).rep w [v] ds L↔RC w (.sl e c.size (ds.map f)) v L:=by
 constructor
 ·rintro ⟨A,cap,hv,h1,h2,xs,L0,L1,hL,h3,h4⟩
  obtain rfl:v=_:=by simpa using hv
  exact ⟨A,cap,xs,L0,L1,by simp,by simpa using h1,h2,hL,c.pos,by simpa using h3,h.reps h4⟩
 ·rintro ⟨A,cap,xs,L0,L1,hv,h1,h2,hL,h0,h3,h4⟩
  exact ⟨A,cap,by simpa using hv,by simpa using h1,h2,xs,L0,L1,hL,by simpa using h3,h.reps_of h4⟩
theorem RCs.solo {x:CT} {v:Value} {L:List Nat} (h:RC w x v L):RCs w [x] [v] L:=⟨v,[],L,[],rfl,by simp,h,rfl,rfl⟩
end
theorem Zxy:Enc Zvd ZeK where
 to:=fun ⟨h1,h2⟩=>by subst h1;subst h2;exact RCs.solo ⟨rfl,rfl⟩
 of:=fun ⟨v,cs',L1,L2,h1,h2,h3,h4,h5⟩=>by
  obtain ⟨rfl,rfl⟩:=h3
  subst h4;subst h5;exact ⟨h1,h2⟩
theorem encStr:Enc ZEr Zx where
 to:=fun ⟨h1,h2,h3⟩=>by subst h1;subst h2;exact RCs.solo ⟨rfl,rfl,h3⟩
 of:=fun ⟨v,cs',L1,L2,h1,h2,h3,h4,h5⟩=>by
  obtain ⟨rfl,rfl,t⟩:=h3
  subst h4;subst h5;exact ⟨h1,h2,t⟩
def Zz7 (w:World):Bool × List CT→Value→Prop:=ZkB w fun _=>False
theorem ZCc {α:Type} {c:ZbC α} {f:α→List CT} (h:Enc c f) (e:Nat) {w:World} {v:Value} {ds:List α} {L:List Nat} (hr:(ZlE c).rep w [v] ds L):Zz7 w (false,[.sl e c.size (ds.map f)]) v:=.inr ⟨rfl,_,L,rfl,(h.sl e).1 hr,fun _ _ h=>h⟩
section
variable {w w':World} {v:Value} {e:Ending}
theorem Zxc {B:Nat} {n:Nat→Prop} {x:RT} (h:ZjD w B n [x] v):∃F,OP w B n x v F∧Own w B F:=by
 obtain ⟨vs,F,⟨u,vs',F1,F2,rfl,rfl,h1,rfl,rfl⟩,h2,rfl⟩:=h
 rw [List.append_nil] at h2
 exact ⟨F1,by simpa using h1,h2⟩
theorem Zvp {b:Bool} {B:Nat} {m:Nat→Prop} (hr:ZjD w B m [(false,[(false,.bool b)])] v):v=.bool b:=by
 obtain ⟨F,h1,h2⟩:=Zxc hr
 rcases h1 with ⟨h1,_⟩ | ⟨_,ct,h1,h3⟩
 ·simp at h1
 ·obtain rfl:_=ct:=by simpa using h1
  exact h3.1.1
end
section
variable {P:Program} {J:World→Prop} {f:FuncId} {args:List (Bool × List CT)} {res:List RT}
theorem Zk.calls (h:Zk P J f args res) {w:World} {vs:List Value} (hj:J w) (ha:ZL (Zz7 w) args vs):Calls P f vs.toArray w fun e w'=>∃v n,e=.returned v∧ZjD w' w.heap.size n res v∧Below w.heap.size w w':=
 (h.2 w (fun _=>False) vs hj (fun _ h=>h.elim) ha).mono fun _ _ ⟨v,n,h1,h2,_,h3⟩=>⟨v,n,h1,h2,h3⟩
theorem Zk.givesB {b:Bool} (h:Zk P J f args [(false,[(false,.bool b)])]) {w:World} {vs:List Value} (hj:J w) (ha:ZL (Zz7 w) args vs):Calls P f vs.toArray w fun e w'=>e=.returned (.bool b)∧Below w.heap.size w w':=
 (h.calls hj ha).mono fun _ _ ⟨v,_,h1,h2,h3⟩=>⟨by rw [h1,Zvp h2],h3⟩
end
end
section
open Go.RowKit Go.Deep
def ZvE {α:Type} (P:Program) (t:TypeId) (c:ZbC α) (wf:α→Prop):Prop:=
 ∀{H:Type} {enc:TypeId × Value→H} {w:World} {base:Nat} {spare:Nat→Bool} {held:Bool} {fuel:Nat} {cs:List Value} {x:DataW H × List MemPlace},
  DataW.trod enc P w base spare held fuel t cs=some x→∃d L,c.rep w cs d L∧wf d
theorem ZrU {P:Program} {t:TypeId} (ht:P.underlying t=some (.int .u8)):ZvE P t Zvd (fun n=>0≤n∧n≤255):=by
 intro H enc w base spare held fuel cs x h
 obtain ⟨n,rfl,_,hw⟩:=DataW.trod_int ht h
 refine ⟨n,[],⟨rfl,rfl⟩,?_⟩
 simp [Lit.wf,IntKind.min,IntKind.max,IntKind.signed,IntKind.bits] at hw
 exact ⟨by omega,by omega⟩
theorem ZrJ {α:Type} {c:ZbC α} {wf:α→Prop} {P:Program} {t e:TypeId} (ht:P.underlying t=some (.slice e)) (hc:P.cellsOf e=c.size) (ho:ZvE P e c wf):ZvE P t (ZlE c) (fun ds=>∀d∈ds,wf d):=by
 intro H enc w base spare held fuel cs x h
 rcases open_slice ht h with ⟨rfl,_⟩ | ⟨a,len,cap,m,n,D,Pl,rfl,hb,hl,hm,hmm,_,hx⟩
 ·exact ⟨[],[],⟨none,0,rfl,Nat.le_refl _,Nat.zero_le _,Sli.nil _ _⟩,by simp⟩
 ·have hlm:len≤m:=by rw [hmm];split<;>omega
  have key:∀q,q≤len→∃(xs:List Value) (ds:List α) (L:List Nat),ds.length=q∧(∀j u,xs[j]?=some u→w.cell? (a.add j)=some u)∧c.reps w xs ds L∧∀d∈ds,wf d:=by
   intro q
   induction q with
   | zero=>exact fun _=>⟨[],[],[],rfl,by simp,⟨rfl,rfl⟩,by simp⟩
   | succ q ih=>
    intro hq
    obtain ⟨xs,ds,L,hd,hcell,hr,hwf⟩:=ih (by omega)
    obtain ⟨cs',h1,h2⟩:=hx q (by omega)
    obtain ⟨d,Lq,hrep,hwd⟩:=ho h2
    obtain ⟨_,hlen,hat⟩:=World.cells?_some h1
    refine ⟨xs++cs',ds++[d],L++Lq,by simp [hd],fun j u hu=>?_,ZgC hr (Zj5 hrep),?_⟩
    ·have hxl:xs.length=q * c.size:=by rw [ZgQ hr,hd]
     rw [List.getElem?_append] at hu
     split at hu
     ·exact hcell j u hu
     ·rename_i hj
      have hj2:=(List.getElem?_eq_some_iff.1 hu).1
      have:=hat (j - xs.length) (by omega)
      rw [←hu,←this,Go.Deep.add_add,hc,←hxl]
      congr 2
      omega
    ·intro y hy
     rcases List.mem_append.1 hy with hy | hy
     ·exact hwf y hy
     ·simp at hy;subst hy;exact hwd
  obtain ⟨xs,ds,L,hd,hcell,hr,hwf⟩:=key len (Nat.le_refl _)
  have hxl:=ZgQ hr
  rcases Nat.eq_zero_or_pos len with h0 | h0
  ·have:ds=[]:=List.eq_nil_of_length_eq_zero (by omega)
   subst this
   refine ⟨[],[],⟨some a,cap,by simp at hd;rw [←hd];rfl,by simp,hm,Sli.nil _ _⟩,by simp⟩
  ·obtain ⟨b,off,sp⟩:=a
   have hp:0<xs.length:=by rw [hxl,hd];exact Nat.mul_pos h0 c.pos
   have hsp:sp=none:=by
    have h1:=hcell 0 _ (List.getElem?_eq_getElem hp)
    have e:(⟨b,off,sp⟩:Addr).add 0=⟨b,off,sp⟩:=by simp [Addr.add]
    rw [e] at h1
    cases sp with
    | none=>rfl
    | some q=>
     simp only[World.cell?] at h1
     split at h1<;>simp at h1
   subst hsp
   refine ⟨ds,[b]++L,⟨some ⟨b,off,none⟩,cap,by rw [hd],by omega,hm,xs,[b],L,rfl,⟨by rw [hxl],.inr ⟨by omega,b,off,rfl,rfl,fun j u hu=>?_⟩⟩,hr⟩,hwf⟩
   have:=hcell j u hu
   rwa [Zdn] at this
end
section
open Go.RowKit
theorem ZMU (w:World) (hJ:J0 w) (A:Option Addr) (c:Nat) (code:List Int) (L:List Nat) (h:(ZlE Zvd).rep w [.slice A code.length c] code L) (hb:∀x∈code,0≤x∧x≤255):
  Calls prog 4 #[.slice A code.length c] w (fun e w'=>e=.returned (.bool true)∧Below w.heap.size w w'):=
 Zk.givesB (ZMV (ZMT code hb)) hJ (vs:=[_]) ⟨ZCc Zxy _ h,trivial⟩
end
end Go.Proofs.YtfehfkfdfmcgfaaGreatDoor
