/- Texts of this proof, joined: Dp19, Dp20, Dp21, BMask, Dp22, Dp23, Dp24, Open, LawFnAsked. What each holds is said at its theorems. -/
import Derived.Test.YtekbmedphidcgaaGreatDoorAskedQ7
import Derived.Test.YtekbmedphidcgaaGreatDoorAskedQ8
import Derived.Test.YtekbmedphidcgaaGreatDoorAskedQ6
import Derived.Test.YtekbmedphidcgaaGreatDoorAskedQ1
import Derived.Deep.Slices
import Derived.ChangeArms
import Derived.ProofKit
import Derived.Test.YtekbmedphidcgaaGreatDoorAskedQ4
set_option linter.unusedSimpArgs false
set_option linter.unusedVariables false
open Bool renaming and_eq_true→A4,or_eq_true→A5
open List renaming map→A0,all_eq_true→A6
open Nat renaming testBit_or→A7
open Option.some renaming inj→A3
open Go.Proofs.Tryz
namespace Go.Proofs.YtekbmedphidcgaaGreatDoor
section
set_option linter.unusedSimpArgs false
set_option linter.unusedVariables false
set_option maxRecDepth 1000000
set_option maxHeartbeats 4000000
theorem Zn1 {rules_0:(List Zf)} {base_1:(List Zd)} {r:((List Zd) × Bool)} (h:Zbg rules_0 base_1=some r):Zl prog J0 56 [(false,[.sl 104 4 (A0 ZG rules_0)]),(false,[.sl 71 2 (A0 Zq base_1)])] [(false,[(false,.sl 71 2 (A0 Zq r.1))]),(false,[(false,.bool r.2)])]:=by
 refine fnk func56 rfl ?_
 unfold Zbg at h
 simp only[fnS,f56,Zm,go_sem,seval]
 refine Za h fun _ a h=>Zb (Zdb a) ?_
 simp only[*,go_sem,seval]
 refine Ze h (fun _ h=>?_) fun _ h=>?_<;>try simp only[*,go_sem,seval]
 refine Za h fun _ b h=>Zb (ZlQ b) ?_
 iterate 2 (cases h;simp only[*,go_sem,seval])
theorem ZMb {c_0:ZF} {r:(Zf × ZF)} (h:ZLe c_0=some r):ZaU prog J0 JF0 260 (.box 184 (Za7 c_0)) [] [(true,[(false,.str r.1.name),(false,.int .i64 r.1.priority),(false,.sl 60 5 (A0 ZK r.1.cond)),(false,.sl 166 3 (A0 ZD r.1.thn))])] (.box 184 (Za7 r.2)):=by
 refine fnh func260 rfl ?_
 unfold ZLe at h
 simp only[fnH,f260,ZcO,ZcW,Y9,go_sem,seval]
 obtain ⟨_,a,h⟩:=ZJ h
 refine QC (ZLB a) ?_
 simp only[*,go_sem,seval]
 refine Ze h (fun _ h=>?_) fun _ h=>?_<;>try simp only[*,go_sem,seval]
 obtain ⟨_,b,h⟩:=ZJ h
 refine QC (ZMv b) ?_
 cases h
 simp only[*,go_sem,seval]
 obtain ⟨_,c,h⟩:=ZJ h
 refine QC (ZK8 c) ?_
 cases h
 simp only[*,go_sem,seval]
theorem ZjG {d:(List Zf)} {e:(List Zd)} {r:((List Zd) × Zu × (List Xd) × Bool)} (h:Xl d e=some r):Zl prog J0 96 [(false,[.sl 104 4 (A0 ZG d)]),(false,[.sl 71 2 (A0 Zq e)])] [(false,[(false,.sl 71 2 (A0 Zq r.1))]),(true,[(false,.int .i64 r.2.1.nodes),(false,.sl 144 3 (A0 ZL r.2.1.reasons))]),(false,[(false,.any)]),(false,[(false,.bool r.2.2.2)])]:=by
 refine fnk func96 rfl ?_
 unfold Xl at h
 simp only[fnS,f96,Zm,go_sem,seval]
 refine Za h fun b I h=>Zb (Zg0 I) ?_
 simp only[*,go_sem,seval]
 refine Ze h (fun _ h=>?_) fun _ h=>?_<;>try simp only[*,go_sem,seval]
 refine Zh h (fun i s st=>match s with | (g,k)=>IV [(0,.p false [.c (.sl 104 4 (A0 ZG d))]),(1,.p false [.c (.sl 71 2 (A0 Zq e))]),(5,.bp 0 0),(8,.p false [.row 1]),(10,.bp 2 0),(11,.p false [.row 4]),(12,.p false [.c (.int .i64 ((i:Nat):Int))])] [.box 91 [.c (.int .i64 0),.nil 144 3],.row 71 2 (A0 Zq b.1) 2,.box 91 [.c (.int .i64 ((b.1.length:Nat):Int)),.row 3],.row 144 3 (A0 ZL g) 2,.row 146 3 (A0 Zd3 k) 2] st) [(true,240,1)] [16,96,240,352,272] (by decide) ?_ ?_ ?_
 simp only[*,go_sem,seval]
 rintro _ _ ⟨g,k⟩ ⟨sl,ob,n⟩ _ l z J h _
 simp only[go_sem,seval,Zc] at z
 obtain ⟨⟨_,K,_,_,_,_,_⟩,_,_,_,_,_,hn⟩:=z
 subst hn
 have L:=WF.slotL J K (j:=0) rfl
 have:=ZB l
 have:=ZC l
 have:=Zj (ZA l) L
 simp only[*,go_sem,seval]
 refine Za h fun _ M h=>Zb (ZbJ M) ?_
 obtain ⟨N,h⟩:=Zs h
 try simp only[Nat.reduceLeDiff] at N
 obtain ⟨O,h⟩:=Zs h
 try simp only[Nat.reduceLeDiff] at O
 simp only[*,go_sem,seval]
 refine ⟨_,[],[0,1,2,229,325],(A3 h).symm,by decide,?_⟩
 simp only[*,go_sem,seval]
 rintro ⟨g,k⟩ ⟨sl,ob,n⟩ A _ h
 simp only[go_sem,seval,Zc] at A
 obtain ⟨⟨_,_,_,_,_,_,_⟩,_,_,_,_,_,hn⟩:=A
 subst hn
 have:=Zz (e.length)
 simp only[*,go_sem,seval]
 refine Zh h (fun i s st=>match s with | (m,o)=>IV [(0,.p false [.c (.sl 104 4 (A0 ZG d))]),(5,.bp 0 0),(8,.p false [.row 1]),(10,.bp 2 0),(11,.p false [.row 4]),(13,.p false [.c (.int .i64 ((i:Nat):Int))])] [.box 91 [.c (.int .i64 0),.nil 144 3],.row 71 2 (A0 Zq b.1) 2,.box 91 [.c (.int .i64 ((b.1.length:Nat):Int)),.row 3],.row 144 3 (A0 ZL m) 2,.row 146 3 (A0 Zd3 o) 1] st) [(true,4,1)] [0,1,2,3,4] (by decide) ?_ ?_ ?_
 simp only[*,go_sem,seval]
 rintro B P ⟨m,o⟩ ⟨sl,ob,n⟩ _ f C Q h R
 simp only[go_sem,seval,Zc] at C
 obtain ⟨⟨S,_,_,_,_,_⟩,_,_,_,_,_,hn⟩:=C
 subst hn
 have T:=WF.slotL Q S (j:=0) rfl
 have:=ZB f
 have:=ZC f
 have:=Zj (ZA f) T
 simp only[*,go_sem,seval]
 obtain ⟨_,U,h⟩:=ZJ h
 refine ZkJ (Zee U) ?_
 simp only[*,go_sem,seval]
 refine Za h fun q V h=>Zb (ZgQ V) ?_
 simp only[*,go_sem,seval]
 refine Zh h (fun i s st=>match s with | (t,u)=>IV [(0,.p false [.c (.sl 104 4 (A0 ZG d))]),(5,.bp 0 0),(8,.p false [.row 1]),(10,.bp 2 0),(11,.p false [.row 4]),(13,.p false [.c (.int .i64 ((B:Nat):Int))]),(14,.p false [.row 5]),(15,.p false [.c (.int .i64 ((i:Nat):Int))])] [.box 91 [.c (.int .i64 0),.nil 144 3],.row 71 2 (A0 Zq b.1) 2,.box 91 [.c (.int .i64 ((b.1.length:Nat):Int)),.row 3],.row 144 3 (A0 ZL t) 2,.row 146 3 (A0 Zd3 u) 1,.row 118 2 (A0 YE q) 2] st) [] [0,1,2,3,4,165] (by decide) ?_ ?_ ?_
 simp only[*,go_sem,seval]
 rintro W _ ⟨t,u⟩ ⟨sl,ob,n⟩ _ v D X h Y
 simp only[go_sem,seval,Zc] at D
 obtain ⟨⟨_,_,_,_,_,_,_,_⟩,_,_,_,_,_,Z,hn⟩:=D
 subst hn
 have aa:=WF.rowL X Z
 have:=ZB v
 have:=ZC v
 have:=Zj (ZA v) aa
 simp only[*,go_sem,seval]
 refine Zh h (fun i s st=>match s with | (w,x)=>IV [(0,.p false [.c (.sl 104 4 (A0 ZG d))]),(5,.bp 0 0),(8,.p false [.row 1]),(10,.bp 2 0),(11,.p false [.row 4]),(13,.p false [.c (.int .i64 ((B:Nat):Int))]),(14,.p false [.row 5]),(15,.p false [.c (.int .i64 ((W:Nat):Int))]),(16,.p false [.c (.int .i64 ((i:Nat):Int))])] [.box 91 [.c (.int .i64 0),.nil 144 3],.row 71 2 (A0 Zq b.1) 2,.box 91 [.c (.int .i64 ((b.1.length:Nat):Int)),.row 3],.row 144 3 (A0 ZL w) 2,.row 146 3 (A0 Zd3 x) 1,.row 118 2 (A0 YE q) 2] st) [] [0,1,2,3,4,5] (by decide) ?_ ?_ ?_
 simp only[*,go_sem,seval]
 rintro _ _ ⟨w,x⟩ ⟨sl,ob,n⟩ _ y E ab h ac
 simp only[go_sem,seval,Zc] at E
 obtain ⟨⟨ad,_,_,_,_,_,_,_,_⟩,_,_,_,_,_,_,hn⟩:=E
 subst hn
 have ae:=WF.elL (WF.slotD ab ad (j:=0) rfl) f (j:=3) rfl
 have:=ZB y
 have:=ZC y
 have:=Zj (ZA y) ae
 simp only[*,go_sem,seval]
 refine Za h fun _ af h=>Zb (ZjL af) ?_
 simp only[*,go_sem,seval]
 refine Za h fun _ ag h=>Zb (ZnD ag) ?_
 simp only[*,go_sem,seval]
 refine Ze h (fun _ h=>?_) fun _ h=>?_<;>try simp only[*,go_sem,seval]
 refine ⟨_,[],[0,1,2,3,4,5],(A3 h).symm,by decide,?_⟩
 simp only[*,go_sem,seval]
 refine Ze h (fun _ h=>?_) fun _ h=>?_<;>try simp only[*,go_sem,seval]
 replace h:=Zo h ac
 replace h:=Zo h Y
 replace h:=Zo h R
 cases h
 simp only[*,go_sem,seval]
 obtain ⟨ah,h⟩:=Zs h
 try simp only[Nat.reduceLeDiff] at ah
 obtain ⟨ai,h⟩:=Zs h
 try simp only[Nat.reduceLeDiff] at ai
 simp only[*,go_sem,seval]
 refine ⟨_,[],[0,1,2,550,790,5],(A3 h).symm,by decide,?_⟩
 simp only[*,go_sem,seval]
 rintro ⟨w,x⟩ ⟨sl,ob,n⟩ F _ h
 simp only[go_sem,seval,Zc] at F
 obtain ⟨⟨_,_,_,_,_,_,_,_,_⟩,_,_,_,_,_,_,hn⟩:=F
 subst hn
 have:=Zz (P.thn.length)
 simp only[*,go_sem,seval]
 refine ⟨_,[],[0,1,2,3,4,5],(A3 h).symm,by decide,?_⟩
 simp only[*,go_sem,seval]
 rintro ⟨t,u⟩ ⟨sl,ob,n⟩ G _ h
 simp only[go_sem,seval,Zc] at G
 obtain ⟨⟨_,_,_,_,_,_,_,_⟩,_,_,_,_,_,_,hn⟩:=G
 subst hn
 have:=Zz (q.length)
 simp only[*,go_sem,seval]
 refine ⟨_,[],[0,1,2,3,4],(A3 h).symm,by decide,?_⟩
 simp only[*,go_sem,seval]
 rintro ⟨m,o⟩ ⟨sl,ob,n⟩ H _ h
 simp only[go_sem,seval,Zc] at H
 obtain ⟨⟨_,_,_,_,_,_⟩,_,_,_,_,_,hn⟩:=H
 subst hn
 have:=Zz (d.length)
 iterate 2 (cases h;simp only[*,go_sem,seval])
end
section
set_option linter.unusedSimpArgs false
set_option linter.unusedVariables false
set_option maxRecDepth 1000000
set_option maxHeartbeats 4000000
theorem ZLl {rules_0:(List Zf)} {base_1:(List Zd)} {l_2:(List Zr)} {r:((List (List Zp)) × Bool)} (h:ZKL rules_0 base_1 l_2=some r):Zl prog J0 24 [(false,[.sl 104 4 (A0 ZG rules_0)]),(false,[.sl 71 2 (A0 Zq base_1)]),(false,[.sl 60 5 (A0 ZK l_2)])] [(false,[(true,.sl 61 1 (A0 Zpr r.1))]),(false,[(false,.bool r.2)])]:=by
 refine fnk func24 rfl ?_
 unfold ZKL at h
 simp only[fnS,f24,Zm,go_sem,seval]
 refine Za h fun _ q h=>Zb (Zn1 q) ?_
 simp only[*,go_sem,seval]
 refine Ze h (fun _ h=>?_) fun _ h=>?_<;>try simp only[*,go_sem,seval]
 refine Za h fun _ t h=>Zb (ZMe t) ?_
 simp only[*,go_sem,seval]
 refine Ze h (fun _ h=>?_) fun _ h=>?_<;>try simp only[*,go_sem,seval]
 obtain ⟨b,u,h⟩:=ZJ h
 refine ZkJ (ZgT u) ?_
 simp only[*,go_sem,seval]
 refine Zh h (fun i a st=>IV [(10,.p false [.row 0]),(31,.p false [.c (.sl 118 2 (A0 YE b))]),(32,.p false [.c (.int .i64 ((b.length:Nat):Int))]),(33,.p false [.c (.int .i64 ((i:Nat):Int))])] [.row 61 1 (A0 Zpr a) 1] st) [(false,10,0),(true,368,1)] [368] (by decide) ?_ ?_ ?_
 simp only[*,go_sem,seval]
 rintro v g a ⟨sl,ob,n⟩ _ d k w h _
 simp only[go_sem,seval,Zc] at k
 obtain ⟨⟨_,x,_,_⟩,_,hn⟩:=k
 subst hn
 have y:=WF.slotL w x (j:=0) rfl
 have:=ZB d
 have:=ZC d
 have:=Zj (ZA d) y
 simp only[*,go_sem,seval]
 refine Zh h (fun i e st=>IV [(10,.p false [.row 0]),(12,.bp 1 0),(13,.p false [.c (.bool e)]),(31,.p false [.c (.sl 118 2 (A0 YE b))]),(32,.p false [.c (.int .i64 ((b.length:Nat):Int))]),(33,.p false [.c (.int .i64 ((v:Nat):Int))]),(37,.p false [.row 0]),(38,.p false [.c (.int .i64 ((a.length:Nat):Int))]),(39,.p false [.c (.int .i64 ((i:Nat):Int))])] [.row 61 1 (A0 Zpr a) 1,.box 118 [.c (.sl 71 2 (A0 Zq g.facts)),.c (.sl 135 2 (A0 ZZ g.binding))]] st) [] [0,49] (by decide) ?_ ?_ ?_
 simp only[*,go_sem,seval]
 rintro _ _ e ⟨sl,ob,n⟩ _ f l z h _
 simp only[go_sem,seval,Zc] at l
 obtain ⟨⟨_,_,_,_,_,_,_,_,_⟩,A,_,hn⟩:=l
 subst hn
 have B:=WF.rowL z A
 have:=ZB f
 have:=ZC f
 have:=Zj (ZA f) B
 simp only[*,go_sem,seval]
 refine Ze h (fun _ h=>?_) fun _ h=>?_<;>try simp only[*,go_sem,seval]
 refine ⟨_,[],[0,1],(A3 h).symm,by decide,?_⟩
 simp only[*,go_sem,seval]
 refine Za h fun _ C h=>Zb (ZMh C) ?_
 simp only[*,go_sem,seval]
 refine ⟨_,[],[0,1],(A3 h).symm,by decide,?_⟩
 simp only[*,go_sem,seval]
 rintro e ⟨sl,ob,n⟩ m _ h
 simp only[go_sem,seval,Zc] at m
 obtain ⟨⟨_,_,_,_,_,_,_,_,_⟩,_,_,hn⟩:=m
 subst hn
 have:=Zz (a.length)
 simp only[*,go_sem,seval]
 refine Ze h (fun _ h=>?_) fun _ h=>?_<;>try simp only[*,go_sem,seval]
 refine ⟨_,[],[0],(A3 h).symm,by decide,?_⟩
 simp only[*,go_sem,seval]
 obtain ⟨D,h⟩:=Zs h
 try simp only[Nat.reduceLeDiff] at D
 simp only[*,go_sem,seval]
 refine ⟨_,[],[114],(A3 h).symm,by decide,?_⟩
 simp only[*,go_sem,seval]
 rintro a ⟨sl,ob,n⟩ o _ h
 simp only[go_sem,seval,Zc] at o
 obtain ⟨⟨_,_,_,_⟩,_,hn⟩:=o
 subst hn
 have:=Zz (b.length)
 iterate 3 (cases h;simp only[*,go_sem,seval])
theorem ZNf {c_0:ZF} {most_1:Int} {r:((List Zf) × ZF)} (h:ZL0 c_0 most_1=some r):ZaU prog J0 JF0 216 (.box 184 (Za7 c_0)) [(false,[.int .i64 most_1])] [(false,[(false,.sl 104 4 (A0 ZG r.1))])] (.box 184 (Za7 r.2)):=by
 refine fnh func216 rfl ?_
 unfold ZL0 at h
 have j:Z2 ⟨#[114]⟩=true:=by decide
 simp only[fnH,f216,ZcO,ZcW,Y9,go_sem,seval,j]
 obtain ⟨_,k,h⟩:=ZJ h
 refine QC (QS k) ?_
 simp only[*,go_sem,seval]
 refine XH h (fun s st=>match s with | (b,d,e,f,g)=>IV [(0,.bp 0 0),(5,.p false [.row 1]),(6,.p false [.c (.int .i64 g)])] [.box 184 [.c (.sl 5 1 (A0 Zek b)),.c (.int .i64 d),.c (.int .i64 e)],.row 104 4 (A0 ZG f) 2] st) [] [0,17] (by decide) ?_ ?_
 simp only[*,go_sem,seval]
 rintro ⟨b,d,e,f,g⟩ ⟨sl,ob,n⟩ _ i _ h l
 simp only[go_sem,seval,Zc] at i
 obtain ⟨⟨_,_,_⟩,_,_,hn⟩:=i
 subst hn
 simp only[*,go_sem,seval]
 refine Ze h (fun _ h=>?_) fun _ h=>?_<;>try simp only[*,go_sem,seval]
 obtain ⟨_,m,h⟩:=ZJ h
 refine QC (ZMb m) ?_
 simp only[*,go_sem,seval]
 refine Za h fun _ o h=>Zb (Zfs o) ?_
 obtain ⟨q,h⟩:=Zs h
 simp only[go_sem] at q
 obtain ⟨t,h⟩:=Zs h
 try simp only[Nat.reduceLeDiff] at t
 simp only[*,go_sem,seval]
 refine ⟨_,[],[0,226],(A3 h).symm,by decide,?_⟩
 simp only[*,go_sem,seval]
 replace h:=Zo h l
 cases h
 simp only[*,go_sem,seval]
theorem ZNh {append_0:ZF} {r:(Zf × ZF)} (h:ZLZ append_0=some r):ZaU prog J0 JF0 217 (.box 184 (Za7 append_0)) [] [(true,[(false,.str r.1.name),(false,.int .i64 r.1.priority),(true,.sl 60 5 (A0 ZK r.1.cond)),(true,.sl 166 3 (A0 ZD r.1.thn))])] (.box 184 (Za7 r.2)):=by
 refine ZND [(8,[0,1,2,3,4,5,6,7],true),(10,[0,1,2,3,4,5,6,7,8,9,10,11],true)] func217 rfl ?_
 unfold ZLZ at h
 have ks0:Z2 ⟨#[116]⟩=true:=by decide
 have ks1:Z2 ⟨#[117]⟩=true:=by decide
 have ks2:Z2 ⟨#[63,100]⟩=true:=by decide
 have ks3:Z2 ⟨#[63,101]⟩=true:=by decide
 have ks4:Z2 ⟨#[63,102]⟩=true:=by decide
 have ks5:Z2 ⟨#[63,103]⟩=true:=by decide
 have ks6:Z2 ⟨#[63,120]⟩=true:=by decide
 have ks7:Z2 ⟨#[63,97]⟩=true:=by decide
 have ks8:Z2 ⟨#[63,98]⟩=true:=by decide
 have ks9:Z2 ⟨#[63,99]⟩=true:=by decide
 simp only[fnH,f217,ZcO,ZcW,Y9,go_sem,ZKD,seval,ks0,ks1,ks2,ks3,ks4,ks5,ks6,ks7,ks8,ks9]
 obtain ⟨v1,e1,h⟩:=ZJ h
 refine QC (by have hh:=ZMb e1;first | exact hh | (simp only[go_sem,ZKD, *] at hh;exact hh)) ?_
 simp only[go_sem,ZKD,seval, *]
 obtain ⟨v2,e2,h⟩:=ZJ h
 refine QC (by have hh:=QS e2;first | exact hh | (simp only[go_sem,ZKD, *] at hh;exact hh)) ?_
 simp only[go_sem,ZKD,seval, *]
 refine Ze h (fun c3 h=>?_) (fun c3 h=>?_)<;>try simp only[go_sem,ZKD,seval, *]
 ·obtain ⟨v3,e4,h⟩:=ZJ h
  refine QC (by have hh:=ZKU e4;first | exact hh | (simp only[go_sem,ZKD, *] at hh;exact hh)) ?_
  obtain rfl:=A3 h
  simp only[go_sem,ZKD,seval, *]
 ·refine Ze h (fun c5 h=>?_) (fun c5 h=>?_)<;>try simp only[go_sem,ZKD,seval, *]
  ·obtain ⟨v4,e6,h⟩:=ZJ h
   refine QC (by have hh:=ZKQ e6;first | exact hh | (simp only[go_sem,ZKD, *] at hh;exact hh)) ?_
   obtain rfl:=A3 h
   simp only[go_sem,ZKD,seval, *]
  ·refine Ze h (fun c7 h=>?_) (fun c7 h=>?_)<;>try simp only[go_sem,ZKD,seval, *]
   ·obtain ⟨v5,e8,h⟩:=ZJ h
    refine QC (by have hh:=ZLQ e8;first | exact hh | (simp only[go_sem,ZKD, *] at hh;exact hh)) ?_
    obtain ⟨p9,h⟩:=Zs h
    try simp only[Nat.reduceLeDiff] at p9
    obtain rfl:=A3 h
    simp only[go_sem,ZKD,seval, *]
   ·refine Ze h (fun c10 h=>?_) (fun c10 h=>?_)<;>try simp only[go_sem,ZKD,seval, *]
    ·obtain ⟨v6,e11,h⟩:=ZJ h
     refine QC (by have hh:=ZKQ e11;first | exact hh | (simp only[go_sem,ZKD, *] at hh;exact hh)) ?_
     simp only[go_sem,ZKD,seval, *]
     obtain ⟨v7,e12,h⟩:=ZJ h
     refine QC (by have hh:=ZLO e12;first | exact hh | (simp only[go_sem,ZKD, *] at hh;exact hh)) ?_
     obtain ⟨p13,h⟩:=Zs h
     try simp only[Nat.reduceLeDiff] at p13
     obtain rfl:=A3 h
     simp only[go_sem,ZKD,seval, *]
    ·refine Ze h (fun c14 h=>?_) (fun c14 h=>?_)<;>try simp only[go_sem,ZKD,seval, *]
     ·obtain ⟨p15,h⟩:=Zs h
      obtain rfl:=A3 h
      simp only[go_sem,ZKD,seval, *]
     ·refine Ze h (fun c16 h=>?_) (fun c16 h=>?_)<;>try simp only[go_sem,ZKD,seval, *]
      ·obtain ⟨p17,h⟩:=Zs h
       obtain rfl:=A3 h
       simp only[go_sem,ZKD,seval, *]
      ·refine Ze h (fun c18 h=>?_) (fun c18 h=>?_)<;>try simp only[go_sem,ZKD,seval, *]
       ·obtain ⟨v8,e19,h⟩:=ZJ h
        refine QC (by have hh:=ZjQ e19;first | exact hh | (simp only[go_sem,ZKD, *] at hh;exact hh)) ?_
        simp only[go_sem,ZKD,seval, *]
        obtain ⟨v9,e20,h⟩:=ZJ h
        refine QC (by have hh:=ZKQ e20;first | exact hh | (simp only[go_sem,ZKD, *] at hh;exact hh)) ?_
        simp only[go_sem,ZKD,seval, *]
        obtain ⟨v10,e21,h⟩:=ZJ h
        refine QC (by have hh:=ZjQ e21;first | exact hh | (simp only[go_sem,ZKD, *] at hh;exact hh)) ?_
        obtain rfl:=A3 h
        simp only[go_sem,ZKD,seval, *]
       ·obtain rfl:=A3 h
        simp only[go_sem,ZKD,seval, *]
theorem Zhg {rules_0:(List Zf)} {base_1:(List Zd)} {r:((List Zd) × Zu × Bool)} (h:X4 rules_0 base_1=some r):Zl prog J0 58 [(false,[.sl 104 4 (A0 ZG rules_0)]),(false,[.sl 71 2 (A0 Zq base_1)])] [(false,[(false,.sl 71 2 (A0 Zq r.1))]),(true,[(false,.int .i64 r.2.1.nodes),(false,.sl 144 3 (A0 ZL r.2.1.reasons))]),(false,[(false,.bool r.2.2)])]:=by
 refine fnk func58 rfl ?_
 unfold X4 at h
 simp only[fnS,f58,Zm,go_sem,seval]
 refine Za h fun _ a h=>Zb (ZjG a) ?_
 simp only[*,go_sem,seval]
 refine Ze h (fun _ h=>?_) fun _ h=>?_<;>try simp only[*,go_sem,seval]
 iterate 2 (cases h;simp only[*,go_sem,seval])
theorem ZLu {rules_0:(List Zf)} {base_1:(List Zd)} {p_2:Zv} {r:((List Zd) × Bool)} (h:ZKM rules_0 base_1 p_2=some r):Zl prog J0 37 [(false,[.sl 104 4 (A0 ZG rules_0)]),(false,[.sl 71 2 (A0 Zq base_1)]),(true,Qz p_2)] [(false,[(false,.sl 71 2 (A0 Zq r.1))]),(false,[(false,.bool r.2)])]:=by
 refine fnk func37 rfl ?_
 unfold ZKM at h
 simp only[fnS,f37,Zm,go_sem,seval]
 refine Za h fun _ a h=>Zb (Zn1 a) ?_
 simp only[*,go_sem,seval]
 refine Ze h (fun _ h=>?_) fun _ h=>?_<;>try simp only[*,go_sem,seval]
 refine Za h fun _ b h=>Zb (XL b) ?_
 simp only[*,go_sem,seval]
 refine Ze h (fun _ h=>?_) fun _ h=>?_<;>try simp only[*,go_sem,seval]
 refine Za h fun _ c h=>Zb (Zcx c) ?_
 iterate 3 (cases h;simp only[*,go_sem,seval])
end
section
set_option linter.unusedSimpArgs false
set_option linter.unusedVariables false
set_option maxRecDepth 1000000
set_option maxHeartbeats 4000000
theorem ZM3 {c_0:ZF} {r:((List Zf) × ZF)} (h:ZLy c_0=some r):ZaU prog J0 JF0 143 (.box 184 (Za7 c_0)) [] [(false,[(true,.sl 104 4 (A0 ZG r.1))])] (.box 184 (Za7 r.2)):=by
 refine fnh func143 rfl ?_
 unfold ZLy at h
 have j:Z2 ⟨#[107]⟩=true:=by decide
 simp only[fnH,f143,ZcO,ZcW,Y9,go_sem,seval,j]
 obtain ⟨_,k,h⟩:=ZJ h
 refine QC (ZNf k) ?_
 simp only[*,go_sem,seval]
 obtain ⟨_,l,h⟩:=ZJ h
 refine QC (QS l) ?_
 simp only[*,go_sem,seval]
 refine Ze h (fun _ h=>?_) fun _ h=>?_<;>try simp only[*,go_sem,seval]
 obtain ⟨_,m,h⟩:=ZJ h
 refine QC (ZNh m) ?_
 obtain ⟨o,h⟩:=Zs h
 try simp only[Nat.reduceLeDiff] at o
 cases h
 simp only[*,go_sem,seval]
 refine Ze h (fun _ h=>?_) fun _ h=>?_<;>try simp only[*,go_sem,seval]
 obtain ⟨q,t,h⟩:=ZJ h
 refine QC (ZKQ t) ?_
 simp only[*,go_sem,seval]
 refine XH h (fun s st=>match s with | (b,d,e,f,g)=>IV [(0,.bp 0 0),(3,.p false [.row 1]),(4,.p false [.c (.int .i64 q.1)]),(5,.p false [.c (.int .i64 g)])] [.box 184 [.c (.sl 5 1 (A0 Zek b)),.c (.int .i64 d),.c (.int .i64 e)],.row 104 4 (A0 ZG f) 2] st) [] [0,33] (by decide) ?_ ?_
 simp only[*,go_sem,seval]
 rintro ⟨b,d,e,f,g⟩ ⟨sl,ob,n⟩ _ i _ h u
 simp only[go_sem,seval,Zc] at i
 obtain ⟨⟨_,_,_,_⟩,_,_,hn⟩:=i
 subst hn
 simp only[*,go_sem,seval]
 refine Ze h (fun _ h=>?_) fun _ h=>?_<;>try simp only[*,go_sem,seval]
 obtain ⟨_,v,h⟩:=ZJ h
 refine QC (ZK8 v) ?_
 simp only[*,go_sem,seval]
 refine Za h fun _ w h=>Zb (Zfs w) ?_
 obtain ⟨x,h⟩:=Zs h
 simp only[go_sem] at x
 obtain ⟨y,h⟩:=Zs h
 try simp only[Nat.reduceLeDiff] at y
 simp only[*,go_sem,seval]
 refine ⟨_,[],[0,258],(A3 h).symm,by decide,?_⟩
 simp only[*,go_sem,seval]
 replace h:=Zo h u
 iterate 2 (cases h;simp only[*,go_sem,seval])
theorem ZJr {rules_0:(List Zf)} {base_1:(List Zd)} {r:((List Zd) × Bool)} (h:ZIQ rules_0 base_1=some r):Zl prog J0 32 [(false,[.sl 104 4 (A0 ZG rules_0)]),(false,[.sl 71 2 (A0 Zq base_1)])] [(false,[(false,.sl 71 2 (A0 Zq r.1))]),(false,[(false,.bool r.2)])]:=by
 refine fnk func32 rfl ?_
 unfold ZIQ at h
 simp only[fnS,f32,Zm,go_sem,seval]
 refine Za h fun _ a h=>Zb (Zhg a) ?_
 simp only[*,go_sem,seval]
 refine Ze h (fun _ h=>?_) fun _ h=>?_<;>try simp only[*,go_sem,seval]
 refine Za h fun _ b h=>Zb (ZJE b) ?_
 iterate 2 (cases h;simp only[*,go_sem,seval])
end
section
open Go.RowKit
def ZJ1 (ops:Array Oper):Nat→Nat→Nat
 | 0,_=>0
 | n+1,j=>match ops[j]? with
  | some o=>(o.after.toList.filter (Region.binds .any)).foldl (fun m e=>Nat.lor m (Nat.lor (Nat.pow 2 e.on) (ZJ1 ops n e.on))) 0
  | none=>0
theorem ZJA {α:Type} {f:α→Nat} {i:Nat}:∀{l:List α} {m:Nat},(l.foldl (fun m e=>Nat.lor m (f e)) m).testBit i=true→m.testBit i=true∨∃e∈l,(f e).testBit i=true
 | [],_,h=>.inl h
 | x::l,m,h=>by
  rcases ZJA (l:=l) h with h | ⟨e,me,he⟩
  ·have h2:(m ||| f x).testBit i=true:=h
   rw [A7,A5] at h2
   rcases h2 with h2 | h2
   ·exact .inl h2
   ·exact .inr ⟨x,by simp,h2⟩
  ·exact .inr ⟨e,by simp [me],he⟩
theorem ZJT {ops:Array Oper} {i:Nat}:∀(n j:Nat),(ZJ1 ops n j).testBit i=true→i∈anc ops n j
 | 0,j,h=>by simp [ZJ1] at h
 | n+1,j,h=>by
  unfold ZJ1 at h
  unfold anc
  cases ho:ops[j]? with
  | none=>rw [ho] at h;simp at h
  | some o=>
   rw [ho] at h
   simp only at h ⊢
   rcases ZJA h with h | ⟨e,me,he⟩
   ·simp at h
   ·refine List.mem_flatMap.2 ⟨e,me,?_⟩
    have h2:(2 ^ e.on ||| ZJ1 ops n e.on).testBit i=true:=he
    rw [A7,A5] at h2
    rcases h2 with h2 | h2
    ·rw [Nat.testBit_two_pow,decide_eq_true_iff] at h2
     subst h2
     simp
    ·exact List.mem_cons_of_mem _ (ZJT n e.on h2)
def ZJM (tt:Nat→Option TI) (hds:FuncId→Nat) (ops:Array Oper) (i j:Nat):Bool:=!Nat.beq i j&&match ops[i]?,ops[j]? with
 | some oi,some oj=>(oi.after.toList.all fun e=>!Region.binds .any e||!Nat.beq e.on j)&&((oi.apart ops oj&&ZrN tt hds false oi.op oj.op)||Nat.testBit (ZJ1 ops ops.size j) i)
 | _,_=>true
def ZI4 (tt:Nat→Option TI) (hds:FuncId→Nat) (ops:Array Oper):List Nat→Bool
 | []=>true
 | i::r=>r.all (ZJM tt hds ops i)&&ZI4 tt hds ops r
def ZJs (tt:Nat→Option TI) (hds:FuncId→Nat) (ops:Array Oper):Bool:=ZI4 tt hds ops (List.range ops.size)&&Zwg ops
section
variable {tt:Nat→Option TI} {hds:FuncId→Nat} {ops:Array Oper}
theorem ZJW {i j:Nat} (h:ZJM tt hds ops i j=true):Zmf tt hds false ops i j=true:=by
 unfold ZJM at h
 unfold Zmf
 rw [A4] at h ⊢
 refine ⟨h.1,?_⟩
 have h2:=h.2
 cases hi:ops[i]? with
 | none=>rfl
 | some oi=>
  cases hj:ops[j]? with
  | none=>rfl
  | some oj=>
   rw [hi,hj] at h2
   simp only[A4,A5] at h2 ⊢
   refine ⟨h2.1,h2.2.elim .inr fun hb=>.inl ?_⟩
   rw [List.contains_iff_mem]
   exact ZJT _ _ hb
theorem ZI9:∀{l:List Nat},ZI4 tt hds ops l=true→Zix tt hds false ops l=true
 | [],_=>rfl
 | i::r,h=>by
  simp only[ZI4,A4,A6] at h
  simp only[Zix,A4,A6]
  exact ⟨fun j mj=>ZJW (h.1 j mj),ZI9 h.2⟩
theorem ZJP (h:ZJs tt hds ops=true):Zql tt hds ops=true:=by
 unfold ZJs at h
 unfold Zql
 rw [A4] at h ⊢
 exact ⟨ZI9 h.1,h.2⟩
end
def ZII (tt:Nat→Option TI) (hs:FuncId→Nat) (N:Nat):Code→Bool
 | .skip=>true
 | .region _ ops d=>(ops.toList.all fun o=>match o.dst with | some t=>Nat.blt t N | none=>true)&&(!d||ZJs tt hs ops)
 | .seq x y=>ZII tt hs N x&&ZII tt hs N y
 | .cond _ x y=>ZII tt hs N x&&ZII tt hs N y
 | .block _ x=>ZII tt hs N x
 | .loop x=>ZII tt hs N x
 | .exit _=>true
 | .ret=>true
 | _=>false
theorem ZIJ {tt:Nat→Option TI} {hs:FuncId→Nat} {N:Nat}:∀(c:Code),ZII tt hs N c=true→Y4 (fun _=>none) tt hs false N c=true
 | .skip,_=>rfl
 | .exit _,_=>rfl
 | .ret,_=>rfl
 | .region id ops d,h=>by
  simp only[ZII,A4,A5,A6] at h
  simp only[Y4,A4,A5,A6]
  refine ⟨fun o mo=>?_,h.2.imp (fun h=>h) ZJP⟩
  have:=h.1 o mo
  cases hd:o.dst with
  | none=>rfl
  | some t=>rw [hd] at this;simp only[Bool.not_false,Bool.true_or,Bool.and_true];exact this
 | .seq x y,h=>by
  simp only[ZII,A4] at h
  simp only[Y4,A4]
  exact ⟨ZIJ x h.1,ZIJ y h.2⟩
 | .cond _ x y,h=>by
  simp only[ZII,A4] at h
  simp only[Y4,A4]
  exact ⟨ZIJ x h.1,ZIJ y h.2⟩
 | .block _ x,h=>ZIJ x h
 | .loop x,h=>ZIJ x h
 | .rangeFunc _ _ _ _,h=>by simp [ZII] at h
 | .scope _,h=>by simp [ZII] at h
 | .label _,h=>by simp [ZII] at h
 | .goto _,h=>by simp [ZII] at h
 | .refuse _,h=>by simp [ZII] at h
end
section
set_option linter.unusedSimpArgs false
set_option linter.unusedVariables false
set_option maxRecDepth 1000000
set_option maxHeartbeats 4000000
theorem ZLX {c_0:ZF} {r:((List Zf) × (List Zd) × ZF)} (h:ZLb c_0=some r):ZaU prog J0 JF0 84 (.box 184 (Za7 c_0)) [] [(false,[(true,.sl 104 4 (A0 ZG r.1))]),(false,[(true,.sl 71 2 (A0 Zq r.2.1))])] (.box 184 (Za7 r.2.2)):=by
 refine fnh func84 rfl ?_
 unfold ZLb at h
 simp only[fnH,f84,ZcO,ZcW,Y9,go_sem,seval]
 obtain ⟨_,a,h⟩:=ZJ h
 refine QC (Zlt a) ?_
 simp only[*,go_sem,seval]
 obtain ⟨_,b,h⟩:=ZJ h
 refine QC (Znx b) ?_
 simp only[*,go_sem,seval]
 obtain ⟨_,c,h⟩:=ZJ h
 refine QC (QS c) ?_
 simp only[*,go_sem,seval]
 refine Ze h (fun _ h=>?_) fun _ h=>?_<;>try simp only[*,go_sem,seval]
 obtain ⟨_,d,h⟩:=ZJ h
 refine QC (ZM3 d) ?_
 cases h
 simp only[*,go_sem,seval]
 refine Ze h (fun _ h=>?_) fun _ h=>?_<;>try simp only[*,go_sem,seval]
 obtain ⟨_,e,h⟩:=ZJ h
 refine QC (ZMS e) ?_
 iterate 2 (cases h;simp only[*,go_sem,seval])
end
section
set_option linter.unusedSimpArgs false
set_option linter.unusedVariables false
set_option maxRecDepth 1000000
set_option maxHeartbeats 4000000
theorem ZL1 {code_0:(List Int)} {r:((List Zf) × (List Zd) × (List Zr))} (h:ZKP code_0=some r):Zl prog J0 31 [(false,[.sl 5 1 (A0 Zek code_0)])] [(false,[(true,.sl 104 4 (A0 ZG r.1))]),(false,[(true,.sl 71 2 (A0 Zq r.2.1))]),(false,[(true,.sl 60 5 (A0 ZK r.2.2))])]:=by
 refine fnk func31 rfl ?_
 unfold ZKP at h
 simp only[fnS,f31,Zm,go_sem,seval]
 obtain ⟨_,a,h⟩:=ZJ h
 refine ZBn (Zqr a) ?_
 simp only[*,go_sem,seval]
 obtain ⟨_,b,h⟩:=ZJ h
 refine QC (ZLX b) ?_
 simp only[*,go_sem,seval]
 obtain ⟨_,c,h⟩:=ZJ h
 refine QC (ZM1 c) ?_
 cases h
 simp only[*,go_sem,seval]
theorem ZK6 {code_0:(List Int)} {r:((List Zf) × (List Zd) × Zv)} (h:ZKF code_0=some r):Zl prog J0 36 [(false,[.sl 5 1 (A0 Zek code_0)])] [(false,[(true,.sl 104 4 (A0 ZG r.1))]),(false,[(true,.sl 71 2 (A0 Zq r.2.1))]),(true,[(false,.str r.2.2.rel),(true,.sl 9 1 (A0 Zw r.2.2.args))])]:=by
 refine fnk func36 rfl ?_
 unfold ZKF at h
 simp only[fnS,f36,Zm,go_sem,seval]
 obtain ⟨_,a,h⟩:=ZJ h
 refine ZBn (Zqr a) ?_
 simp only[*,go_sem,seval]
 obtain ⟨_,b,h⟩:=ZJ h
 refine QC (ZLX b) ?_
 simp only[*,go_sem,seval]
 obtain ⟨_,c,h⟩:=ZJ h
 refine QC (ZLO c) ?_
 cases h
 simp only[*,go_sem,seval]
end
section
set_option linter.unusedSimpArgs false
set_option linter.unusedVariables false
set_option maxRecDepth 1000000
set_option maxHeartbeats 4000000
theorem ZMI {append_0:(List Int)} {r:Bool} (h:ZLH append_0=some r):Zl prog J0 5 [(false,[.sl 5 1 (A0 Zek append_0)])] [(false,[(false,.bool r)])]:=by
 refine fnk (hok:=ZIJ _ (by kernel_rfl)) func5 rfl ?_
 unfold ZLH at h
 simp only[fnS,f5,Zm,go_sem,seval]
 refine Za h fun _ H h=>Zb (Ztt H) ?_
 simp only[*,go_sem,seval]
 refine Ze h (fun _ h=>?_) fun _ h=>?_<;>try simp only[*,go_sem,seval]
 cases h
 simp only[*,go_sem,seval]
 obtain ⟨a,I,h⟩:=ZJ h
 refine ZkJ (ZL1 I) ?_
 simp only[*,go_sem,seval]
 obtain ⟨b,J,h⟩:=ZJ h
 refine ZkJ (ZLl J) ?_
 simp only[*,go_sem,seval]
 refine Za h fun d K h=>Zb (ZJr K) ?_
 simp only[*,go_sem,seval]
 refine Ze h (fun _ h=>?_) fun _ h=>?_<;>try simp only[*,go_sem,seval]
 refine Za h fun _ L h=>Zb (ZLv L) ?_
 simp only[*,go_sem,seval]
 refine Ze h (fun _ h=>?_) fun _ h=>?_<;>try simp only[*,go_sem,seval]
 refine Zh h (fun i _ st=>IV [(0,.p false [.c (.sl 5 1 (A0 Zek append_0))]),(5,.p false [.c (.sl 60 5 (A0 ZK a.2.2))]),(6,.p false [.c (.sl 61 1 (A0 Zpr b.1))]),(8,.p false [.row 0]),(10,.p false [.c (.int .i64 ((i:Nat):Int))])] [.row 71 2 (A0 Zq d.1) 2] st) [] [368] (by decide) ?_ ?_ ?_
 simp only[*,go_sem,seval]
 rintro l _ ⟨⟩ ⟨sl,ob,n⟩ _ e m M h o
 simp only[go_sem,seval,Zc] at m
 obtain ⟨⟨_,_,N,_,_⟩,_,hn⟩:=m
 subst hn
 have O:=WF.slotL M N (j:=0) rfl
 have:=ZB e
 have:=ZC e
 have:=Zj (ZA e) O
 simp only[*,go_sem,seval]
 refine Zh h (fun i _ st=>IV [(0,.p false [.c (.sl 5 1 (A0 Zek append_0))]),(5,.p false [.c (.sl 60 5 (A0 ZK a.2.2))]),(6,.p false [.c (.sl 61 1 (A0 Zpr b.1))]),(8,.p false [.row 0]),(10,.p false [.c (.int .i64 ((l:Nat):Int))]),(11,.p false [.c (.int .i64 ((i:Nat):Int))])] [.row 71 2 (A0 Zq d.1) 2] st) [] [0] (by decide) ?_ ?_ ?_
 simp only[*,go_sem,seval]
 rintro _ _ ⟨⟩ ⟨sl,ob,n⟩ _ f q P h Q
 simp only[go_sem,seval,Zc] at q
 obtain ⟨⟨_,R,_,_,_,_⟩,_,hn⟩:=q
 subst hn
 have S:=WF.slotL P R (j:=0) rfl
 have:=ZB f
 have:=ZC f
 have:=Zj (ZA f) S
 simp only[*,go_sem,seval]
 refine Za h fun _ T h=>Zb (ZjH T) ?_
 simp only[*,go_sem,seval]
 refine Ze h (fun _ h=>?_) fun _ h=>?_<;>try simp only[*,go_sem,seval]
 refine ⟨_,[],[0],(A3 h).symm,by decide,?_⟩
 simp only[*,go_sem,seval]
 replace h:=Zo h Q
 replace h:=Zo h o
 cases h
 simp only[*,go_sem,seval]
 rintro ⟨⟩ ⟨sl,ob,n⟩ t _ h
 simp only[go_sem,seval,Zc] at t
 obtain ⟨⟨_,_,_,_,_,_⟩,_,hn⟩:=t
 subst hn
 have:=Zz (a.2.2.length)
 simp only[*,go_sem,seval]
 refine XH h (fun u st=>IV [(0,.p false [.c (.sl 5 1 (A0 Zek append_0))]),(5,.p false [.c (.sl 60 5 (A0 ZK a.2.2))]),(6,.p false [.c (.sl 61 1 (A0 Zpr b.1))]),(8,.p false [.row 0]),(10,.p false [.c (.int .i64 ((l:Nat):Int))]),(12,.p false [.c (.int .i64 u)])] [.row 71 2 (A0 Zq d.1) 2] st) [] [0] (by decide) ?_ ?_
 simp only[*,go_sem,seval]
 rintro u ⟨sl,ob,n⟩ _ v _ h w
 simp only[go_sem,seval,Zc] at v
 obtain ⟨⟨_,_,_,_,_,_⟩,_,hn⟩:=v
 subst hn
 simp only[*,go_sem,seval]
 refine Ze h (fun _ h=>?_) fun _ h=>?_<;>try simp only[*,go_sem,seval]
 obtain ⟨_,_,_,_,h⟩:=Zci h
 simp only[*,go_sem,seval]
 refine Za h fun _ U h=>Zb (ZMo U) ?_
 simp only[*,go_sem,seval]
 refine Ze h (fun _ h=>?_) fun _ h=>?_<;>try simp only[*,go_sem,seval]
 replace h:=Zo h w
 replace h:=Zo h o
 cases h
 simp only[*,go_sem,seval]
 refine ⟨_,[],[0],(A3 h).symm,by decide,?_⟩
 simp only[*,go_sem,seval]
 replace h:=Zo h w
 refine ⟨_,[],[0],(A3 h).symm,by decide,?_⟩
 simp only[*,go_sem,seval]
 rintro ⟨⟩ ⟨sl,ob,n⟩ x _ h
 simp only[go_sem,seval,Zc] at x
 obtain ⟨⟨_,_,_,_,_⟩,_,hn⟩:=x
 subst hn
 have:=Zz (b.1.length)
 simp only[*,go_sem,seval]
 obtain ⟨_,V,h⟩:=ZJ h
 refine ZkJ (ZK6 V) ?_
 simp only[*,go_sem,seval]
 refine Za h fun _ W h=>Zb (ZLu W) ?_
 simp only[*,go_sem,seval]
 obtain ⟨_,X,h⟩:=ZJ h
 refine ZkJ (ZLl X) ?_
 simp only[*,go_sem,seval]
 refine Ze h (fun _ h=>?_) fun _ h=>?_<;>try simp only[*,go_sem,seval]
 iterate 3 (cases h;simp only[*,go_sem,seval])
 refine Ze h (fun _ h=>?_) fun _ h=>?_<;>try simp only[*,go_sem,seval]
 refine Zh h (fun i _ st=>IV [(0,.p false [.c (.sl 5 1 (A0 Zek append_0))]),(5,.p false [.c (.sl 60 5 (A0 ZK a.2.2))]),(6,.p false [.c (.sl 61 1 (A0 Zpr b.1))]),(8,.p false [.row 0]),(10,.p false [.c (.int .i64 ((i:Nat):Int))])] [.row 71 2 (A0 Zq d.1) 2] st) [] [368] (by decide) ?_ ?_ ?_
 simp only[*,go_sem,seval]
 rintro y _ ⟨⟩ ⟨sl,ob,n⟩ _ g z Y h A
 simp only[go_sem,seval,Zc] at z
 obtain ⟨⟨_,_,Z,_,_⟩,_,hn⟩:=z
 subst hn
 have aa:=WF.slotL Y Z (j:=0) rfl
 have:=ZB g
 have:=ZC g
 have:=Zj (ZA g) aa
 simp only[*,go_sem,seval]
 refine Zh h (fun i _ st=>IV [(0,.p false [.c (.sl 5 1 (A0 Zek append_0))]),(5,.p false [.c (.sl 60 5 (A0 ZK a.2.2))]),(6,.p false [.c (.sl 61 1 (A0 Zpr b.1))]),(8,.p false [.row 0]),(10,.p false [.c (.int .i64 ((y:Nat):Int))]),(11,.p false [.c (.int .i64 ((i:Nat):Int))])] [.row 71 2 (A0 Zq d.1) 2] st) [] [0] (by decide) ?_ ?_ ?_
 simp only[*,go_sem,seval]
 rintro _ _ ⟨⟩ ⟨sl,ob,n⟩ _ k B ab h ac
 simp only[go_sem,seval,Zc] at B
 obtain ⟨⟨_,ad,_,_,_,_⟩,_,hn⟩:=B
 subst hn
 have ae:=WF.slotL ab ad (j:=0) rfl
 have:=ZB k
 have:=ZC k
 have:=Zj (ZA k) ae
 simp only[*,go_sem,seval]
 refine Za h fun _ af h=>Zb (ZjH af) ?_
 simp only[*,go_sem,seval]
 refine Ze h (fun _ h=>?_) fun _ h=>?_<;>try simp only[*,go_sem,seval]
 refine ⟨_,[],[0],(A3 h).symm,by decide,?_⟩
 simp only[*,go_sem,seval]
 replace h:=Zo h ac
 replace h:=Zo h A
 cases h
 simp only[*,go_sem,seval]
 rintro ⟨⟩ ⟨sl,ob,n⟩ C _ h
 simp only[go_sem,seval,Zc] at C
 obtain ⟨⟨_,_,_,_,_,_⟩,_,hn⟩:=C
 subst hn
 have:=Zz (a.2.2.length)
 simp only[*,go_sem,seval]
 refine XH h (fun D st=>IV [(0,.p false [.c (.sl 5 1 (A0 Zek append_0))]),(5,.p false [.c (.sl 60 5 (A0 ZK a.2.2))]),(6,.p false [.c (.sl 61 1 (A0 Zpr b.1))]),(8,.p false [.row 0]),(10,.p false [.c (.int .i64 ((y:Nat):Int))]),(12,.p false [.c (.int .i64 D)])] [.row 71 2 (A0 Zq d.1) 2] st) [] [0] (by decide) ?_ ?_
 simp only[*,go_sem,seval]
 rintro D ⟨sl,ob,n⟩ _ E _ h F
 simp only[go_sem,seval,Zc] at E
 obtain ⟨⟨_,_,_,_,_,_⟩,_,hn⟩:=E
 subst hn
 simp only[*,go_sem,seval]
 refine Ze h (fun _ h=>?_) fun _ h=>?_<;>try simp only[*,go_sem,seval]
 obtain ⟨_,_,_,_,h⟩:=Zci h
 simp only[*,go_sem,seval]
 refine Za h fun _ ag h=>Zb (ZMo ag) ?_
 simp only[*,go_sem,seval]
 refine Ze h (fun _ h=>?_) fun _ h=>?_<;>try simp only[*,go_sem,seval]
 replace h:=Zo h F
 replace h:=Zo h A
 cases h
 simp only[*,go_sem,seval]
 refine ⟨_,[],[0],(A3 h).symm,by decide,?_⟩
 simp only[*,go_sem,seval]
 replace h:=Zo h F
 refine ⟨_,[],[0],(A3 h).symm,by decide,?_⟩
 simp only[*,go_sem,seval]
 rintro ⟨⟩ ⟨sl,ob,n⟩ G _ h
 simp only[go_sem,seval,Zc] at G
 obtain ⟨⟨_,_,_,_,_⟩,_,hn⟩:=G
 subst hn
 have:=Zz (b.1.length)
 simp only[*,go_sem,seval]
 obtain ⟨_,ah,h⟩:=ZJ h
 refine ZkJ (ZK6 ah) ?_
 simp only[*,go_sem,seval]
 refine Za h fun _ ai h=>Zb (ZLu ai) ?_
 simp only[*,go_sem,seval]
 obtain ⟨_,aj,h⟩:=ZJ h
 refine ZkJ (ZLl aj) ?_
 simp only[*,go_sem,seval]
 refine Ze h (fun _ h=>?_) fun _ h=>?_<;>try simp only[*,go_sem,seval]
 iterate 3 (cases h;simp only[*,go_sem,seval])
end
section
open Go.RowKit Go.Deep
def ZtV {α:Type} (P:Program) (t:TypeId) (c:ZaE α) (wf:α→Prop):Prop:=
 ∀{H:Type} {enc:TypeId × Value→H} {w:World} {base:Nat} {spare:Nat→Bool} {held:Bool} {fuel:Nat} {cs:List Value} {x:DataW H × List MemPlace},
  DataW.trod enc P w base spare held fuel t cs=some x→∃d L,c.rep w cs d L∧wf d
theorem Zqg {P:Program} {t:TypeId} (ht:P.underlying t=some (.int .u8)):ZtV P t ZtW (fun n=>0≤n∧n≤255):=by
 intro H enc w base spare held fuel cs x h
 obtain ⟨n,rfl,_,hw⟩:=DataW.trod_int ht h
 refine ⟨n,[],⟨rfl,rfl⟩,?_⟩
 simp [Lit.wf,IntKind.min,IntKind.max,IntKind.signed,IntKind.bits] at hw
 exact ⟨by omega,by omega⟩
theorem ZpR {α:Type} {c:ZaE α} {wf:α→Prop} {P:Program} {t e:TypeId} (ht:P.underlying t=some (.slice e)) (hc:P.cellsOf e=c.size) (ho:ZtV P e c wf):ZtV P t (ZfI c) (fun ds=>∀d∈ds,wf d):=by
 intro H enc w base spare held fuel cs x h
 rcases open_slice ht h with ⟨rfl,_⟩ | ⟨a,len,cap,m,n,D,Pl,rfl,hb,hl,hm,hmm,_,hx⟩
 ·exact ⟨[],[],⟨none,0,rfl,Nat.le_refl _,Nat.zero_le _,Sli.nil _ _⟩,by simp⟩
 ·have hlm:len≤m:=by rw [hmm];split<;>omega
  have key:∀q,q≤len→∃(xs:List Value) (ds:List α) (L:List Nat),ds.length=q∧(∀j u,xs[j]?=some u→w.cell? (a.add j)=some u)∧c.reps w xs ds L∧∀d∈ds,wf d:=by
   intro q
   induction q with
   | zero=>exact fun _=>⟨[],[],[],rfl,by simp,⟨rfl,rfl⟩,by simp⟩
   | succ q ih=>
    intro hq
    obtain ⟨xs,ds,L,hd,hcell,hr,hwf⟩:=ih (by omega)
    obtain ⟨cs',h1,h2⟩:=hx q (by omega)
    obtain ⟨d,Lq,hrep,hwd⟩:=ho h2
    obtain ⟨_,hlen,hat⟩:=World.cells?_some h1
    refine ⟨xs++cs',ds++[d],L++Lq,by simp [hd],fun j u hu=>?_,Zi9 hr (Zoc hrep),?_⟩
    ·have hxl:xs.length=q * c.size:=by rw [ZhY hr,hd]
     rw [List.getElem?_append] at hu
     split at hu
     ·exact hcell j u hu
     ·rename_i hj
      have hj2:=(List.getElem?_eq_some_iff.1 hu).1
      have:=hat (j - xs.length) (by omega)
      rw [←hu,←this,Go.Deep.add_add,hc,←hxl]
      congr 2
      omega
    ·intro y hy
     rcases List.mem_append.1 hy with hy | hy
     ·exact hwf y hy
     ·simp at hy;subst hy;exact hwd
  obtain ⟨xs,ds,L,hd,hcell,hr,hwf⟩:=key len (Nat.le_refl _)
  have hxl:=ZhY hr
  rcases Nat.eq_zero_or_pos len with h0 | h0
  ·have:ds=[]:=List.eq_nil_of_length_eq_zero (by omega)
   subst this
   refine ⟨[],[],⟨some a,cap,by simp at hd;rw [←hd];rfl,by simp,hm,Sli.nil _ _⟩,by simp⟩
  ·obtain ⟨b,off,sp⟩:=a
   have hp:0<xs.length:=by rw [hxl,hd];exact Nat.mul_pos h0 c.pos
   have hsp:sp=none:=by
    have h1:=hcell 0 _ (List.getElem?_eq_getElem hp)
    have e:(⟨b,off,sp⟩:Addr).add 0=⟨b,off,sp⟩:=by simp [Addr.add]
    rw [e] at h1
    cases sp with
    | none=>rfl
    | some q=>
     simp only[World.cell?] at h1
     split at h1<;>simp at h1
   subst hsp
   refine ⟨ds,[b]++L,⟨some ⟨b,off,none⟩,cap,by rw [hd],by omega,hm,xs,[b],L,rfl,⟨by rw [hxl],.inr ⟨by omega,b,off,rfl,rfl,fun j u hu=>?_⟩⟩,hr⟩,hwf⟩
   have:=hcell j u hu
   rwa [ZcD] at this
end
section
open Go.RowKit
theorem ZMF (w:World) (hJ:J0 w) (A:Option Addr) (c:Nat) (code:List Int) (L:List Nat) (h:(ZfI ZtW).rep w [.slice A code.length c] code L):
  Calls prog 5 #[.slice A code.length c] w (fun e w'=>e=.returned (.bool true)∧Below w.heap.size w w'):=
 Zl.givesB (ZMI (ZMw code)) hJ (vs:=[_]) ⟨ZzU ZvS _ h,trivial⟩
end
end Go.Proofs.YtekbmedphidcgaaGreatDoor
