/- Texts of this proof, joined: Dp20, Dp21, Dp22, Dp23, Dp24, Dp25, BStd, Open, LawFnWithdrawnFact. What each holds is said at its theorems. -/
import Derived.Test.YtfehfkfdfmcgfaaGreatDoorWithdrawnFactQ7
import Derived.Test.YtfehfkfdfmcgfaaGreatDoorWithdrawnFactQ8
import Derived.Test.YtfehfkfdfmcgfaaGreatDoorWithdrawnFactQ5
import Derived.Test.YtfehfkfdfmcgfaaGreatDoorWithdrawnFactQ1
import Derived.Deep.Slices
import Derived.ChangeArms
import Derived.ProofKit
import Derived.Test.YtfehfkfdfmcgfaaGreatDoorWithdrawnFactQ4
set_option linter.unusedSimpArgs false
set_option linter.unusedVariables false
open List renaming map→A0
open Option.some renaming inj→A1
namespace Go.Proofs.YtfehfkfdfmcgfaaGreatDoor
section
open Go.Proofs.Tryz
set_option linter.unusedSimpArgs false
set_option linter.unusedVariables false
set_option maxRecDepth 1000000
set_option maxHeartbeats 4000000
theorem Zir {rules_0:(List Zg)} {base_1:(List Zb)} {r:((List Zb) × Zr × Bool)} (h:Qi rules_0 base_1=some r):Zk Tryz.prog J0 63 [(false,[.sl 42 4 (A0 ZF rules_0)]),(false,[.sl 45 2 (A0 Zl base_1)])] [(false,[(false,.sl 45 2 (A0 Zl r.1))]),(true,[(false,.int .i64 r.2.1.nodes),(false,.sl 199 3 (A0 ZE r.2.1.reasons))]),(false,[(false,.bool r.2.2)])]:=by
 refine fnk Tryz.func63 rfl ?_
 unfold Qi at h
 simp only[fnS,f63,Zm,go_sem,seval]
 refine ZMH h fun _ a h=>Zd (Zlw a) ?_
 simp only[*,go_sem,seval]
 refine Ze h (fun _ h=>?_) fun _ h=>?_<;>try simp only[*,go_sem,seval]
 iterate 2 (cases h;simp only[*,go_sem,seval])
theorem ZOM {c_0:ZJ} {most_1:Int} {r:((List Zg) × ZJ)} (h:ZN3 c_0 most_1=some r):Zbx Tryz.prog J0 JF0 284 (.box 152 (Zbj c_0)) [(false,[.int .i64 most_1])] [(false,[(false,.sl 42 4 (A0 ZF r.1))])] (.box 152 (Zbj r.2)):=by
 refine fnh Tryz.func284 rfl ?_
 unfold ZN3 at h
 have j:Z9 ⟨#[114]⟩=true:=by decide
 simp only[fnH,f284,Zdh,Zdg,Xp,go_sem,seval,j]
 obtain ⟨_,k,h⟩:=Za h
 refine QL (Q7 k) ?_
 simp only[*,go_sem,seval]
 refine Yo h (fun s st=>match s with | (b,d,e,f,g)=>IV [(0,.bp 0 0),(5,.p false [.row 1]),(6,.p false [.c (.int .i64 g)])] [.box 152 [.c (.sl 5 1 (A0 ZeK b)),.c (.int .i64 d),.c (.int .i64 e)],.row 42 4 (A0 ZF f) 2] st) [] [0,17] (by decide) ?_ ?_
 simp only[*,go_sem,seval]
 rintro ⟨b,d,e,f,g⟩ ⟨sl,ob,n⟩ _ i _ h l
 simp only[go_sem,seval,Zc] at i
 obtain ⟨⟨_,_,_⟩,_,_,hn⟩:=i
 subst hn
 simp only[*,go_sem,seval]
 refine Ze h (fun _ h=>?_) fun _ h=>?_<;>try simp only[*,go_sem,seval]
 obtain ⟨_,m,h⟩:=Za h
 refine QL (ZOb m) ?_
 simp only[*,go_sem,seval]
 refine ZMH h fun _ o h=>Zd (ZgG o) ?_
 obtain ⟨q,h⟩:=Zq h
 simp only[go_sem] at q
 obtain ⟨t,h⟩:=Zq h
 try simp only[Nat.reduceLeDiff] at t
 simp only[*,go_sem,seval]
 refine ⟨_,[],[0,226],(A1 h).symm,by decide,?_⟩
 simp only[*,go_sem,seval]
 replace h:=Zn h l
 cases h
 simp only[*,go_sem,seval]
theorem ZOT {append_0:ZJ} {r:(Zg × ZJ)} (h:ZN1 append_0=some r):Zbx Tryz.prog J0 JF0 285 (.box 152 (Zbj append_0)) [] [(true,[(false,.str r.1.name),(false,.int .i64 r.1.priority),(true,.sl 173 5 (A0 ZK r.1.cond)),(true,.sl 50 3 (A0 ZG r.1.thn))])] (.box 152 (Zbj r.2)):=by
 refine ZJv [(8,[0,1,2,3,4,5,6,7],true),(10,[0,1,2,3,4,5,6,7,8,9,10,11],true)] Tryz.func285 rfl ?_
 unfold ZN1 at h
 have ks0:Z9 ⟨#[116]⟩=true:=by decide
 have ks1:Z9 ⟨#[117]⟩=true:=by decide
 have ks2:Z9 ⟨#[63,100]⟩=true:=by decide
 have ks3:Z9 ⟨#[63,101]⟩=true:=by decide
 have ks4:Z9 ⟨#[63,102]⟩=true:=by decide
 have ks5:Z9 ⟨#[63,103]⟩=true:=by decide
 have ks6:Z9 ⟨#[63,120]⟩=true:=by decide
 have ks7:Z9 ⟨#[63,97]⟩=true:=by decide
 have ks8:Z9 ⟨#[63,98]⟩=true:=by decide
 have ks9:Z9 ⟨#[63,99]⟩=true:=by decide
 simp only[fnH,f285,Zdh,Zdg,Xp,go_sem,ZFO,seval,ks0,ks1,ks2,ks3,ks4,ks5,ks6,ks7,ks8,ks9]
 obtain ⟨v1,e1,h⟩:=Za h
 refine QL (by have hh:=ZOb e1;first | exact hh | (simp only[go_sem,ZFO, *] at hh;exact hh)) ?_
 simp only[go_sem,ZFO,seval, *]
 obtain ⟨v2,e2,h⟩:=Za h
 refine QL (by have hh:=Q7 e2;first | exact hh | (simp only[go_sem,ZFO, *] at hh;exact hh)) ?_
 simp only[go_sem,ZFO,seval, *]
 refine Ze h (fun c3 h=>?_) (fun c3 h=>?_)<;>try simp only[go_sem,ZFO,seval, *]
 ·obtain ⟨v3,e4,h⟩:=Za h
  refine QL (by have hh:=ZHb e4;first | exact hh | (simp only[go_sem,ZFO, *] at hh;exact hh)) ?_
  obtain rfl:=A1 h
  simp only[go_sem,ZFO,seval, *]
 ·refine Ze h (fun c5 h=>?_) (fun c5 h=>?_)<;>try simp only[go_sem,ZFO,seval, *]
  ·obtain ⟨v4,e6,h⟩:=Za h
   refine QL (by have hh:=ZNt e6;first | exact hh | (simp only[go_sem,ZFO, *] at hh;exact hh)) ?_
   obtain rfl:=A1 h
   simp only[go_sem,ZFO,seval, *]
  ·refine Ze h (fun c7 h=>?_) (fun c7 h=>?_)<;>try simp only[go_sem,ZFO,seval, *]
   ·obtain ⟨v5,e8,h⟩:=Za h
    refine QL (by have hh:=ZOI e8;first | exact hh | (simp only[go_sem,ZFO, *] at hh;exact hh)) ?_
    obtain ⟨p9,h⟩:=Zq h
    try simp only[Nat.reduceLeDiff] at p9
    obtain rfl:=A1 h
    simp only[go_sem,ZFO,seval, *]
   ·refine Ze h (fun c10 h=>?_) (fun c10 h=>?_)<;>try simp only[go_sem,ZFO,seval, *]
    ·obtain ⟨v6,e11,h⟩:=Za h
     refine QL (by have hh:=ZNt e11;first | exact hh | (simp only[go_sem,ZFO, *] at hh;exact hh)) ?_
     simp only[go_sem,ZFO,seval, *]
     obtain ⟨v7,e12,h⟩:=Za h
     refine QL (by have hh:=ZOi e12;first | exact hh | (simp only[go_sem,ZFO, *] at hh;exact hh)) ?_
     obtain ⟨p13,h⟩:=Zq h
     try simp only[Nat.reduceLeDiff] at p13
     obtain rfl:=A1 h
     simp only[go_sem,ZFO,seval, *]
    ·refine Ze h (fun c14 h=>?_) (fun c14 h=>?_)<;>try simp only[go_sem,ZFO,seval, *]
     ·obtain ⟨p15,h⟩:=Zq h
      obtain rfl:=A1 h
      simp only[go_sem,ZFO,seval, *]
     ·refine Ze h (fun c16 h=>?_) (fun c16 h=>?_)<;>try simp only[go_sem,ZFO,seval, *]
      ·obtain ⟨p17,h⟩:=Zq h
       obtain rfl:=A1 h
       simp only[go_sem,ZFO,seval, *]
      ·refine Ze h (fun c18 h=>?_) (fun c18 h=>?_)<;>try simp only[go_sem,ZFO,seval, *]
       ·obtain ⟨v8,e19,h⟩:=Za h
        refine QL (by have hh:=Zk5 e19;first | exact hh | (simp only[go_sem,ZFO, *] at hh;exact hh)) ?_
        simp only[go_sem,ZFO,seval, *]
        obtain ⟨v9,e20,h⟩:=Za h
        refine QL (by have hh:=ZNt e20;first | exact hh | (simp only[go_sem,ZFO, *] at hh;exact hh)) ?_
        simp only[go_sem,ZFO,seval, *]
        obtain ⟨v10,e21,h⟩:=Za h
        refine QL (by have hh:=Zk5 e21;first | exact hh | (simp only[go_sem,ZFO, *] at hh;exact hh)) ?_
        obtain rfl:=A1 h
        simp only[go_sem,ZFO,seval, *]
       ·obtain rfl:=A1 h
        simp only[go_sem,ZFO,seval, *]
end
section
open Go.Proofs.Tryz
set_option linter.unusedSimpArgs false
set_option linter.unusedVariables false
set_option maxRecDepth 1000000
set_option maxHeartbeats 4000000
theorem ZOD {c_0:ZJ} {r:((List Zg) × ZJ)} (h:ZNM c_0=some r):Zbx Tryz.prog J0 JF0 250 (.box 152 (Zbj c_0)) [] [(false,[(true,.sl 42 4 (A0 ZF r.1))])] (.box 152 (Zbj r.2)):=by
 refine fnh Tryz.func250 rfl ?_
 unfold ZNM at h
 have j:Z9 ⟨#[107]⟩=true:=by decide
 simp only[fnH,f250,Zdh,Zdg,Xp,go_sem,seval,j]
 obtain ⟨_,k,h⟩:=Za h
 refine QL (ZOM k) ?_
 simp only[*,go_sem,seval]
 obtain ⟨_,l,h⟩:=Za h
 refine QL (Q7 l) ?_
 simp only[*,go_sem,seval]
 refine Ze h (fun _ h=>?_) fun _ h=>?_<;>try simp only[*,go_sem,seval]
 obtain ⟨_,m,h⟩:=Za h
 refine QL (ZOT m) ?_
 obtain ⟨o,h⟩:=Zq h
 try simp only[Nat.reduceLeDiff] at o
 cases h
 simp only[*,go_sem,seval]
 refine Ze h (fun _ h=>?_) fun _ h=>?_<;>try simp only[*,go_sem,seval]
 obtain ⟨q,t,h⟩:=Za h
 refine QL (ZNt t) ?_
 simp only[*,go_sem,seval]
 refine Yo h (fun s st=>match s with | (b,d,e,f,g)=>IV [(0,.bp 0 0),(3,.p false [.row 1]),(4,.p false [.c (.int .i64 q.1)]),(5,.p false [.c (.int .i64 g)])] [.box 152 [.c (.sl 5 1 (A0 ZeK b)),.c (.int .i64 d),.c (.int .i64 e)],.row 42 4 (A0 ZF f) 2] st) [] [0,33] (by decide) ?_ ?_
 simp only[*,go_sem,seval]
 rintro ⟨b,d,e,f,g⟩ ⟨sl,ob,n⟩ _ i _ h u
 simp only[go_sem,seval,Zc] at i
 obtain ⟨⟨_,_,_,_⟩,_,_,hn⟩:=i
 subst hn
 simp only[*,go_sem,seval]
 refine Ze h (fun _ h=>?_) fun _ h=>?_<;>try simp only[*,go_sem,seval]
 obtain ⟨_,v,h⟩:=Za h
 refine QL (ZNC v) ?_
 simp only[*,go_sem,seval]
 refine ZMH h fun _ w h=>Zd (ZgG w) ?_
 obtain ⟨x,h⟩:=Zq h
 simp only[go_sem] at x
 obtain ⟨y,h⟩:=Zq h
 try simp only[Nat.reduceLeDiff] at y
 simp only[*,go_sem,seval]
 refine ⟨_,[],[0,258],(A1 h).symm,by decide,?_⟩
 simp only[*,go_sem,seval]
 replace h:=Zn h u
 iterate 2 (cases h;simp only[*,go_sem,seval])
theorem ZN5 {rules_0:(List Zg)} {base_1:(List Zb)} {f_2:Zb} {r:((List Zb) × Bool)} (h:ZNo rules_0 base_1 f_2=some r):Zk Tryz.prog J0 50 [(false,[.sl 42 4 (A0 ZF rules_0)]),(false,[.sl 45 2 (A0 Zl base_1)]),(true,Zl f_2)] [(false,[(false,.sl 45 2 (A0 Zl r.1))]),(false,[(false,.bool r.2)])]:=by
 refine fnk Tryz.func50 rfl ?_
 unfold ZNo at h
 simp only[fnS,f50,Zm,go_sem,seval]
 refine ZMH h fun _ a h=>Zd (Zir a) ?_
 simp only[*,go_sem,seval]
 refine ZMH h fun _ b h=>Zd (Zb0 b) ?_
 simp only[*,go_sem,seval]
 iterate 2 refine Ze h (fun _ h=>?_) fun _ h=>?_<;>try simp only[*,go_sem,seval]
 cases h
 simp only[*,go_sem,seval]
 refine ZMH h fun _ c h=>Zd (ZN6 c) ?_
 simp only[*,go_sem,seval]
 refine ZMH h fun _ d h=>Zd (Zr1 d) ?_
 iterate 2 (cases h;simp only[*,go_sem,seval])
end
section
open Go.Proofs.Tryz
set_option linter.unusedSimpArgs false
set_option linter.unusedVariables false
set_option maxRecDepth 1000000
set_option maxHeartbeats 4000000
theorem ZOt {c_0:ZJ} {r:((List Zg) × (List Zb) × ZJ)} (h:ZNH c_0=some r):Zbx Tryz.prog J0 JF0 186 (.box 152 (Zbj c_0)) [] [(false,[(true,.sl 42 4 (A0 ZF r.1))]),(false,[(true,.sl 45 2 (A0 Zl r.2.1))])] (.box 152 (Zbj r.2.2)):=by
 refine fnh Tryz.func186 rfl ?_
 unfold ZNH at h
 simp only[fnH,f186,Zdh,Zdg,Xp,go_sem,seval]
 obtain ⟨_,a,h⟩:=Za h
 refine QL (Zm1 a) ?_
 simp only[*,go_sem,seval]
 obtain ⟨_,b,h⟩:=Za h
 refine QL (ZoJ b) ?_
 simp only[*,go_sem,seval]
 obtain ⟨_,c,h⟩:=Za h
 refine QL (Q7 c) ?_
 simp only[*,go_sem,seval]
 refine Ze h (fun _ h=>?_) fun _ h=>?_<;>try simp only[*,go_sem,seval]
 obtain ⟨_,d,h⟩:=Za h
 refine QL (ZOD d) ?_
 cases h
 simp only[*,go_sem,seval]
 refine Ze h (fun _ h=>?_) fun _ h=>?_<;>try simp only[*,go_sem,seval]
 obtain ⟨_,e,h⟩:=Za h
 refine QL (ZOE e) ?_
 iterate 2 (cases h;simp only[*,go_sem,seval])
end
section
open Go.Proofs.Tryz
set_option linter.unusedSimpArgs false
set_option linter.unusedVariables false
set_option maxRecDepth 1000000
set_option maxHeartbeats 4000000
theorem ZOu {c_0:ZJ} {r:((List Zg) × (List Zb) × Zb × ZJ)} (h:ZNI c_0=some r):Zbx Tryz.prog J0 JF0 118 (.box 152 (Zbj c_0)) [] [(false,[(true,.sl 42 4 (A0 ZF r.1))]),(false,[(true,.sl 45 2 (A0 Zl r.2.1))]),(true,[(false,.str r.2.2.1.rel),(true,.sl 9 1 (A0 Zx r.2.2.1.args))])] (.box 152 (Zbj r.2.2.2)):=by
 refine fnh Tryz.func118 rfl ?_
 unfold ZNI at h
 simp only[fnH,f118,Zdh,Zdg,Xp,go_sem,seval]
 obtain ⟨_,a,h⟩:=Za h
 refine QL (ZOt a) ?_
 simp only[*,go_sem,seval]
 refine ZMH h fun _ b h=>Zd (Zit b) ?_
 simp only[*,go_sem,seval]
 refine Ze h (fun _ h=>?_) fun _ h=>?_<;>try simp only[*,go_sem,seval]
 obtain ⟨_,c,h⟩:=Za h
 refine QL (ZHf c) ?_
 simp only[*,go_sem,seval]
 refine Ze h (fun _ h=>?_) fun _ h=>?_<;>try simp only[*,go_sem,seval]
 obtain ⟨_,d,h⟩:=Za h
 refine QL (ZHx d) ?_
 cases h
 simp only[*,go_sem,seval]
 obtain ⟨_,e,h⟩:=Za h
 refine QL (Q7 e) ?_
 obtain ⟨_,h⟩:=Zq h
 obtain ⟨_,_,h⟩:=Za h
 cases h
 simp only[*,go_sem,seval]
 obtain ⟨_,f,h⟩:=Za h
 refine QL (ZHx f) ?_
 cases h
 simp only[*,go_sem,seval]
end
section
open Go.Proofs.Tryz
set_option linter.unusedSimpArgs false
set_option linter.unusedVariables false
set_option maxRecDepth 1000000
set_option maxHeartbeats 4000000
theorem ZNK {code_0:(List Int)} {r:((List Zg) × (List Zb) × Zb)} (h:ZNm code_0=some r):Zk Tryz.prog J0 48 [(false,[.sl 5 1 (A0 ZeK code_0)])] [(false,[(true,.sl 42 4 (A0 ZF r.1))]),(false,[(true,.sl 45 2 (A0 Zl r.2.1))]),(true,[(false,.str r.2.2.rel),(true,.sl 9 1 (A0 Zx r.2.2.args))])]:=by
 refine fnk Tryz.func48 rfl ?_
 unfold ZNm at h
 simp only[fnS,f48,Zm,go_sem,seval]
 obtain ⟨_,a,h⟩:=Za h
 refine ZCT (Zsi a) ?_
 simp only[*,go_sem,seval]
 obtain ⟨_,b,h⟩:=Za h
 refine QL (ZOu b) ?_
 simp only[*,go_sem,seval]
 refine Ze h (fun _ h=>?_) fun _ h=>?_<;>try simp only[*,go_sem,seval]
 obtain ⟨_,c,h⟩:=Za h
 refine QL (ZHf c) ?_
 simp only[*,go_sem,seval]
 refine Ze h (fun _ h=>?_) fun _ h=>?_<;>try simp only[*,go_sem,seval]
 cases h
 simp only[*,go_sem,seval]
 obtain ⟨_,d,h⟩:=Za h
 refine QL (Q7 d) ?_
 obtain ⟨_,_,_,_,h⟩:=ZbQ h
 simp only[*,go_sem,seval]
 refine ZMH h fun _ e h=>Zd (Xa e) ?_
 iterate 2 (cases h;simp only[*,go_sem,seval])
end
section
open Go.Proofs.Tryz
set_option linter.unusedSimpArgs false
set_option linter.unusedVariables false
set_option maxRecDepth 1000000
set_option maxHeartbeats 4000000
theorem ZNO {code_0:(List Int)} {r:Bool} (h:ZNp code_0=some r):Zk Tryz.prog J0 9 [(false,[.sl 5 1 (A0 ZeK code_0)])] [(false,[(false,.bool r)])]:=by
 refine fnk Tryz.func9 rfl ?_
 unfold ZNp at h
 simp only[fnS,f9,Zm,go_sem,seval]
 refine ZMH h fun _ a h=>Zd (ZvY a) ?_
 simp only[*,go_sem,seval]
 refine Ze h (fun _ h=>?_) fun _ h=>?_<;>try simp only[*,go_sem,seval]
 cases h
 simp only[*,go_sem,seval]
 obtain ⟨_,b,h⟩:=Za h
 refine ZfP (ZNK b) ?_
 simp only[*,go_sem,seval]
 refine ZMH h fun _ c h=>Zd (ZN0 c) ?_
 simp only[*,go_sem,seval]
 refine ZMH h fun _ d h=>Zd (ZN5 d) ?_
 simp only[*,go_sem,seval]
 iterate 2 refine Ze h (fun _ h=>?_) fun _ h=>?_<;>try simp only[*,go_sem,seval]
 refine ZMH h fun _ e h=>Zd (ZFr e) ?_
 simp only[*,go_sem,seval]
 refine ZMH h fun _ f h=>Zd (ZiC f) ?_
 simp only[*,go_sem,seval]
 iterate 2 refine Ze h (fun _ h=>?_) fun _ h=>?_<;>try simp only[*,go_sem,seval]
 refine ZMH h fun _ g h=>Zd (ZFw g) ?_
 iterate 5 (cases h;simp only[*,go_sem,seval])
end
section
open Go.RowKit
structure Enc {α:Type} (c:ZbC α) (f:α→List CT):Prop where
 to:∀{w:World} {cs:List Value} {x:α} {L:List Nat},c.rep w cs x L→RCs w (f x) cs L
 of:∀{w:World} {cs:List Value} {x:α} {L:List Nat},RCs w (f x) cs L→c.rep w cs x L
section
variable {α:Type} {c:ZbC α} {f:α→List CT} {w:World}
theorem Enc.reps (h:Enc c f):∀{ds:List α} {xs:List Value} {L:List Nat},c.reps w xs ds L→REs w c.size (ds.map f) xs L
 | [],_,_,h1=>h1
 | _::_,_,_,⟨c1,c2,L1,L2,h1,h2,h3,h4⟩=>⟨c1,c2,L1,L2,h1,h2,⟨h.to h3,c.len h3⟩,h.reps h4⟩
theorem Enc.reps_of (h:Enc c f):∀{ds:List α} {xs:List Value} {L:List Nat},REs w c.size (ds.map f) xs L→c.reps w xs ds L
 | [],_,_,h1=>h1
 | _::_,_,_,⟨c1,c2,L1,L2,h1,h2,h3,h4⟩=>⟨c1,c2,L1,L2,h1,h2,h.of h3.1,h.reps_of h4⟩
theorem Enc.sl (h:Enc c f) (e:Nat) {v:Value} {ds:List α} {L:List Nat}:(ZlE c).rep w [v] ds L↔RC w (.sl e c.size (ds.map f)) v L:=by
 constructor
 ·rintro ⟨A,cap,hv,h1,h2,xs,L0,L1,hL,h3,h4⟩
  obtain rfl:v=_:=by simpa using hv
  exact ⟨A,cap,xs,L0,L1,by simp,by simpa using h1,h2,hL,c.pos,by simpa using h3,h.reps h4⟩
 ·rintro ⟨A,cap,xs,L0,L1,hv,h1,h2,hL,h0,h3,h4⟩
  exact ⟨A,cap,by simpa using hv,by simpa using h1,h2,xs,L0,L1,hL,by simpa using h3,h.reps_of h4⟩
theorem RCs.solo {x:CT} {v:Value} {L:List Nat} (h:RC w x v L):RCs w [x] [v] L:=⟨v,[],L,[],rfl,by simp,h,rfl,rfl⟩
end
theorem Zxy:Enc Zvd ZeK where
 to:=fun ⟨h1,h2⟩=>by subst h1;subst h2;exact RCs.solo ⟨rfl,rfl⟩
 of:=fun ⟨v,cs',L1,L2,h1,h2,h3,h4,h5⟩=>by
  obtain ⟨rfl,rfl⟩:=h3
  subst h4;subst h5;exact ⟨h1,h2⟩
theorem encStr:Enc ZEr Zx where
 to:=fun ⟨h1,h2,h3⟩=>by subst h1;subst h2;exact RCs.solo ⟨rfl,rfl,h3⟩
 of:=fun ⟨v,cs',L1,L2,h1,h2,h3,h4,h5⟩=>by
  obtain ⟨rfl,rfl,t⟩:=h3
  subst h4;subst h5;exact ⟨h1,h2,t⟩
def Zz7 (w:World):Bool × List CT→Value→Prop:=ZkB w fun _=>False
theorem ZCc {α:Type} {c:ZbC α} {f:α→List CT} (h:Enc c f) (e:Nat) {w:World} {v:Value} {ds:List α} {L:List Nat} (hr:(ZlE c).rep w [v] ds L):Zz7 w (false,[.sl e c.size (ds.map f)]) v:=.inr ⟨rfl,_,L,rfl,(h.sl e).1 hr,fun _ _ h=>h⟩
section
variable {w w':World} {v:Value} {e:Ending}
theorem Zxc {B:Nat} {n:Nat→Prop} {x:RT} (h:ZjD w B n [x] v):∃F,OP w B n x v F∧Own w B F:=by
 obtain ⟨vs,F,⟨u,vs',F1,F2,rfl,rfl,h1,rfl,rfl⟩,h2,rfl⟩:=h
 rw [List.append_nil] at h2
 exact ⟨F1,by simpa using h1,h2⟩
theorem Zvp {b:Bool} {B:Nat} {m:Nat→Prop} (hr:ZjD w B m [(false,[(false,.bool b)])] v):v=.bool b:=by
 obtain ⟨F,h1,h2⟩:=Zxc hr
 rcases h1 with ⟨h1,_⟩ | ⟨_,ct,h1,h3⟩
 ·simp at h1
 ·obtain rfl:_=ct:=by simpa using h1
  exact h3.1.1
end
section
variable {P:Program} {J:World→Prop} {f:FuncId} {args:List (Bool × List CT)} {res:List RT}
theorem Zk.calls (h:Zk P J f args res) {w:World} {vs:List Value} (hj:J w) (ha:ZL (Zz7 w) args vs):Calls P f vs.toArray w fun e w'=>∃v n,e=.returned v∧ZjD w' w.heap.size n res v∧Below w.heap.size w w':=
 (h.2 w (fun _=>False) vs hj (fun _ h=>h.elim) ha).mono fun _ _ ⟨v,n,h1,h2,_,h3⟩=>⟨v,n,h1,h2,h3⟩
theorem Zk.givesB {b:Bool} (h:Zk P J f args [(false,[(false,.bool b)])]) {w:World} {vs:List Value} (hj:J w) (ha:ZL (Zz7 w) args vs):Calls P f vs.toArray w fun e w'=>e=.returned (.bool b)∧Below w.heap.size w w':=
 (h.calls hj ha).mono fun _ _ ⟨v,_,h1,h2,h3⟩=>⟨by rw [h1,Zvp h2],h3⟩
end
end
section
open Go.RowKit Go.Deep
def ZvE {α:Type} (P:Program) (t:TypeId) (c:ZbC α) (wf:α→Prop):Prop:=
 ∀{H:Type} {enc:TypeId × Value→H} {w:World} {base:Nat} {spare:Nat→Bool} {held:Bool} {fuel:Nat} {cs:List Value} {x:DataW H × List MemPlace},
  DataW.trod enc P w base spare held fuel t cs=some x→∃d L,c.rep w cs d L∧wf d
theorem ZrU {P:Program} {t:TypeId} (ht:P.underlying t=some (.int .u8)):ZvE P t Zvd (fun n=>0≤n∧n≤255):=by
 intro H enc w base spare held fuel cs x h
 obtain ⟨n,rfl,_,hw⟩:=DataW.trod_int ht h
 refine ⟨n,[],⟨rfl,rfl⟩,?_⟩
 simp [Lit.wf,IntKind.min,IntKind.max,IntKind.signed,IntKind.bits] at hw
 exact ⟨by omega,by omega⟩
theorem ZrJ {α:Type} {c:ZbC α} {wf:α→Prop} {P:Program} {t e:TypeId} (ht:P.underlying t=some (.slice e)) (hc:P.cellsOf e=c.size) (ho:ZvE P e c wf):ZvE P t (ZlE c) (fun ds=>∀d∈ds,wf d):=by
 intro H enc w base spare held fuel cs x h
 rcases open_slice ht h with ⟨rfl,_⟩ | ⟨a,len,cap,m,n,D,Pl,rfl,hb,hl,hm,hmm,_,hx⟩
 ·exact ⟨[],[],⟨none,0,rfl,Nat.le_refl _,Nat.zero_le _,Sli.nil _ _⟩,by simp⟩
 ·have hlm:len≤m:=by rw [hmm];split<;>omega
  have key:∀q,q≤len→∃(xs:List Value) (ds:List α) (L:List Nat),ds.length=q∧(∀j u,xs[j]?=some u→w.cell? (a.add j)=some u)∧c.reps w xs ds L∧∀d∈ds,wf d:=by
   intro q
   induction q with
   | zero=>exact fun _=>⟨[],[],[],rfl,by simp,⟨rfl,rfl⟩,by simp⟩
   | succ q ih=>
    intro hq
    obtain ⟨xs,ds,L,hd,hcell,hr,hwf⟩:=ih (by omega)
    obtain ⟨cs',h1,h2⟩:=hx q (by omega)
    obtain ⟨d,Lq,hrep,hwd⟩:=ho h2
    obtain ⟨_,hlen,hat⟩:=World.cells?_some h1
    refine ⟨xs++cs',ds++[d],L++Lq,by simp [hd],fun j u hu=>?_,ZgC hr (Zj5 hrep),?_⟩
    ·have hxl:xs.length=q * c.size:=by rw [ZgQ hr,hd]
     rw [List.getElem?_append] at hu
     split at hu
     ·exact hcell j u hu
     ·rename_i hj
      have hj2:=(List.getElem?_eq_some_iff.1 hu).1
      have:=hat (j - xs.length) (by omega)
      rw [←hu,←this,Go.Deep.add_add,hc,←hxl]
      congr 2
      omega
    ·intro y hy
     rcases List.mem_append.1 hy with hy | hy
     ·exact hwf y hy
     ·simp at hy;subst hy;exact hwd
  obtain ⟨xs,ds,L,hd,hcell,hr,hwf⟩:=key len (Nat.le_refl _)
  have hxl:=ZgQ hr
  rcases Nat.eq_zero_or_pos len with h0 | h0
  ·have:ds=[]:=List.eq_nil_of_length_eq_zero (by omega)
   subst this
   refine ⟨[],[],⟨some a,cap,by simp at hd;rw [←hd];rfl,by simp,hm,Sli.nil _ _⟩,by simp⟩
  ·obtain ⟨b,off,sp⟩:=a
   have hp:0<xs.length:=by rw [hxl,hd];exact Nat.mul_pos h0 c.pos
   have hsp:sp=none:=by
    have h1:=hcell 0 _ (List.getElem?_eq_getElem hp)
    have e:(⟨b,off,sp⟩:Addr).add 0=⟨b,off,sp⟩:=by simp [Addr.add]
    rw [e] at h1
    cases sp with
    | none=>rfl
    | some q=>
     simp only[World.cell?] at h1
     split at h1<;>simp at h1
   subst hsp
   refine ⟨ds,[b]++L,⟨some ⟨b,off,none⟩,cap,by rw [hd],by omega,hm,xs,[b],L,rfl,⟨by rw [hxl],.inr ⟨by omega,b,off,rfl,rfl,fun j u hu=>?_⟩⟩,hr⟩,hwf⟩
   have:=hcell j u hu
   rwa [Zdn] at this
end
section
open Go.RowKit
theorem ZNN (w:World) (hJ:J0 w) (A:Option Addr) (c:Nat) (code:List Int) (L:List Nat) (h:(ZlE Zvd).rep w [.slice A code.length c] code L):
  Calls Tryz.prog 9 #[.slice A code.length c] w (fun e w'=>e=.returned (.bool true)∧Below w.heap.size w w'):=
 Zk.givesB (ZNO (ZNL code)) hJ (vs:=[_]) ⟨ZCc Zxy _ h,trivial⟩
end
end Go.Proofs.YtfehfkfdfmcgfaaGreatDoor
