/- Texts of this proof, joined: Dp14, Dp15, Dp16, Dp18, Dp17, Dp19, Dp20, PL, E1, P1, E2, P5, Dp21, Dp22, Dp23, E3, E15, F3, F4. What each holds is said at its theorems. -/
import Derived.Test.YtlpkbfjcdaanmaaGreatDoorAskModelQ4
import Derived.Test.YtlpkbfjcdaanmaaGreatDoorAskModelQ5
import Derived.Test.YtlpkbfjcdaanmaaGreatDoorAskModelQ3
import Derived.Lib.ItoaLen
import Derived.Laws.BitsLemmas
import Derived.Lib.Bytealg
open Bool renaming true_and→A6,and_eq_true→A9,false_eq_true→AA,eq_iff_iff→AB,or_eq_true→AQ,false_and→Aa,and_true→Ak,not_not→Aq,false_or→Ar
open ByteArray renaming size→Ah
open Go.ByteArray renaming toList_eq→AO
open Int renaming toNat_natCast→AF
open List renaming map→A0,mem_cons→A5,length_cons→AC,pairwise_cons→AD,foldl_cons→AG,getElem?_eq_some_iff→AH,getElem?_eq_getElem→AJ,all_eq_true→AK,mem_append→AL,mem_of_getElem?→AM,flatMap_cons→AN,length_append→AP,length_nil→AS,mem_flatMap→AT,mem_cons_of_mem→AX,tail→AY,foldl_append→AZ,drop_eq_nil_of_le→Ae,drop_eq_getElem_cons→Ag,mem_map→Ai,append_nil→Al,not_mem_nil→Am,not_any_eq_all_not→Ao
open List.Pairwise renaming nil→AE
open Nat renaming le_trans→AI,zero_add→AR,le_refl→AU,pow_le_pow_right→Ac,mul_assoc→As
open Option renaming bind_some→A3,map_some→At
open Option.some renaming inj→A4
open UInt8 renaming ofNat→AW
open Go.Proofs.Tryz
set_option linter.unusedSimpArgs false
set_option linter.unusedVariables false
set_option maxRecDepth 1000000
set_option maxHeartbeats 4000000
namespace Go.Proofs.YtlpkbfjcdaanmaaGreatDoor
section
theorem Zhh {x_0:Zl} {b_1:(List Zi)} {facts_2:(List Zc)} {r:Bool} (h:ZcY x_0 b_1 facts_2=some r):Zm prog J0 131 [(true,ZJ x_0),(false,[.sl 162 2 (A0 ZR b_1)]),(false,[.sl 53 2 (A0 Zs facts_2)])] [(false,[(false,.bool r)])]:=by
 refine fnk func131 rfl ?_
 unfold ZcY at h
 simp only[fnS,f131,Zo,go_sem,seval]
 obtain ⟨_,a,h⟩:=Za h
 refine Zd (ZhF a) ?_
 try simp only[*,go_sem,seval]
 refine yB h (fun _ h=>?_) fun _ h=>?_
 obtain ⟨_,b,h⟩:=Za h
 refine Zd (Zas b) ?_
 try simp only[*,go_sem,seval]
 iterate 2 refine yB h (fun _ h=>?_) fun _ h=>?_
 obtain ⟨_,c,h⟩:=Za h
 refine Zd (Zes c) ?_
 cases h
 try simp only[*,go_sem,seval]
 refine yB h (fun _ h=>?_) fun _ h=>?_
 obtain ⟨_,d,h⟩:=Za h
 refine Zd (Zes d) ?_
 cases h
 try simp only[*,go_sem,seval]
 obtain ⟨_,e,h⟩:=Za h
 refine Zd (ZmA e) ?_
 iterate 3 (cases h;try simp only[*,go_sem,seval])
theorem Zoo {l_0:(List Zg)} {r:Bool} (h:Zd7 l_0=some r):Zm prog J0 291 [(false,[.sl 76 4 (A0 ZL l_0)])] [(false,[(false,.bool r)])]:=by
 refine fnk func291 rfl ?_
 unfold Zd7 at h
 simp only[fnS,f291,Zo,go_sem,seval]
 refine yB h (fun _ h=>?_) fun _ h=>?_
 cases h
 try simp only[*,go_sem,seval]
 refine Zh h (fun i _ st=>IV [(0,yM (yY l_0)),(8,yM (yY l_0)),(9,yL l_0.length),(10,yL i)] [] st) [] [] yF yD ?_ ?_
 rintro _ _ ⟨⟩ ⟨_,_,_⟩ _ a b f h d
 simp only[go_sem,seval,Zb] at b
 obtain ⟨⟨g,_,_,_⟩,hn⟩:=b
 subst hn
 have k:=WF.slotL f g (j:=0) rfl
 have:=ZC a
 have:=ZE a
 have:=Zk (ZD a) k
 try simp only[*,go_sem,seval]
 obtain ⟨_,l,h⟩:=Za h
 refine Zd (ZhM l) ?_
 try simp only[*,go_sem,seval]
 refine yB h (fun _ h=>?_) fun _ h=>?_
 obtain ⟨_,m,h⟩:=Za h
 refine Zd (ZoE m) ?_
 try simp only[*,go_sem,seval]
 refine yB h (fun _ h=>?_) fun _ h=>?_
 replace h:=Zr h d
 cases h
 try simp only[*,go_sem,seval]
 refine ⟨_,[],[],(A4 h).symm,yF,?_⟩
 try simp only[*,go_sem,seval]
 replace h:=Zr h d
 cases h
 try simp only[*,go_sem,seval]
 rintro ⟨⟩ ⟨_,_,_⟩ e _ h
 simp only[go_sem,seval,Zb] at e
 obtain ⟨⟨_,_,_,_⟩,hn⟩:=e
 subst hn
 have:=ZB (l_0.length)
 cases h
 try simp only[*,go_sem,seval]
theorem Zl7 {r_0:Zg} {r:Bool} (h:Zc0 r_0=some r):Zm prog J0 292 [(true,ZL r_0)] [(false,[(false,.bool r)])]:=by
 refine fnk func292 rfl ?_
 unfold Zc0 at h
 simp only[fnS,f292,Zo,go_sem,seval]
 obtain ⟨_,l,h⟩:=Za h
 refine Zd (ZhM l) ?_
 try simp only[*,go_sem,seval]
 refine yB h (fun _ h=>?_) fun _ h=>?_
 obtain ⟨_,m,h⟩:=Za h
 refine Zd (ZoM m) ?_
 try simp only[*,go_sem,seval]
 refine yB h (fun _ h=>?_) fun _ h=>?_
 refine Zh h (fun i _ st=>IV [(1,.bp 0 0),(17,yM (yW r_0.cond)),(18,yL r_0.cond.length),(19,yL i)] [zC 76 (ZL r_0)] st) [] [0] yF yD ?_ ?_
 rintro o _ ⟨⟩ ⟨_,_,_⟩ _ a e q h t
 simp only[go_sem,seval,Zb] at e
 obtain ⟨⟨_,u,_,_⟩,_,hn⟩:=e
 subst hn
 have v:=WF.slotL q u (j:=0) rfl
 have:=ZC a
 have:=ZE a
 have:=Zk (ZD a) v
 try simp only[*,go_sem,seval]
 refine yB h (fun _ h=>?_) fun _ h=>?_
 refine ⟨_,[],[0],(A4 h).symm,yF,?_⟩
 try simp only[*,go_sem,seval]
 obtain ⟨w,x,h⟩:=Za h
 refine Zd (ZdR x) ?_
 try simp only[*,go_sem,seval]
 obtain ⟨b,y,h⟩:=Za h
 refine Zd (ZcA y) ?_
 try simp only[*,go_sem,seval]
 refine Zh h (fun i _ st=>IV [(1,.bp 0 0),(5,.p false [.row 1]),(17,yM (yW r_0.cond)),(18,yL r_0.cond.length),(19,yL o),(31,.p false [.row 2]),(32,yL b.length),(33,yL i)] [zC 76 (ZL r_0),.row 9 1 (A0 ZA w) 2,.row 9 1 (A0 ZA b) 2] st) [] [0,193,241] yF yD ?_ ?_
 rintro _ _ ⟨⟩ ⟨_,_,_⟩ _ d f z h A
 simp only[go_sem,seval,Zb] at f
 obtain ⟨⟨_,_,_,_,_,_,_,_⟩,_,_,B,hn⟩:=f
 subst hn
 have C:=WF.rowL z B
 have:=ZC d
 have:=ZE d
 have:=Zk (ZD d) C
 try simp only[*,go_sem,seval]
 obtain ⟨_,D,h⟩:=Za h
 refine Zd (ZaB D) ?_
 try simp only[*,go_sem,seval]
 refine yB h (fun _ h=>?_) fun _ h=>?_
 refine ⟨_,[],[0,1,2],(A4 h).symm,yF,?_⟩
 try simp only[*,go_sem,seval]
 replace h:=Zr h A
 replace h:=Zr h t
 cases h
 try simp only[*,go_sem,seval]
 rintro ⟨⟩ ⟨_,_,_⟩ g _ h
 simp only[go_sem,seval,Zb] at g
 obtain ⟨⟨_,_,_,_,_,_,_,_⟩,_,_,_,hn⟩:=g
 subst hn
 have:=ZB (b.length)
 try simp only[*,go_sem,seval]
 refine ⟨_,[],[0],(A4 h).symm,yF,?_⟩
 try simp only[*,go_sem,seval]
 rintro ⟨⟩ ⟨_,_,_⟩ k _ h
 simp only[go_sem,seval,Zb] at k
 obtain ⟨⟨_,_,_,_⟩,_,hn⟩:=k
 subst hn
 have:=ZB (r_0.cond.length)
 iterate 3 (cases h;try simp only[*,go_sem,seval])
theorem ZeX {append_0:Zg} {r:Bool} (h:ZcZ append_0=some r):Zm prog J0 120 [(true,ZL append_0)] [(false,[(false,.bool r)])]:=by
 refine fnk func120 rfl ?_
 unfold ZcZ at h
 simp only[fnS,f120,Zo,go_sem,seval]
 obtain ⟨_,H,h⟩:=Za h
 refine Zd (Zg3 H) ?_
 try simp only[*,go_sem,seval]
 refine yB h (fun _ h=>?_) fun _ h=>?_
 obtain ⟨_,I,h⟩:=Za h
 refine Zd (XM I) ?_
 try simp only[*,go_sem,seval]
 refine yB h (fun _ h=>?_) fun _ h=>?_
 obtain ⟨_,J,h⟩:=Za h
 refine Zd (XM J) ?_
 try simp only[*,go_sem,seval]
 refine yB h (fun _ h=>?_) fun _ h=>?_
 obtain ⟨_,K,h⟩:=Za h
 refine Zd (XM K) ?_
 try simp only[*,go_sem,seval]
 refine yB h (fun _ h=>?_) fun _ h=>?_
 obtain ⟨e,L,h⟩:=Za h
 refine Zd (ZbG L) ?_
 try simp only[*,go_sem,seval]
 refine Zh h (fun i _ st=>IV [(1,.bp 0 0),(3,.p false [.row 1]),(4,yL i)] [zC 76 (ZL append_0),.row 9 1 (A0 ZA e) 2] st) [] [0,480] yF yD ?_ ?_
 rintro b a ⟨⟩ ⟨_,_,_⟩ _ f o M h d
 simp only[go_sem,seval,Zb] at o
 obtain ⟨⟨_,_,_⟩,N,_,hn⟩:=o
 subst hn
 have O:=WF.boxL M N (j:=2) rfl
 have:=ZC f
 have:=ZE f
 have:=Zk (ZD f) O
 try simp only[*,go_sem,seval]
 obtain ⟨_,P,h⟩:=Za h
 refine Zd (ZgO P) ?_
 try simp only[*,go_sem,seval]
 iterate 3 refine yB h (fun _ h=>?_) fun _ h=>?_
 replace h:=Zr h d
 cases h
 try simp only[*,go_sem,seval]
 obtain ⟨Q,R,h⟩:=Za h
 refine Zd (ZbG R) ?_
 try simp only[*,go_sem,seval]
 obtain ⟨q,S,h⟩:=Za h
 refine Zd (ZaP S) ?_
 try simp only[*,go_sem,seval]
 refine Zh h (fun i _ st=>IV [(1,.bp 0 0),(3,.p false [.row 1]),(4,yL b),(5,.bp 2 0),(6,.p false [.row 3]),(7,.p false [.row 4]),(8,yL i),(58,yL b),(59,yM (.bool (((b:Nat):Int)==0))),(60,yM (.bool (((b:Nat):Int)==0))),(61,.bp 2 0),(62,yM (.int .i64 a.kind)),(63,yM (.bool (a.kind != 1))),(64,yM (.bool (a.kind != 1)))] [zC 76 (ZL append_0),.row 9 1 (A0 ZA e) 2,zC 80 (ZJ a),.row 9 1 (A0 ZA Q) 2,.row 9 1 (A0 ZA q) 2] st) [] [0,1,162,418,466] yF yD ?_ ?_
 rintro _ _ ⟨⟩ ⟨_,_,_⟩ _ g t T h u
 simp only[go_sem,seval,Zb] at t
 obtain ⟨⟨_,_,_,_,_,_,_,_,_,_,_,_,_,_⟩,_,_,_,_,U,hn⟩:=t
 subst hn
 have V:=WF.rowL T U
 have:=ZC g
 have:=ZE g
 have:=Zk (ZD g) V
 try simp only[*,go_sem,seval]
 obtain ⟨_,W,h⟩:=Za h
 refine Zd (YQ W) ?_
 try simp only[*,go_sem,seval]
 obtain ⟨_,X,h⟩:=Za h
 refine Zd (Zhi X) ?_
 try simp only[*,go_sem,seval]
 iterate 3 refine yB h (fun _ h=>?_) fun _ h=>?_
 refine ⟨_,[],[0,1,2,3,4],(A4 h).symm,yF,?_⟩
 try simp only[*,go_sem,seval]
 refine ⟨_,[],[0,1,2,3,4],(A4 h).symm,yF,?_⟩
 try simp only[*,go_sem,seval]
 replace h:=Zr h u
 replace h:=Zr h d
 cases h
 try simp only[*,go_sem,seval]
 iterate 2 refine yB h (fun _ h=>?_) fun _ h=>?_
 refine ⟨_,[],[0,1,2,3,4],(A4 h).symm,yF,?_⟩
 try simp only[*,go_sem,seval]
 obtain ⟨_,Y,h⟩:=Za h
 refine Zd (Zfu Y) ?_
 try simp only[*,go_sem,seval]
 refine yB h (fun _ h=>?_) fun _ h=>?_
 replace h:=Zr h u
 replace h:=Zr h d
 cases h
 try simp only[*,go_sem,seval]
 refine ⟨_,[],[0,1,2,3,4],(A4 h).symm,yF,?_⟩
 try simp only[*,go_sem,seval]
 refine ⟨_,[],[0,1,2,3,4],(A4 h).symm,yF,?_⟩
 try simp only[*,go_sem,seval]
 rintro ⟨⟩ ⟨_,_,_⟩ v _ h
 simp only[go_sem,seval,Zb] at v
 obtain ⟨⟨_,_,_,_,_,_,_,_,_,_,_,_,_,_⟩,_,_,_,_,_,hn⟩:=v
 subst hn
 have:=ZB (q.length)
 try simp only[*,go_sem,seval]
 refine ⟨_,[],[0,1],(A4 h).symm,yF,?_⟩
 try simp only[*,go_sem,seval]
 obtain ⟨Z,aa,h⟩:=Za h
 refine Zd (ZbG aa) ?_
 try simp only[*,go_sem,seval]
 obtain ⟨w,ab,h⟩:=Za h
 refine Zd (ZaP ab) ?_
 try simp only[*,go_sem,seval]
 refine Zh h (fun i _ st=>IV [(1,.bp 0 0),(3,.p false [.row 1]),(4,yL b),(5,.bp 2 0),(6,.p false [.row 3]),(7,.p false [.row 4]),(8,yL i),(58,yL b),(59,yM (.bool (((b:Nat):Int)==0))),(60,yM (.bool (((b:Nat):Int)==0))),(64,yM (.bool false))] [zC 76 (ZL append_0),.row 9 1 (A0 ZA e) 2,zC 80 (ZJ a),.row 9 1 (A0 ZA Z) 2,.row 9 1 (A0 ZA w) 2] st) [] [0,1,162,418,466] yF yD ?_ ?_
 rintro _ _ ⟨⟩ ⟨_,_,_⟩ _ k x ac h y
 simp only[go_sem,seval,Zb] at x
 obtain ⟨⟨_,_,_,_,_,_,_,_,_,_,_⟩,_,_,_,_,ad,hn⟩:=x
 subst hn
 have ae:=WF.rowL ac ad
 have:=ZC k
 have:=ZE k
 have:=Zk (ZD k) ae
 try simp only[*,go_sem,seval]
 obtain ⟨_,af,h⟩:=Za h
 refine Zd (YQ af) ?_
 try simp only[*,go_sem,seval]
 obtain ⟨_,ag,h⟩:=Za h
 refine Zd (Zhi ag) ?_
 try simp only[*,go_sem,seval]
 iterate 3 refine yB h (fun _ h=>?_) fun _ h=>?_
 refine ⟨_,[],[0,1,2,3,4],(A4 h).symm,yF,?_⟩
 try simp only[*,go_sem,seval]
 refine ⟨_,[],[0,1,2,3,4],(A4 h).symm,yF,?_⟩
 try simp only[*,go_sem,seval]
 replace h:=Zr h y
 replace h:=Zr h d
 cases h
 try simp only[*,go_sem,seval]
 iterate 2 refine yB h (fun _ h=>?_) fun _ h=>?_
 refine ⟨_,[],[0,1,2,3,4],(A4 h).symm,yF,?_⟩
 try simp only[*,go_sem,seval]
 obtain ⟨_,ah,h⟩:=Za h
 refine Zd (Zfu ah) ?_
 try simp only[*,go_sem,seval]
 refine yB h (fun _ h=>?_) fun _ h=>?_
 replace h:=Zr h y
 replace h:=Zr h d
 cases h
 try simp only[*,go_sem,seval]
 refine ⟨_,[],[0,1,2,3,4],(A4 h).symm,yF,?_⟩
 try simp only[*,go_sem,seval]
 refine ⟨_,[],[0,1,2,3,4],(A4 h).symm,yF,?_⟩
 try simp only[*,go_sem,seval]
 rintro ⟨⟩ ⟨_,_,_⟩ z _ h
 simp only[go_sem,seval,Zb] at z
 obtain ⟨⟨_,_,_,_,_,_,_,_,_,_,_⟩,_,_,_,_,_,hn⟩:=z
 subst hn
 have:=ZB (w.length)
 try simp only[*,go_sem,seval]
 refine ⟨_,[],[0,1],(A4 h).symm,yF,?_⟩
 try simp only[*,go_sem,seval]
 replace h:=Zr h d
 cases h
 try simp only[*,go_sem,seval]
 rintro ⟨⟩ ⟨_,_,_⟩ A _ h
 simp only[go_sem,seval,Zb] at A
 obtain ⟨⟨_,_,_⟩,_,_,hn⟩:=A
 subst hn
 have:=ZB (append_0.cond.length)
 try simp only[*,go_sem,seval]
 refine Zh h (fun i _ st=>IV [(1,.bp 0 0),(3,.p false [.row 1]),(10,yL i)] [zC 76 (ZL append_0),.row 9 1 (A0 ZA e) 2] st) [] [0,1] yF yD ?_ ?_
 rintro ai _ ⟨⟩ ⟨_,_,_⟩ _ l B aj h C
 simp only[go_sem,seval,Zb] at B
 obtain ⟨⟨_,_,_⟩,ak,_,hn⟩:=B
 subst hn
 have al:=WF.boxL aj ak (j:=3) rfl
 have:=ZC l
 have:=ZE l
 have:=Zk (ZD l) al
 try simp only[*,go_sem,seval]
 obtain ⟨_,am,h⟩:=Za h
 refine Zd (Zn1 am) ?_
 try simp only[*,go_sem,seval]
 refine yB h (fun _ h=>?_) fun _ h=>?_
 obtain ⟨D,an,h⟩:=Za h
 refine Zd (Zc6 an) ?_
 try simp only[*,go_sem,seval]
 refine Zh h (fun i _ st=>IV [(1,.bp 0 0),(3,.p false [.row 1]),(10,yL ai),(11,.p false [.row 2]),(12,yL i)] [zC 76 (ZL append_0),.row 9 1 (A0 ZA e) 2,.row 9 1 (A0 ZA D) 2] st) [] [0,1,290] yF yD ?_ ?_
 rintro _ _ ⟨⟩ ⟨_,_,_⟩ _ m E ao h ap
 simp only[go_sem,seval,Zb] at E
 obtain ⟨⟨_,_,_,_,_⟩,_,_,aq,hn⟩:=E
 subst hn
 have ar:=WF.rowL ao aq
 have:=ZC m
 have:=ZE m
 have:=Zk (ZD m) ar
 try simp only[*,go_sem,seval]
 obtain ⟨_,au,h⟩:=Za h
 refine Zd (YQ au) ?_
 try simp only[*,go_sem,seval]
 refine yB h (fun _ h=>?_) fun _ h=>?_
 refine ⟨_,[],[0,1,2],(A4 h).symm,yF,?_⟩
 try simp only[*,go_sem,seval]
 replace h:=Zr h ap
 replace h:=Zr h C
 cases h
 try simp only[*,go_sem,seval]
 rintro ⟨⟩ ⟨_,_,_⟩ F _ h
 simp only[go_sem,seval,Zb] at F
 obtain ⟨⟨_,_,_,_,_⟩,_,_,_,hn⟩:=F
 subst hn
 have:=ZB (D.length)
 try simp only[*,go_sem,seval]
 refine ⟨_,[],[0,1],(A4 h).symm,yF,?_⟩
 try simp only[*,go_sem,seval]
 replace h:=Zr h C
 cases h
 try simp only[*,go_sem,seval]
 rintro ⟨⟩ ⟨_,_,_⟩ G _ h
 simp only[go_sem,seval,Zb] at G
 obtain ⟨⟨_,_,_⟩,_,_,hn⟩:=G
 subst hn
 have:=ZB (append_0.thn.length)
 try simp only[*,go_sem,seval]
 obtain ⟨_,av,h⟩:=Za h
 refine Zd (Zof av) ?_
 iterate 5 (cases h;try simp only[*,go_sem,seval])
theorem Zmo {x_0:Zl} {b_1:(List Zi)} {r:Bool} (h:ZcI x_0 b_1=some r):Zm prog J0 284 [(true,ZJ x_0),(false,[.sl 162 2 (A0 ZR b_1)])] [(false,[(false,.bool r)])]:=by
 refine fnk func284 rfl ?_
 unfold ZcI at h
 simp only[fnS,f284,Zo,go_sem,seval]
 obtain ⟨_,a,h⟩:=Za h
 refine Zd (Zhi a) ?_
 try simp only[*,go_sem,seval]
 refine yB h (fun _ h=>?_) fun _ h=>?_
 obtain ⟨_,b,h⟩:=Za h
 refine Zd (Zan b) ?_
 try simp only[*,go_sem,seval]
 refine yB h (fun _ h=>?_) fun _ h=>?_
 obtain ⟨_,c,h⟩:=Za h
 refine Zd (Zdu c) ?_
 try simp only[*,go_sem,seval]
 obtain ⟨_,d,h⟩:=Za h
 refine Zd (Zdu d) ?_
 try simp only[*,go_sem,seval]
 iterate 3 refine yB h (fun _ h=>?_) fun _ h=>?_
 cases h
 try simp only[*,go_sem,seval]
 refine yB h (fun _ h=>?_) fun _ h=>?_
 cases h
 try simp only[*,go_sem,seval]
 obtain ⟨_,e,h⟩:=Za h
 refine Zd (Ziy e) ?_
 try simp only[*,go_sem,seval]
 refine yB h (fun _ h=>?_) fun _ h=>?_
 obtain ⟨_,f,h⟩:=Za h
 refine Zd (Ziy f) ?_
 try simp only[*,go_sem,seval]
 refine yB h (fun _ h=>?_) fun _ h=>?_
 obtain ⟨_,g,h⟩:=Za h
 refine Zd (ZeI g) ?_
 iterate 7 (cases h;try simp only[*,go_sem,seval])
theorem Zul {l_0:(List Zc)} {b_1:Zt} {r:(List Zc)} (h:ZjI l_0 b_1=some r):Zm prog J0 103 [(false,[.sl 53 2 (A0 Zs l_0)]),(true,Qu b_1)] [(false,[(false,.sl 53 2 (A0 Zs r))])]:=by
 refine fnk func103 rfl ?_
 unfold ZjI at h
 simp only[fnS,f103,Zo,go_sem,seval]
 obtain ⟨f,g,h⟩:=Za h
 refine Zd (Zog g) ?_
 try simp only[*,go_sem,seval]
 refine Zh h (fun i a st=>IV [(0,yM (yT l_0)),(5,.p false [.row 0]),(6,.p false [.row 1]),(7,yL i)] [.row 53 2 (A0 Zs a) 2,.row 4 1 (A0 Ze4 f) 2] st) [] [32,80] yF yD ?_ ?_
 rintro _ _ a ⟨_,_,_⟩ _ b d k h l
 simp only[go_sem,seval,Zb] at d
 obtain ⟨⟨m,_,_,_⟩,_,_,hn⟩:=d
 subst hn
 have o:=WF.slotL k m (j:=0) rfl
 have:=ZC b
 have:=ZE b
 have:=Zk (ZD b) o
 try simp only[*,go_sem,seval]
 refine yB h (fun _ h=>?_) fun _ h=>?_
 obtain ⟨_,h⟩:=Zv h
 obtain ⟨_,_,h⟩:=Za h
 try simp only[*,go_sem,seval]
 refine yB h (fun _ h=>?_) fun _ h=>?_
 obtain ⟨_,q,h⟩:=Za h
 refine Zd (Xr q) ?_
 obtain ⟨t,h⟩:=Zv h
 try simp only[Nat.reduceLeDiff] at t
 try simp only[*,go_sem,seval]
 refine ⟨_,[],[338,1],(A4 h).symm,yF,?_⟩
 try simp only[*,go_sem,seval]
 refine ⟨_,[],[0,1],(A4 h).symm,yF,?_⟩
 try simp only[*,go_sem,seval]
 replace h:=Zr h l
 cases h
 try simp only[*,go_sem,seval]
 rintro a ⟨_,_,_⟩ e _ h
 simp only[go_sem,seval,Zb] at e
 obtain ⟨⟨_,_,_,_⟩,_,_,hn⟩:=e
 subst hn
 have:=ZB (l_0.length)
 cases h
 try simp only[*,go_sem,seval]
theorem ZlV {l_0:(List Zl)} {r:Bool} (h:ZaE l_0=some r):Zm prog J0 69 [(false,[.sl 80 5 (A0 ZJ l_0)])] [(false,[(false,.bool r)])]:=by
 refine fnk func69 rfl ?_
 unfold ZaE at h
 simp only[fnS,f69,Zo,go_sem,seval]
 obtain ⟨_,a,h⟩:=Za h
 refine ZnA (ZrN a) ?_
 try simp only[*,go_sem,seval]
 obtain ⟨_,b,h⟩:=Za h
 refine Zd (ZhM b) ?_
 cases h
 try simp only[*,go_sem,seval]
end
section
theorem Ziw {append_0:(List Zl)} {String_1:(List Zc)} {r:(List Zq)} (h:Zao append_0 String_1=some r):Zm prog J0 70 [(false,[.sl 80 5 (A0 ZJ append_0)]),(false,[.sl 53 2 (A0 Zs String_1)])] [(false,[(true,.sl 111 2 (A0 YU r))])]:=by
 refine fnk func70 rfl ?_
 unfold Zao at h
 simp only[fnS,f70,Zo,go_sem,seval]
 refine Zh h (fun i b st=>IV [(1,yM (yT String_1)),(5,.p false [.row 0]),(17,yM (yW append_0)),(18,yL append_0.length),(19,yL i)] [.row 111 2 (A0 YU b) 1] st) [(true,32,1)] [32] yF yD ?_ ?_
 rintro l a b ⟨_,_,_⟩ _ d m x h _
 simp only[go_sem,seval,Zb] at m
 obtain ⟨⟨_,_,y,_,_⟩,_,hn⟩:=m
 subst hn
 have z:=WF.slotL x y (j:=0) rfl
 have:=ZC d
 have:=ZE d
 have:=Zk (ZD d) z
 try simp only[*,go_sem,seval]
 refine Zh h (fun i e st=>IV [(1,yM (yT String_1)),(7,.bp 0 0),(8,.p false [.row 1]),(17,yM (yW append_0)),(18,yL append_0.length),(19,yL l),(23,.p false [.row 2]),(24,yL b.length),(25,yL i)] [zC 80 (ZJ a),.row 111 2 (A0 YU e) 1,.row 111 2 (A0 YU b) 1] st) [(false,8,0),(true,145,1)] [49,145,0] yF yD ?_ ?_
 rintro A o e ⟨_,_,_⟩ _ f q B h _
 simp only[go_sem,seval,Zb] at q
 obtain ⟨⟨_,_,_,_,_,_,_,_,_⟩,_,_,C,hn⟩:=q
 subst hn
 have D:=WF.rowL B C
 have:=ZC f
 have:=ZE f
 have:=Zk (ZD f) D
 try simp only[*,go_sem,seval]
 refine yB h (fun _ h=>?_) fun _ h=>?_
 obtain ⟨_,E,h⟩:=Za h
 refine Zd (Zhh E) ?_
 try simp only[*,go_sem,seval]
 refine yB h (fun _ h=>?_) fun _ h=>?_
 obtain ⟨F,h⟩:=Zv h
 try simp only[Nat.reduceLeDiff] at F
 try simp only[*,go_sem,seval]
 refine ⟨_,[],[0,259,2],(A4 h).symm,yF,?_⟩
 try simp only[*,go_sem,seval]
 refine ⟨_,[],[0,1,2],(A4 h).symm,yF,?_⟩
 try simp only[*,go_sem,seval]
 refine Zh h (fun i g st=>IV [(1,yM (yT String_1)),(7,.bp 0 0),(8,.p false [.row 1]),(10,.bp 2 0),(17,yM (yW append_0)),(18,yL append_0.length),(19,yL l),(23,.p false [.row 3]),(24,yL b.length),(25,yL A),(41,yM (yT String_1)),(42,yL String_1.length),(43,yL i)] [zC 80 (ZJ a),.row 111 2 (A0 YU g) 1,zC 111 (YU o),.row 111 2 (A0 YU b) 1] st) [] [0,1,51,2] yF yD ?_ ?_
 rintro _ _ g ⟨_,_,_⟩ _ k t G h _
 simp only[go_sem,seval,Zb] at t
 obtain ⟨⟨H,_,_,_,_,_,_,_,_,_,_,_,_⟩,_,_,_,_,hn⟩:=t
 subst hn
 have I:=WF.slotL G H (j:=0) rfl
 have:=ZC k
 have:=ZE k
 have:=Zk (ZD k) I
 try simp only[*,go_sem,seval]
 obtain ⟨_,J,h⟩:=Za h
 refine Zd (ZbH J) ?_
 try simp only[*,go_sem,seval]
 refine yB h (fun _ h=>?_) fun _ h=>?_
 obtain ⟨_,K,h⟩:=Za h
 refine Zd (ZdW K) ?_
 try simp only[*,go_sem,seval]
 obtain ⟨_,L,h⟩:=Za h
 refine Zd (YO L) ?_
 obtain ⟨M,h⟩:=Zv h
 try simp only[Nat.reduceLeDiff] at M
 obtain ⟨N,h⟩:=Zv h
 try simp only[Nat.reduceLeDiff] at N
 try simp only[*,go_sem,seval]
 refine ⟨_,[],[0,452,2,3],(A4 h).symm,yF,?_⟩
 try simp only[*,go_sem,seval]
 refine ⟨_,[],[0,1,2,3],(A4 h).symm,yF,?_⟩
 try simp only[*,go_sem,seval]
 rintro g ⟨_,_,_⟩ u _ h
 simp only[go_sem,seval,Zb] at u
 obtain ⟨⟨_,_,_,_,_,_,_,_,_,_,_,_,_⟩,_,_,_,_,hn⟩:=u
 subst hn
 have:=ZB (String_1.length)
 try simp only[*,go_sem,seval]
 refine ⟨_,[],[0,1,3],(A4 h).symm,yF,?_⟩
 try simp only[*,go_sem,seval]
 rintro e ⟨_,_,_⟩ v _ h
 simp only[go_sem,seval,Zb] at v
 obtain ⟨⟨_,_,_,_,_,_,_,_,_⟩,_,_,_,hn⟩:=v
 subst hn
 have:=ZB (b.length)
 try simp only[*,go_sem,seval]
 refine ⟨_,[],[1],(A4 h).symm,yF,?_⟩
 try simp only[*,go_sem,seval]
 rintro b ⟨_,_,_⟩ w _ h
 simp only[go_sem,seval,Zb] at w
 obtain ⟨⟨_,_,_,_,_⟩,_,hn⟩:=w
 subst hn
 have:=ZB (append_0.length)
 cases h
 try simp only[*,go_sem,seval]
theorem ZlT {rules_0:(List Zg)} {r:Bool} (h:ZbT rules_0=some r):Zm prog J0 255 [(false,[.sl 76 4 (A0 ZL rules_0)])] [(false,[(false,.bool r)])]:=by
 refine fnk func255 rfl ?_
 unfold ZbT at h
 simp only[fnS,f255,Zo,go_sem,seval]
 obtain ⟨_,y,h⟩:=Za h
 refine Zd (Zoo y) ?_
 try simp only[*,go_sem,seval]
 refine yB h (fun _ h=>?_) fun _ h=>?_
 refine Zh h (fun i _ st=>IV [(0,yM (yY rules_0)),(13,yM (yY rules_0)),(14,yL rules_0.length),(15,yL i)] [] st) [] [] yF yD ?_ ?_
 rintro l a ⟨⟩ ⟨_,_,_⟩ _ d m z h e
 simp only[go_sem,seval,Zb] at m
 obtain ⟨⟨A,_,_,_⟩,hn⟩:=m
 subst hn
 have B:=WF.slotL z A (j:=0) rfl
 have:=ZC d
 have:=ZE d
 have:=Zk (ZD d) B
 try simp only[*,go_sem,seval]
 obtain ⟨_,C,h⟩:=Za h
 refine Zd (Zl7 C) ?_
 try simp only[*,go_sem,seval]
 refine yB h (fun _ h=>?_) fun _ h=>?_
 refine Zh h (fun i _ st=>IV [(0,yM (yY rules_0)),(4,.bp 0 0),(13,yM (yY rules_0)),(14,yL rules_0.length),(15,yL l),(23,yM (yW a.cond)),(24,yL a.cond.length),(25,yL i)] [zC 76 (ZL a)] st) [] [48] yF yD ?_ ?_
 rintro D b ⟨⟩ ⟨_,_,_⟩ _ f o E h q
 simp only[go_sem,seval,Zb] at o
 obtain ⟨⟨_,_,_,_,_,F,_,_⟩,_,hn⟩:=o
 subst hn
 have G:=WF.slotL E F (j:=0) rfl
 have:=ZC f
 have:=ZE f
 have:=Zk (ZD f) G
 try simp only[*,go_sem,seval]
 refine yB h (fun _ h=>?_) fun _ h=>?_
 refine ⟨_,[],[0],(A4 h).symm,yF,?_⟩
 try simp only[*,go_sem,seval]
 obtain ⟨H,I,h⟩:=Za h
 refine ZDu (ZoC I) ?_
 try simp only[*,go_sem,seval]
 obtain ⟨g,J,h⟩:=Za h
 refine Zd (Zit J) ?_
 try simp only[*,go_sem,seval]
 refine Zh h (fun i _ st=>IV [(0,yM (yY rules_0)),(4,.bp 0 0),(6,.bp 1 0),(7,.p false [.row 2]),(13,yM (yY rules_0)),(14,yL rules_0.length),(15,yL l),(23,yM (yW a.cond)),(24,yL a.cond.length),(25,yL D),(38,.p false [.row 3]),(39,yL g.length),(40,yL i)] [zC 76 (ZL a),zC 80 (ZJ b),.map .str .bool (A0 eSB H),.row 9 1 (A0 ZA g) 2] st) [] [0,49,193,241] yF yD ?_ ?_
 rintro _ _ ⟨⟩ ⟨_,_,_⟩ _ k t K h u
 simp only[go_sem,seval,Zb] at t
 obtain ⟨⟨_,_,_,_,_,_,_,_,_,_,_,_,_⟩,_,_,_,L,hn⟩:=t
 subst hn
 have M:=WF.rowL K L
 have:=ZC k
 have:=ZE k
 have:=Zk (ZD k) M
 try simp only[*,go_sem,seval]
 refine yB h (fun _ h=>?_) fun _ h=>?_
 replace h:=Zr h u
 replace h:=Zr h q
 replace h:=Zr h e
 cases h
 try simp only[*,go_sem,seval]
 refine yB h (fun _ h=>?_) fun _ h=>?_
 replace h:=Zr h u
 replace h:=Zr h q
 replace h:=Zr h e
 cases h
 try simp only[*,go_sem,seval]
 refine ⟨_,[],[0,1,2,3],(A4 h).symm,yF,?_⟩
 try simp only[*,go_sem,seval]
 rintro ⟨⟩ ⟨_,_,_⟩ v _ h
 simp only[go_sem,seval,Zb] at v
 obtain ⟨⟨_,_,_,_,_,_,_,_,_,_,_,_,_⟩,_,_,_,_,hn⟩:=v
 subst hn
 have:=ZB (g.length)
 try simp only[*,go_sem,seval]
 refine ⟨_,[],[0],(A4 h).symm,yF,?_⟩
 try simp only[*,go_sem,seval]
 rintro ⟨⟩ ⟨_,_,_⟩ w _ h
 simp only[go_sem,seval,Zb] at w
 obtain ⟨⟨_,_,_,_,_,_,_,_⟩,_,hn⟩:=w
 subst hn
 have:=ZB (a.cond.length)
 try simp only[*,go_sem,seval]
 refine ⟨_,[],[],(A4 h).symm,yF,?_⟩
 try simp only[*,go_sem,seval]
 replace h:=Zr h e
 cases h
 try simp only[*,go_sem,seval]
 rintro ⟨⟩ ⟨_,_,_⟩ x _ h
 simp only[go_sem,seval,Zb] at x
 obtain ⟨⟨_,_,_,_⟩,hn⟩:=x
 subst hn
 have:=ZB (rules_0.length)
 iterate 2 (cases h;try simp only[*,go_sem,seval])
theorem Znz {x_0:Zl} {b_1:(List Zi)} {facts_2:(List Zc)} {r:Bool} (h:ZcP x_0 b_1 facts_2=some r):Zm prog J0 243 [(true,ZJ x_0),(false,[.sl 162 2 (A0 ZR b_1)]),(false,[.sl 53 2 (A0 Zs facts_2)])] [(false,[(false,.bool r)])]:=by
 refine fnk func243 rfl ?_
 unfold ZcP at h
 simp only[fnS,f243,Zo,go_sem,seval]
 obtain ⟨_,a,h⟩:=Za h
 refine Zd (ZgO a) ?_
 try simp only[*,go_sem,seval]
 refine yB h (fun _ h=>?_) fun _ h=>?_
 obtain ⟨_,b,h⟩:=Za h
 refine Zd (Zan b) ?_
 try simp only[*,go_sem,seval]
 iterate 2 refine yB h (fun _ h=>?_) fun _ h=>?_
 obtain ⟨_,c,h⟩:=Za h
 refine Zd (Zd2 c) ?_
 cases h
 try simp only[*,go_sem,seval]
 refine yB h (fun _ h=>?_) fun _ h=>?_
 obtain ⟨_,d,h⟩:=Za h
 refine Zd (Zd2 d) ?_
 cases h
 try simp only[*,go_sem,seval]
 obtain ⟨_,e,h⟩:=Za h
 refine Zd (Zmo e) ?_
 iterate 3 (cases h;try simp only[*,go_sem,seval])
theorem Znx {r_0:Zg} {r:Bool} (h:Zc1 r_0=some r):Zm prog J0 271 [(true,ZL r_0)] [(false,[(false,.bool r)])]:=by
 refine fnk func271 rfl ?_
 unfold Zc1 at h
 simp only[fnS,f271,Zo,go_sem,seval]
 obtain ⟨_,k,h⟩:=Za h
 refine Zd (ZeX k) ?_
 try simp only[*,go_sem,seval]
 refine yB h (fun _ h=>?_) fun _ h=>?_
 refine Zh h (fun i _ st=>IV [(1,.bp 0 0),(3,yL i)] [zC 76 (ZL r_0)] st) [] [0] yF yD ?_ ?_
 rintro _ _ ⟨⟩ ⟨_,_,_⟩ _ a d l h m
 simp only[go_sem,seval,Zb] at d
 obtain ⟨⟨_,_⟩,o,hn⟩:=d
 subst hn
 have q:=WF.boxL l o (j:=2) rfl
 have:=ZC a
 have:=ZE a
 have:=Zk (ZD a) q
 try simp only[*,go_sem,seval]
 refine yB h (fun _ h=>?_) fun _ h=>?_
 obtain ⟨_,t,h⟩:=Za h
 refine Zd (ZaP t) ?_
 try simp only[*,go_sem,seval]
 obtain ⟨_,u,h⟩:=Za h
 refine Zd (ZbG u) ?_
 try simp only[*,go_sem,seval]
 obtain ⟨_,v,h⟩:=Za h
 refine Zd (Zop v) ?_
 try simp only[*,go_sem,seval]
 refine yB h (fun _ h=>?_) fun _ h=>?_
 refine ⟨_,[],[0],(A4 h).symm,yF,?_⟩
 try simp only[*,go_sem,seval]
 replace h:=Zr h m
 cases h
 try simp only[*,go_sem,seval]
 refine ⟨_,[],[0],(A4 h).symm,yF,?_⟩
 try simp only[*,go_sem,seval]
 rintro ⟨⟩ ⟨_,_,_⟩ e _ h
 simp only[go_sem,seval,Zb] at e
 obtain ⟨⟨_,_⟩,_,hn⟩:=e
 subst hn
 have:=ZB (r_0.cond.length)
 try simp only[*,go_sem,seval]
 refine Zh h (fun i _ st=>IV [(1,.bp 0 0),(4,yL i)] [zC 76 (ZL r_0)] st) [] [0] yF yD ?_ ?_
 rintro _ _ ⟨⟩ ⟨_,_,_⟩ _ b f w h x
 simp only[go_sem,seval,Zb] at f
 obtain ⟨⟨_,_⟩,y,hn⟩:=f
 subst hn
 have z:=WF.boxL w y (j:=3) rfl
 have:=ZC b
 have:=ZE b
 have:=Zk (ZD b) z
 try simp only[*,go_sem,seval]
 refine yB h (fun _ h=>?_) fun _ h=>?_
 replace h:=Zr h x
 cases h
 try simp only[*,go_sem,seval]
 refine ⟨_,[],[0],(A4 h).symm,yF,?_⟩
 try simp only[*,go_sem,seval]
 rintro ⟨⟩ ⟨_,_,_⟩ g _ h
 simp only[go_sem,seval,Zb] at g
 obtain ⟨⟨_,_⟩,_,hn⟩:=g
 subst hn
 have:=ZB (r_0.thn.length)
 iterate 2 (cases h;try simp only[*,go_sem,seval])
theorem Zn8 {l_0:(List Zg)} {r:Bool} (h:Zd4 l_0=some r):Zm prog J0 274 [(false,[.sl 76 4 (A0 ZL l_0)])] [(false,[(false,.bool r)])]:=by
 refine fnk func274 rfl ?_
 unfold Zd4 at h
 simp only[fnS,f274,Zo,go_sem,seval]
 refine Zh h (fun i _ st=>IV [(0,yM (yY l_0)),(3,yL i)] [] st) [] [] yF yD ?_ ?_
 rintro _ _ ⟨⟩ ⟨_,_,_⟩ _ a b f h d
 simp only[go_sem,seval,Zb] at b
 obtain ⟨⟨g,_⟩,hn⟩:=b
 subst hn
 have k:=WF.slotL f g (j:=0) rfl
 have:=ZC a
 have:=ZE a
 have:=Zk (ZD a) k
 try simp only[*,go_sem,seval]
 obtain ⟨_,l,h⟩:=Za h
 refine Zd (ZeX l) ?_
 try simp only[*,go_sem,seval]
 refine yB h (fun _ h=>?_) fun _ h=>?_
 obtain ⟨_,m,h⟩:=Za h
 refine Zd (Zob m) ?_
 try simp only[*,go_sem,seval]
 refine yB h (fun _ h=>?_) fun _ h=>?_
 replace h:=Zr h d
 cases h
 try simp only[*,go_sem,seval]
 refine ⟨_,[],[],(A4 h).symm,yF,?_⟩
 try simp only[*,go_sem,seval]
 replace h:=Zr h d
 cases h
 try simp only[*,go_sem,seval]
 rintro ⟨⟩ ⟨_,_,_⟩ e _ h
 simp only[go_sem,seval,Zb] at e
 obtain ⟨⟨_,_⟩,hn⟩:=e
 subst hn
 have:=ZB (l_0.length)
 cases h
 try simp only[*,go_sem,seval]
theorem ZlN {l_0:(List Zl)} {r:Bool} (h:ZbL l_0=some r):Zm prog J0 61 [(false,[.sl 80 5 (A0 ZJ l_0)])] [(false,[(false,.bool r)])]:=by
 refine fnk func61 rfl ?_
 unfold ZbL at h
 simp only[fnS,f61,Zo,go_sem,seval]
 obtain ⟨_,a,h⟩:=Za h
 refine Zd (ZjM a) ?_
 try simp only[*,go_sem,seval]
 obtain ⟨_,b,h⟩:=Za h
 refine Zd (ZeX b) ?_
 cases h
 try simp only[*,go_sem,seval]
end
section
theorem Zjc {a:(List Zg)} {String_1:(List Zc)} {r:((List Zc) × Bool)} (h:YB a String_1=some r):Zm prog J0 215 [(false,[.sl 76 4 (A0 ZL a)]),(false,[.sl 53 2 (A0 Zs String_1)])] [(false,[(false,.sl 53 2 (A0 Zs r.1))]),(false,[(false,.bool r.2)])]:=by
 refine fnn 4 func215 rfl ?_
 unfold YB at h
 simp only[fnN,f215,Zo,go_sem,seval]
 obtain ⟨_,H,h⟩:=Za h
 refine Zd (ZlT H) ?_
 try simp only[*,go_sem,seval]
 refine yB h (fun _ h=>?_) fun _ h=>?_
 obtain ⟨_,I,h⟩:=Za h
 refine Zd (Zom I) ?_
 try simp only[*,go_sem,seval]
 refine yB h (fun _ h=>?_) fun _ h=>?_
 obtain ⟨_,J,h⟩:=Za h
 refine Zd (ZdW J) ?_
 try simp only[*,go_sem,seval]
 refine Xj h (fun s st=>match s with | (v,w)=>IV [(0,yM (yY a)),(6,.p false [.n (yT v)]),(7,yM (.bool w))] [] st) [(false,6,4096)] [] yF yD ?_
 rintro ⟨v,w⟩ ⟨_,_,_⟩ _ x _ h y
 simp only[go_sem,seval,Zb] at x
 obtain ⟨⟨_,_,_⟩,hn⟩:=x
 subst hn
 try simp only[*,go_sem,seval]
 refine yB h (fun _ h=>?_) fun _ h=>?_
 refine Zh h (fun i s st=>match s with | (f,g)=>IV [(0,yM (yY a)),(6,.p false [.n (yT f)]),(7,yM (.bool g)),(27,yM (yY a)),(28,yL a.length),(29,yL i)] [] st) [] [] yF yD ?_ ?_
 rintro z d ⟨f,g⟩ ⟨_,_,_⟩ _ k A K h L
 simp only[go_sem,seval,Zb] at A
 obtain ⟨⟨M,_,_,_,_,_⟩,hn⟩:=A
 subst hn
 have N:=WF.slotL K M (j:=0) rfl
 have:=ZC k
 have:=ZE k
 have:=Zk (ZD k) N
 try simp only[*,go_sem,seval]
 obtain ⟨_,O,h⟩:=Za h
 refine ZnA (ZfN O) ?_
 try simp only[*,go_sem,seval]
 obtain ⟨e,P,h⟩:=Za h
 refine ZnA (Ziw P) ?_
 try simp only[*,go_sem,seval]
 refine Zh h (fun i s st=>match s with | (l,m)=>IV [(0,yM (yY a)),(6,.p false [.n (yT l)]),(7,yM (.bool m)),(9,.bp 0 0),(27,yM (yY a)),(28,yL a.length),(29,yL z),(36,yM (zB e)),(37,yL e.length),(38,yL i)] [zC 76 (ZL d)] st) [] [48] yF yD ?_ ?_
 rintro Q B ⟨l,m⟩ ⟨_,_,_⟩ _ o C R h S
 simp only[go_sem,seval,Zb] at C
 obtain ⟨⟨_,_,_,_,_,_,_,T,_,_⟩,_,hn⟩:=C
 subst hn
 have U:=WF.slotL R T (j:=0) rfl
 have:=ZC o
 have:=ZE o
 have:=Zk (ZD o) U
 try simp only[*,go_sem,seval]
 refine Zh h (fun i s st=>match s with | (q,t)=>IV [(0,yM (yY a)),(6,.p false [.n (yT q)]),(7,yM (.bool t)),(9,.bp 0 0),(11,.bp 1 0),(27,yM (yY a)),(28,yL a.length),(29,yL z),(36,yM (zB e)),(37,yL e.length),(38,yL Q),(43,yM (yZ d.thn)),(44,yL d.thn.length),(45,yL i)] [zC 76 (ZL d),zC 111 (YU B)] st) [] [0,49] yF yD ?_ ?_
 rintro _ _ ⟨q,t⟩ ⟨_,_,_⟩ _ u D V h W
 simp only[go_sem,seval,Zb] at D
 obtain ⟨⟨_,_,_,_,_,_,_,_,_,_,_,X,_,_⟩,_,_,hn⟩:=D
 subst hn
 have Y:=WF.slotL V X (j:=0) rfl
 have:=ZC u
 have:=ZE u
 have:=Zk (ZD u) Y
 try simp only[*,go_sem,seval]
 obtain ⟨_,Z,h⟩:=Za h
 refine Zd (Zfi Z) ?_
 try simp only[*,go_sem,seval]
 obtain ⟨_,aa,h⟩:=Za h
 refine Zd (ZcD aa) ?_
 try simp only[*,go_sem,seval]
 refine yB h (fun _ h=>?_) fun _ h=>?_
 refine ⟨_,[],[0,1],(A4 h).symm,yF,?_⟩
 try simp only[*,go_sem,seval]
 refine yB h (fun _ h=>?_) fun _ h=>?_
 replace h:=Zr h W
 replace h:=Zr h S
 replace h:=Zr h L
 replace h:=Zr h y
 cases h
 try simp only[*,go_sem,seval]
 obtain ⟨_,ab,h⟩:=Za h
 refine Zd (ZqA ab) ?_
 try simp only[*,go_sem,seval]
 refine ⟨_,[(false,6,4096)],[0,1],(A4 h).symm,yF,?_⟩
 try simp only[*,go_sem,seval]
 rintro ⟨q,t⟩ ⟨_,_,_⟩ E _ h
 simp only[go_sem,seval,Zb] at E
 obtain ⟨⟨_,_,_,_,_,_,_,_,_,_,_,_,_,_⟩,_,_,hn⟩:=E
 subst hn
 have:=ZB (d.thn.length)
 try simp only[*,go_sem,seval]
 refine ⟨_,[],[0],(A4 h).symm,yF,?_⟩
 try simp only[*,go_sem,seval]
 rintro ⟨l,m⟩ ⟨_,_,_⟩ F _ h
 simp only[go_sem,seval,Zb] at F
 obtain ⟨⟨_,_,_,_,_,_,_,_,_,_⟩,_,hn⟩:=F
 subst hn
 have:=ZB (e.length)
 try simp only[*,go_sem,seval]
 refine ⟨_,[],[],(A4 h).symm,yF,?_⟩
 try simp only[*,go_sem,seval]
 rintro ⟨f,g⟩ ⟨_,_,_⟩ G _ h
 simp only[go_sem,seval,Zb] at G
 obtain ⟨⟨_,_,_,_,_,_⟩,hn⟩:=G
 subst hn
 have:=ZB (a.length)
 try simp only[*,go_sem,seval]
 refine ⟨_,[],[],(A4 h).symm,yF,?_⟩
 try simp only[*,go_sem,seval]
 replace h:=Zr h y
 iterate 3 (cases h;try simp only[*,go_sem,seval])
theorem Zsv {append_0:(List Zq)} {a:Zl} {a_2:(List Zc)} {r:(List Zq)} (h:Zhz append_0 a a_2=some r):Zm prog J0 187 [(false,[.sl 111 2 (A0 YU append_0)]),(true,ZJ a),(false,[.sl 53 2 (A0 Zs a_2)])] [(false,[(false,.sl 111 2 (A0 YU r))])]:=by
 refine fnk func187 rfl ?_
 unfold Zhz at h
 simp only[fnS,f187,Zo,go_sem,seval]
 refine Zh h (fun i b st=>IV [(0,yM (zB append_0)),(2,yM (yT a_2)),(4,.bp 0 0),(7,.p false [.row 1]),(8,yL i)] [zC 80 (ZJ a),.row 111 2 (A0 YU b) 2] st) [] [0,32] yF yD ?_ ?_
 rintro o _ b ⟨_,_,_⟩ _ d g q h _
 simp only[go_sem,seval,Zb] at g
 obtain ⟨⟨t,_,_,_,_⟩,_,_,hn⟩:=g
 subst hn
 have u:=WF.slotL q t (j:=0) rfl
 have:=ZC d
 have:=ZE d
 have:=Zk (ZD d) u
 try simp only[*,go_sem,seval]
 refine yB h (fun _ h=>?_) fun _ h=>?_
 obtain ⟨_,v,h⟩:=Za h
 refine Zd (Znz v) ?_
 try simp only[*,go_sem,seval]
 refine yB h (fun _ h=>?_) fun _ h=>?_
 obtain ⟨_,w,h⟩:=Za h
 refine Zd (ZrY w) ?_
 obtain ⟨x,h⟩:=Zv h
 try simp only[Nat.reduceLeDiff] at x
 try simp only[*,go_sem,seval]
 refine ⟨_,[],[0,354],(A4 h).symm,yF,?_⟩
 try simp only[*,go_sem,seval]
 refine ⟨_,[],[0,1],(A4 h).symm,yF,?_⟩
 try simp only[*,go_sem,seval]
 refine Zh h (fun i e st=>IV [(0,yM (zB append_0)),(2,yM (yT a_2)),(4,.bp 0 0),(7,.p false [.row 1]),(8,yL o),(9,yL i)] [zC 80 (ZJ a),.row 111 2 (A0 YU e) 2] st) [] [0,1] yF yD ?_ ?_
 rintro _ _ e ⟨_,_,_⟩ _ f k y h _
 simp only[go_sem,seval,Zb] at k
 obtain ⟨⟨_,z,_,_,_,_⟩,_,_,hn⟩:=k
 subst hn
 have A:=WF.slotL y z (j:=0) rfl
 have:=ZC f
 have:=ZE f
 have:=Zk (ZD f) A
 try simp only[*,go_sem,seval]
 obtain ⟨_,B,h⟩:=Za h
 refine Zd (Zg5 B) ?_
 try simp only[*,go_sem,seval]
 refine yB h (fun _ h=>?_) fun _ h=>?_
 obtain ⟨_,C,h⟩:=Za h
 refine Zd (Zfo C) ?_
 try simp only[*,go_sem,seval]
 obtain ⟨_,D,h⟩:=Za h
 refine Zd (Xr D) ?_
 obtain ⟨E,h⟩:=Zv h
 try simp only[Nat.reduceLeDiff] at E
 obtain ⟨F,h⟩:=Zv h
 try simp only[Nat.reduceLeDiff] at F
 try simp only[*,go_sem,seval]
 refine ⟨_,[],[0,626],(A4 h).symm,yF,?_⟩
 try simp only[*,go_sem,seval]
 refine ⟨_,[],[0,1],(A4 h).symm,yF,?_⟩
 try simp only[*,go_sem,seval]
 rintro e ⟨_,_,_⟩ l _ h
 simp only[go_sem,seval,Zb] at l
 obtain ⟨⟨_,_,_,_,_,_⟩,_,_,hn⟩:=l
 subst hn
 have:=ZB (a_2.length)
 try simp only[*,go_sem,seval]
 refine ⟨_,[],[0,1],(A4 h).symm,yF,?_⟩
 try simp only[*,go_sem,seval]
 rintro b ⟨_,_,_⟩ m _ h
 simp only[go_sem,seval,Zb] at m
 obtain ⟨⟨_,_,_,_,_⟩,_,_,hn⟩:=m
 subst hn
 have:=ZB (append_0.length)
 cases h
 try simp only[*,go_sem,seval]
theorem ZlH {append_0:(List Zg)} {r:Bool} (h:Zb0 append_0=some r):Zm prog J0 227 [(false,[.sl 76 4 (A0 ZL append_0)])] [(false,[(false,.bool r)])]:=by
 refine fnk func227 rfl ?_
 unfold Zb0 at h
 simp only[fnS,f227,Zo,go_sem,seval]
 refine Zh h (fun i _ st=>IV [(0,yM (yY append_0)),(3,yL i)] [] st) [] [] yF yD ?_ ?_
 rintro l x ⟨⟩ ⟨_,_,_⟩ _ b m y h d
 simp only[go_sem,seval,Zb] at m
 obtain ⟨⟨z,_⟩,hn⟩:=m
 subst hn
 have A:=WF.slotL y z (j:=0) rfl
 have:=ZC b
 have:=ZE b
 have:=Zk (ZD b) A
 try simp only[*,go_sem,seval]
 obtain ⟨_,B,h⟩:=Za h
 refine Zd (Znx B) ?_
 try simp only[*,go_sem,seval]
 refine yB h (fun _ h=>?_) fun _ h=>?_
 obtain ⟨e,C,h⟩:=Za h
 refine Zd (Zij C) ?_
 try simp only[*,go_sem,seval]
 refine Zh h (fun i _ st=>IV [(0,yM (yY append_0)),(3,yL l),(4,.p false [.row 0]),(5,yL i)] [.row 9 1 (A0 ZA e) 2] st) [] [224] yF yD ?_ ?_
 rintro D a ⟨⟩ ⟨_,_,_⟩ _ f o E h q
 simp only[go_sem,seval,Zb] at o
 obtain ⟨⟨F,_,_,_⟩,_,hn⟩:=o
 subst hn
 have G:=WF.elL (WF.slotD E F (j:=0) rfl) b (j:=2) rfl
 have:=ZC f
 have:=ZE f
 have:=Zk (ZD f) G
 try simp only[*,go_sem,seval]
 refine Zh h (fun i _ st=>IV [(0,yM (yY append_0)),(3,yL l),(4,.p false [.row 0]),(5,yL D),(6,.bp 1 0),(7,yL i)] [.row 9 1 (A0 ZA e) 2,zC 80 (ZJ a)] st) [] [0,257] yF yD ?_ ?_
 rintro _ _ ⟨⟩ ⟨_,_,_⟩ _ g t H h k
 simp only[go_sem,seval,Zb] at t
 obtain ⟨⟨_,_,_,_,_,_⟩,I,_,hn⟩:=t
 subst hn
 have J:=WF.rowL H I
 have:=ZC g
 have:=ZE g
 have:=Zk (ZD g) J
 try simp only[*,go_sem,seval]
 iterate 2 refine yB h (fun _ h=>?_) fun _ h=>?_
 replace h:=Zr h k
 replace h:=Zr h q
 replace h:=Zr h d
 cases h
 try simp only[*,go_sem,seval]
 obtain ⟨_,K,h⟩:=Za h
 refine Zd (ZlL K) ?_
 try simp only[*,go_sem,seval]
 refine yB h (fun _ h=>?_) fun _ h=>?_
 replace h:=Zr h k
 replace h:=Zr h q
 replace h:=Zr h d
 cases h
 try simp only[*,go_sem,seval]
 refine ⟨_,[],[0,1],(A4 h).symm,yF,?_⟩
 try simp only[*,go_sem,seval]
 replace h:=Zr h k
 refine ⟨_,[],[0],(A4 h).symm,yF,?_⟩
 try simp only[*,go_sem,seval]
 rintro ⟨⟩ ⟨_,_,_⟩ u _ h
 simp only[go_sem,seval,Zb] at u
 obtain ⟨⟨_,_,_,_,_,_⟩,_,_,hn⟩:=u
 subst hn
 have:=ZB (e.length)
 try simp only[*,go_sem,seval]
 refine ⟨_,[],[0],(A4 h).symm,yF,?_⟩
 try simp only[*,go_sem,seval]
 rintro ⟨⟩ ⟨_,_,_⟩ v _ h
 simp only[go_sem,seval,Zb] at v
 obtain ⟨⟨_,_,_,_⟩,_,hn⟩:=v
 subst hn
 have:=ZB (x.cond.length)
 try simp only[*,go_sem,seval]
 refine ⟨_,[],[],(A4 h).symm,yF,?_⟩
 try simp only[*,go_sem,seval]
 replace h:=Zr h d
 cases h
 try simp only[*,go_sem,seval]
 rintro ⟨⟩ ⟨_,_,_⟩ w _ h
 simp only[go_sem,seval,Zb] at w
 obtain ⟨⟨_,_⟩,hn⟩:=w
 subst hn
 have:=ZB (append_0.length)
 try simp only[*,go_sem,seval]
 obtain ⟨_,L,h⟩:=Za h
 refine Zd (Zn8 L) ?_
 cases h
 try simp only[*,go_sem,seval]
end
section
theorem Zfj {l_0:(List Zl)} {facts_1:(List Zc)} {r:(List Zq)} (h:Zaa l_0 facts_1=some r):Zm prog J0 123 [(false,[.sl 80 5 (A0 ZJ l_0)]),(false,[.sl 53 2 (A0 Zs facts_1)])] [(false,[(false,.sl 111 2 (A0 YU r))])]:=by
 refine fnk func123 rfl ?_
 unfold Zaa at h
 simp only[fnS,f123,Zo,go_sem,seval]
 refine Zh h (fun i a st=>IV [(0,yM (yW l_0)),(1,yM (yT facts_1)),(5,.p false [.row 0]),(6,yL i)] [.row 111 2 (A0 YU a) 2] st) [] [32] yF yD ?_ ?_
 rintro _ _ a ⟨_,_,_⟩ _ b d f h _
 simp only[go_sem,seval,Zb] at d
 obtain ⟨⟨g,_,_,_⟩,_,hn⟩:=d
 subst hn
 have k:=WF.slotL f g (j:=0) rfl
 have:=ZC b
 have:=ZE b
 have:=Zk (ZD b) k
 try simp only[*,go_sem,seval]
 obtain ⟨_,l,h⟩:=Za h
 refine Zd (Zsv l) ?_
 try simp only[*,go_sem,seval]
 refine ⟨_,[],[161],(A4 h).symm,yF,?_⟩
 try simp only[*,go_sem,seval]
 rintro a ⟨_,_,_⟩ e _ h
 simp only[go_sem,seval,Zb] at e
 obtain ⟨⟨_,_,_,_⟩,_,hn⟩:=e
 subst hn
 have:=ZB (l_0.length)
 cases h
 try simp only[*,go_sem,seval]
end
section
theorem Zq2 {d:(List Zg)} {g:(List Zc)} {r:((List Zc) × Zt × (List Za4) × Bool)} (h:ZbJ d g=some r):Zm prog J0 157 [(false,[.sl 76 4 (A0 ZL d)]),(false,[.sl 53 2 (A0 Zs g)])] [(false,[(false,.sl 53 2 (A0 Zs r.1))]),(true,[(false,.int .i64 r.2.1.nodes),(false,.sl 179 3 (A0 ZG r.2.1.reasons))]),(false,[(false,.any)]),(false,[(false,.bool r.2.2.2)])]:=by
 refine fnn 4 func157 rfl ?_
 unfold ZbJ at h
 simp only[fnN,f157,Zo,go_sem,seval]
 obtain ⟨e,P,h⟩:=Za h
 refine Zd (Zjc P) ?_
 try simp only[*,go_sem,seval]
 refine yB h (fun _ h=>?_) fun _ h=>?_
 refine Zh h (fun i s st=>match s with | (q,t)=>IV [(0,yM (yY d)),(5,.bp 0 0),(8,.p false [.n (yT e.1)]),(10,.bp 1 0),(11,.p false [.row 3]),(40,yM (yT g)),(41,yL g.length),(42,yL i)] [.box 140 [.c (.int .i64 0),.nil 179 3],.box 140 [.c (.int .i64 ((e.1.length:Nat):Int)),.row 2],.row 179 3 (A0 ZG q) 2,.row 187 2 (A0 Zh4 t) 2] st) [(false,8,4096),(false,11,0),(true,272,1)] [16,272,369,368] yF yD ?_ ?_
 rintro _ _ ⟨q,t⟩ ⟨_,_,_⟩ _ u E Q h _
 simp only[go_sem,seval,Zb] at E
 obtain ⟨⟨_,_,_,_,_,R,_,_⟩,_,_,_,_,hn⟩:=E
 subst hn
 have S:=WF.slotL Q R (j:=0) rfl
 have:=ZC u
 have:=ZE u
 have:=Zk (ZD u) S
 try simp only[*,go_sem,seval]
 obtain ⟨_,T,h⟩:=Za h
 refine Zd (ZcD T) ?_
 obtain ⟨U,h⟩:=Zv h
 try simp only[Nat.reduceLeDiff] at U
 obtain ⟨V,h⟩:=Zv h
 try simp only[Nat.reduceLeDiff] at V
 try simp only[*,go_sem,seval]
 refine ⟨_,[],[0,1,196,292],(A4 h).symm,yF,?_⟩
 try simp only[*,go_sem,seval]
 rintro ⟨q,t⟩ ⟨_,_,_⟩ F _ h
 simp only[go_sem,seval,Zb] at F
 obtain ⟨⟨_,_,_,_,_,_,_,_⟩,_,_,_,_,hn⟩:=F
 subst hn
 have:=ZB (g.length)
 try simp only[*,go_sem,seval]
 refine Zh h (fun i s st=>match s with | (v,w)=>IV [(5,.bp 0 0),(8,.p false [.n (yT e.1)]),(10,.bp 1 0),(11,.p false [.row 3]),(60,yM (yY d)),(61,yL d.length),(62,yL i)] [.box 140 [.c (.int .i64 0),.nil 179 3],.box 140 [.c (.int .i64 ((e.1.length:Nat):Int)),.row 2],.row 179 3 (A0 ZG v) 2,.row 187 2 (A0 Zh4 w) 1] st) [(true,3,1)] [0,1,2,3] yF yD ?_ ?_
 rintro x b ⟨v,w⟩ ⟨_,_,_⟩ _ y G W h _
 simp only[go_sem,seval,Zb] at G
 obtain ⟨⟨_,_,_,_,X,_,_⟩,_,_,_,_,hn⟩:=G
 subst hn
 have Y:=WF.slotL W X (j:=0) rfl
 have:=ZC y
 have:=ZE y
 have:=Zk (ZD y) Y
 try simp only[*,go_sem,seval]
 obtain ⟨_,Z,h⟩:=Za h
 refine ZnA (ZfN Z) ?_
 try simp only[*,go_sem,seval]
 obtain ⟨f,aa,h⟩:=Za h
 refine ZnA (Ziw aa) ?_
 try simp only[*,go_sem,seval]
 refine Zh h (fun i s st=>match s with | (k,l)=>IV [(5,.bp 0 0),(8,.p false [.n (yT e.1)]),(10,.bp 1 0),(11,.p false [.row 3]),(15,.bp 4 0),(60,yM (yY d)),(61,yL d.length),(62,yL x),(69,yM (zB f)),(70,yL f.length),(71,yL i)] [.box 140 [.c (.int .i64 0),.nil 179 3],.box 140 [.c (.int .i64 ((e.1.length:Nat):Int)),.row 2],.row 179 3 (A0 ZG k) 2,.row 187 2 (A0 Zh4 l) 1,zC 76 (ZL b)] st) [] [0,1,2,3,52] yF yD ?_ ?_
 rintro H m ⟨k,l⟩ ⟨_,_,_⟩ _ z I ab h _
 simp only[go_sem,seval,Zb] at I
 obtain ⟨⟨_,_,_,_,_,_,_,_,ac,_,_⟩,_,_,_,_,_,hn⟩:=I
 subst hn
 have ad:=WF.slotL ab ac (j:=0) rfl
 have:=ZC z
 have:=ZE z
 have:=Zk (ZD z) ad
 try simp only[*,go_sem,seval]
 refine Zh h (fun i o st=>IV [(5,.bp 0 0),(8,.p false [.n (yT e.1)]),(10,.bp 1 0),(11,.p false [.row 3]),(15,.bp 4 0),(17,.bp 5 0),(18,.p false [.row 6]),(60,yM (yY d)),(61,yL d.length),(62,yL x),(69,yM (zB f)),(70,yL f.length),(71,yL H),(76,yM (yW b.cond)),(77,yL b.cond.length),(78,yL i)] [.box 140 [.c (.int .i64 0),.nil 179 3],.box 140 [.c (.int .i64 ((e.1.length:Nat):Int)),.row 2],.row 179 3 (A0 ZG k) 2,.row 187 2 (A0 Zh4 l) 1,zC 76 (ZL b),zC 111 (YU m),.row 53 2 (A0 Zs o) 2] st) [(false,18,0)] [0,1,2,3,4,53,165] yF yD ?_ ?_
 rintro _ _ o ⟨_,_,_⟩ _ A J ae h _
 simp only[go_sem,seval,Zb] at J
 obtain ⟨⟨_,_,_,_,_,_,_,_,_,_,_,_,_,af,_,_⟩,_,_,_,_,_,_,_,hn⟩:=J
 subst hn
 have ag:=WF.slotL ae af (j:=0) rfl
 have:=ZC A
 have:=ZE A
 have:=Zk (ZD A) ag
 try simp only[*,go_sem,seval]
 refine yB h (fun _ h=>?_) fun _ h=>?_
 obtain ⟨_,ah,h⟩:=Za h
 refine Zd (Zfi ah) ?_
 obtain ⟨ai,h⟩:=Zv h
 try simp only[Nat.reduceLeDiff] at ai
 try simp only[*,go_sem,seval]
 refine ⟨_,[],[0,1,2,3,4,5,359],(A4 h).symm,yF,?_⟩
 try simp only[*,go_sem,seval]
 refine ⟨_,[],[0,1,2,3,4,5,6],(A4 h).symm,yF,?_⟩
 try simp only[*,go_sem,seval]
 rintro o ⟨_,_,_⟩ K _ h
 simp only[go_sem,seval,Zb] at K
 obtain ⟨⟨_,_,_,_,_,_,_,_,_,_,_,_,_,_,_,_⟩,_,_,_,_,_,_,_,hn⟩:=K
 subst hn
 have:=ZB (b.cond.length)
 try simp only[*,go_sem,seval]
 refine Zh h (fun i s st=>match s with | (B,C)=>IV [(5,.bp 0 0),(8,.p false [.n (yT e.1)]),(10,.bp 1 0),(11,.p false [.row 3]),(15,.bp 4 0),(17,.bp 5 0),(18,.p false [.row 6]),(60,yM (yY d)),(61,yL d.length),(62,yL x),(69,yM (zB f)),(70,yL f.length),(71,yL H),(99,yM (yZ b.thn)),(100,yL b.thn.length),(101,yL i)] [.box 140 [.c (.int .i64 0),.nil 179 3],.box 140 [.c (.int .i64 ((e.1.length:Nat):Int)),.row 2],.row 179 3 (A0 ZG B) 2,.row 187 2 (A0 Zh4 C) 1,zC 76 (ZL b),zC 111 (YU m),.row 53 2 (A0 Zs o) 2] st) [] [0,1,2,3,4,5,6] yF yD ?_ ?_
 rintro _ _ ⟨B,C⟩ ⟨_,_,_⟩ _ D L aj h _
 simp only[go_sem,seval,Zb] at L
 obtain ⟨⟨_,_,_,_,_,_,_,_,_,_,_,_,_,ak,_,_⟩,_,_,_,_,_,_,_,hn⟩:=L
 subst hn
 have al:=WF.slotL aj ak (j:=0) rfl
 have:=ZC D
 have:=ZE D
 have:=Zk (ZD D) al
 try simp only[*,go_sem,seval]
 obtain ⟨_,am,h⟩:=Za h
 refine Zd (Zfi am) ?_
 try simp only[*,go_sem,seval]
 obtain ⟨_,an,h⟩:=Za h
 refine Zd (ZcD an) ?_
 try simp only[*,go_sem,seval]
 obtain ⟨_,ao,h⟩:=Za h
 refine Zd (ZjT ao) ?_
 try simp only[*,go_sem,seval]
 obtain ⟨_,ap,h⟩:=Za h
 refine Zd (ZjT ap) ?_
 try simp only[*,go_sem,seval]
 obtain ⟨_,aq,h⟩:=Za h
 refine Zd (Znn aq) ?_
 try simp only[*,go_sem,seval]
 refine yB h (fun _ h=>?_) fun _ h=>?_
 refine ⟨_,[],[0,1,2,3,4,5,6],(A4 h).symm,yF,?_⟩
 try simp only[*,go_sem,seval]
 obtain ⟨ar,h⟩:=Zv h
 try simp only[Nat.reduceLeDiff] at ar
 obtain ⟨au,h⟩:=Zv h
 try simp only[Nat.reduceLeDiff] at au
 try simp only[*,go_sem,seval]
 refine ⟨_,[],[0,1,615,775,4,5,6],(A4 h).symm,yF,?_⟩
 try simp only[*,go_sem,seval]
 rintro ⟨B,C⟩ ⟨_,_,_⟩ M _ h
 simp only[go_sem,seval,Zb] at M
 obtain ⟨⟨_,_,_,_,_,_,_,_,_,_,_,_,_,_,_,_⟩,_,_,_,_,_,_,_,hn⟩:=M
 subst hn
 have:=ZB (b.thn.length)
 try simp only[*,go_sem,seval]
 refine ⟨_,[],[0,1,2,3,4],(A4 h).symm,yF,?_⟩
 try simp only[*,go_sem,seval]
 rintro ⟨k,l⟩ ⟨_,_,_⟩ N _ h
 simp only[go_sem,seval,Zb] at N
 obtain ⟨⟨_,_,_,_,_,_,_,_,_,_,_⟩,_,_,_,_,_,hn⟩:=N
 subst hn
 have:=ZB (f.length)
 try simp only[*,go_sem,seval]
 refine ⟨_,[],[0,1,2,3],(A4 h).symm,yF,?_⟩
 try simp only[*,go_sem,seval]
 rintro ⟨v,w⟩ ⟨_,_,_⟩ O _ h
 simp only[go_sem,seval,Zb] at O
 obtain ⟨⟨_,_,_,_,_,_,_⟩,_,_,_,_,hn⟩:=O
 subst hn
 have:=ZB (d.length)
 try simp only[*,go_sem,seval]
 refine yB h (fun _ h=>?_) fun _ h=>?_
 iterate 3 (cases h;try simp only[*,go_sem,seval])
end
section
theorem Zji {rules_0:(List Zg)} {base_1:(List Zc)} {r:((List Zc) × Zt × Bool)} (h:QV rules_0 base_1=some r):Zm prog J0 127 [(false,[.sl 76 4 (A0 ZL rules_0)]),(false,[.sl 53 2 (A0 Zs base_1)])] [(false,[(false,.sl 53 2 (A0 Zs r.1))]),(true,[(false,.int .i64 r.2.1.nodes),(false,.sl 179 3 (A0 ZG r.2.1.reasons))]),(false,[(false,.bool r.2.2)])]:=by
 refine fnk func127 rfl ?_
 unfold QV at h
 simp only[fnS,f127,Zo,go_sem,seval]
 obtain ⟨_,a,h⟩:=Za h
 refine Zd (Zq2 a) ?_
 cases h
 try simp only[*,go_sem,seval]
theorem Zjb {a:(List Zg)} {String_1:(List Zc)} {r:((List Zc) × Bool)} (h:YA a String_1=some r):Zm prog J0 161 [(false,[.sl 76 4 (A0 ZL a)]),(false,[.sl 53 2 (A0 Zs String_1)])] [(false,[(false,.sl 53 2 (A0 Zs r.1))]),(false,[(false,.bool r.2)])]:=by
 refine fnn 4 func161 rfl ?_
 unfold YA at h
 simp only[fnN,f161,Zo,go_sem,seval]
 obtain ⟨_,B,h⟩:=Za h
 refine Zd (ZlH B) ?_
 try simp only[*,go_sem,seval]
 refine yB h (fun _ h=>?_) fun _ h=>?_
 obtain ⟨_,C,h⟩:=Za h
 refine Zd (Zis C) ?_
 try simp only[*,go_sem,seval]
 refine yB h (fun _ h=>?_) fun _ h=>?_
 obtain ⟨_,D,h⟩:=Za h
 refine Zd (Zfo D) ?_
 try simp only[*,go_sem,seval]
 refine Xj h (fun s st=>match s with | (b,o)=>IV [(0,yM (yY a)),(6,.p false [.n (yT b)]),(7,yM (.bool o))] [] st) [(false,6,4096)] [] yF yD ?_
 rintro ⟨b,o⟩ ⟨_,_,_⟩ _ q _ h t
 simp only[go_sem,seval,Zb] at q
 obtain ⟨⟨_,_,_⟩,hn⟩:=q
 subst hn
 try simp only[*,go_sem,seval]
 refine yB h (fun _ h=>?_) fun _ h=>?_
 refine Zh h (fun i e st=>IV [(0,yM (yY a)),(6,.p false [.n (yT e)]),(8,.p false [.n (yT b)]),(9,yL i)] [] st) [] [] yF yD ?_ ?_
 rintro u E e ⟨_,_,_⟩ _ d v F h G
 simp only[go_sem,seval,Zb] at v
 obtain ⟨⟨H,_,_,_⟩,hn⟩:=v
 subst hn
 have I:=WF.slotL F H (j:=0) rfl
 have:=ZC d
 have:=ZE d
 have:=Zk (ZD d) I
 try simp only[*,go_sem,seval]
 obtain ⟨_,J,h⟩:=Za h
 refine ZnA (ZfX J) ?_
 try simp only[*,go_sem,seval]
 obtain ⟨f,K,h⟩:=Za h
 refine Zd (Zfj K) ?_
 try simp only[*,go_sem,seval]
 refine Zh h (fun i g st=>IV [(0,yM (yY a)),(6,.p false [.n (yT g)]),(8,.p false [.n (yT b)]),(9,yL u),(10,.p false [.row 0]),(11,yL i)] [.row 111 2 (A0 YU f) 2] st) [] [160] yF yD ?_ ?_
 rintro L _ g ⟨_,_,_⟩ _ k w M h _
 simp only[go_sem,seval,Zb] at w
 obtain ⟨⟨_,_,_,_,_,_⟩,N,hn⟩:=w
 subst hn
 have O:=WF.rowL M N
 have:=ZC k
 have:=ZE k
 have:=Zk (ZD k) O
 try simp only[*,go_sem,seval]
 refine Zh h (fun i l st=>IV [(0,yM (yY a)),(6,.p false [.n (yT l)]),(8,.p false [.n (yT b)]),(9,yL u),(10,.p false [.row 0]),(11,yL L),(12,yL i)] [.row 111 2 (A0 YU f) 2] st) [] [0] yF yD ?_ ?_
 rintro _ _ l ⟨_,_,_⟩ _ m x P h _
 simp only[go_sem,seval,Zb] at x
 obtain ⟨⟨Q,_,_,_,_,_,_⟩,_,hn⟩:=x
 subst hn
 have R:=WF.elL (WF.slotD P Q (j:=0) rfl) d (j:=3) rfl
 have:=ZC m
 have:=ZE m
 have:=Zk (ZD m) R
 try simp only[*,go_sem,seval]
 obtain ⟨_,S,h⟩:=Za h
 refine Zd (Zfq S) ?_
 try simp only[*,go_sem,seval]
 obtain ⟨_,T,h⟩:=Za h
 refine Zd (ZtP T) ?_
 try simp only[*,go_sem,seval]
 refine ⟨_,[(false,6,4096)],[0],(A4 h).symm,yF,?_⟩
 try simp only[*,go_sem,seval]
 rintro l ⟨_,_,_⟩ y _ h
 simp only[go_sem,seval,Zb] at y
 obtain ⟨⟨_,_,_,_,_,_,_⟩,_,hn⟩:=y
 subst hn
 have:=ZB (E.thn.length)
 try simp only[*,go_sem,seval]
 refine ⟨_,[],[0],(A4 h).symm,yF,?_⟩
 try simp only[*,go_sem,seval]
 rintro g ⟨_,_,_⟩ z _ h
 simp only[go_sem,seval,Zb] at z
 obtain ⟨⟨_,_,_,_,_,_⟩,_,hn⟩:=z
 subst hn
 have:=ZB (f.length)
 try simp only[*,go_sem,seval]
 refine yB h (fun _ h=>?_) fun _ h=>?_
 replace h:=Zr h G
 replace h:=Zr h t
 cases h
 try simp only[*,go_sem,seval]
 refine ⟨_,[],[],(A4 h).symm,yF,?_⟩
 try simp only[*,go_sem,seval]
 rintro e ⟨_,_,_⟩ A _ h
 simp only[go_sem,seval,Zb] at A
 obtain ⟨⟨_,_,_,_⟩,hn⟩:=A
 subst hn
 have:=ZB (a.length)
 try simp only[*,go_sem,seval]
 refine ⟨_,[],[],(A4 h).symm,yF,?_⟩
 try simp only[*,go_sem,seval]
 replace h:=Zr h t
 iterate 3 (cases h;try simp only[*,go_sem,seval])
theorem ZoO {r_0:Zg} {n_1:Int} {facts_2:(List Zc)} {r:(List Zq)} (h:Zck r_0 n_1 facts_2=some r):Zm prog J0 62 [(true,ZL r_0),(false,[.int .i64 n_1]),(false,[.sl 53 2 (A0 Zs facts_2)])] [(false,[(false,.sl 111 2 (A0 YU r))])]:=by
 refine fnk func62 rfl ?_
 unfold Zck at h
 simp only[fnS,f62,Zo,go_sem,seval]
 obtain ⟨_,a,h⟩:=Za h
 refine Zd (by have hh:=ZeX a;first|exact hh|(simp only[*,go_sem] at hh;exact hh)) ?_
 try simp only[*,go_sem,seval]
 refine yB h (fun _ h=>?_) fun _ h=>?_
 obtain ⟨_,b,h⟩:=Za h
 refine Zd (by have hh:=Zis b;first|exact hh|(simp only[*,go_sem] at hh;exact hh)) ?_
 try simp only[*,go_sem,seval]
 refine yB h (fun _ h=>?_) fun _ h=>?_
 obtain ⟨_,c,h⟩:=Za h
 refine Zd (by have hh:=XM c;first|exact hh|(simp only[*,go_sem] at hh;exact hh)) ?_
 try simp only[*,go_sem,seval]
 refine yB h (fun _ h=>?_) fun _ h=>?_
 obtain ⟨_,h⟩:=Zv h
 try simp only[*,go_sem,seval]
 obtain ⟨_,d,h⟩:=Za h
 refine Zd (by have hh:=Zfj d;first|exact hh|(simp only[*,go_sem] at hh;exact hh)) ?_
 iterate 4 (cases h;try simp only[*,go_sem,seval])
end
section
theorem Zqu {rules_0:(List Zg)} {base_1:(List Zc)} {r:((List Zc) × Bool)} (h:Zbi rules_0 base_1=some r):Zm prog J0 68 [(false,[.sl 76 4 (A0 ZL rules_0)]),(false,[.sl 53 2 (A0 Zs base_1)])] [(false,[(false,.sl 53 2 (A0 Zs r.1))]),(false,[(false,.bool r.2)])]:=by
 refine fnk func68 rfl ?_
 unfold Zbi at h
 simp only[fnS,f68,Zo,go_sem,seval]
 obtain ⟨_,a,h⟩:=Za h
 refine Zd (Zji a) ?_
 try simp only[*,go_sem,seval]
 refine yB h (fun _ h=>?_) fun _ h=>?_
 obtain ⟨_,b,h⟩:=Za h
 refine Zd (ZoA b) ?_
 iterate 2 (cases h;try simp only[*,go_sem,seval])
theorem Zmr {d:(List Zg)} {e:(List Zc)} {r:((List Zc) × Zt × (List XR) × Bool)} (h:XZ d e=some r):Zm prog J0 151 [(false,[.sl 76 4 (A0 ZL d)]),(false,[.sl 53 2 (A0 Zs e)])] [(false,[(false,.sl 53 2 (A0 Zs r.1))]),(true,[(false,.int .i64 r.2.1.nodes),(false,.sl 179 3 (A0 ZG r.2.1.reasons))]),(false,[(false,.any)]),(false,[(false,.bool r.2.2.2)])]:=by
 refine fnk func151 rfl ?_
 unfold XZ at h
 simp only[fnS,f151,Zo,go_sem,seval]
 obtain ⟨b,I,h⟩:=Za h
 refine Zd (Zjb I) ?_
 try simp only[*,go_sem,seval]
 refine yB h (fun _ h=>?_) fun _ h=>?_
 refine Zh h (fun i s st=>match s with | (g,k)=>IV [(0,yM (yY d)),(1,yM (yT e)),(5,.bp 0 0),(8,.p false [.row 1]),(10,.bp 2 0),(11,.p false [.row 4]),(12,yL i)] [.box 140 [.c (.int .i64 0),.nil 179 3],.row 53 2 (A0 Zs b.1) 2,.box 140 [.c (.int .i64 ((b.1.length:Nat):Int)),.row 3],.row 179 3 (A0 ZG g) 2,.row 181 3 (A0 ZfI k) 2] st) [(true,240,1)] [16,96,240,352,272] yF yD ?_ ?_
 rintro _ _ ⟨g,k⟩ ⟨_,_,_⟩ _ l z J h _
 simp only[go_sem,seval,Zb] at z
 obtain ⟨⟨_,K,_,_,_,_,_⟩,_,_,_,_,_,hn⟩:=z
 subst hn
 have L:=WF.slotL J K (j:=0) rfl
 have:=ZC l
 have:=ZE l
 have:=Zk (ZD l) L
 try simp only[*,go_sem,seval]
 obtain ⟨_,M,h⟩:=Za h
 refine Zd (Zfa M) ?_
 obtain ⟨N,h⟩:=Zv h
 try simp only[Nat.reduceLeDiff] at N
 obtain ⟨O,h⟩:=Zv h
 try simp only[Nat.reduceLeDiff] at O
 try simp only[*,go_sem,seval]
 refine ⟨_,[],[0,1,2,229,325],(A4 h).symm,yF,?_⟩
 try simp only[*,go_sem,seval]
 rintro ⟨g,k⟩ ⟨_,_,_⟩ A _ h
 simp only[go_sem,seval,Zb] at A
 obtain ⟨⟨_,_,_,_,_,_,_⟩,_,_,_,_,_,hn⟩:=A
 subst hn
 have:=ZB (e.length)
 try simp only[*,go_sem,seval]
 refine Zh h (fun i s st=>match s with | (m,o)=>IV [(0,yM (yY d)),(5,.bp 0 0),(8,.p false [.row 1]),(10,.bp 2 0),(11,.p false [.row 4]),(13,yL i)] [.box 140 [.c (.int .i64 0),.nil 179 3],.row 53 2 (A0 Zs b.1) 2,.box 140 [.c (.int .i64 ((b.1.length:Nat):Int)),.row 3],.row 179 3 (A0 ZG m) 2,.row 181 3 (A0 ZfI o) 1] st) [(true,4,1)] [0,1,2,3,4] yF yD ?_ ?_
 rintro B P ⟨m,o⟩ ⟨_,_,_⟩ _ f C Q h R
 simp only[go_sem,seval,Zb] at C
 obtain ⟨⟨S,_,_,_,_,_⟩,_,_,_,_,_,hn⟩:=C
 subst hn
 have T:=WF.slotL Q S (j:=0) rfl
 have:=ZC f
 have:=ZE f
 have:=Zk (ZD f) T
 try simp only[*,go_sem,seval]
 obtain ⟨_,U,h⟩:=Za h
 refine ZnA (ZfX U) ?_
 try simp only[*,go_sem,seval]
 obtain ⟨q,V,h⟩:=Za h
 refine Zd (Zfj V) ?_
 try simp only[*,go_sem,seval]
 refine Zh h (fun i s st=>match s with | (t,u)=>IV [(0,yM (yY d)),(5,.bp 0 0),(8,.p false [.row 1]),(10,.bp 2 0),(11,.p false [.row 4]),(13,yL B),(14,.p false [.row 5]),(15,yL i)] [.box 140 [.c (.int .i64 0),.nil 179 3],.row 53 2 (A0 Zs b.1) 2,.box 140 [.c (.int .i64 ((b.1.length:Nat):Int)),.row 3],.row 179 3 (A0 ZG t) 2,.row 181 3 (A0 ZfI u) 1,.row 111 2 (A0 YU q) 2] st) [] [0,1,2,3,4,165] yF yD ?_ ?_
 rintro W _ ⟨t,u⟩ ⟨_,_,_⟩ _ v D X h Y
 simp only[go_sem,seval,Zb] at D
 obtain ⟨⟨_,_,_,_,_,_,_,_⟩,_,_,_,_,_,Z,hn⟩:=D
 subst hn
 have aa:=WF.rowL X Z
 have:=ZC v
 have:=ZE v
 have:=Zk (ZD v) aa
 try simp only[*,go_sem,seval]
 refine Zh h (fun i s st=>match s with | (w,x)=>IV [(0,yM (yY d)),(5,.bp 0 0),(8,.p false [.row 1]),(10,.bp 2 0),(11,.p false [.row 4]),(13,yL B),(14,.p false [.row 5]),(15,yL W),(16,yL i)] [.box 140 [.c (.int .i64 0),.nil 179 3],.row 53 2 (A0 Zs b.1) 2,.box 140 [.c (.int .i64 ((b.1.length:Nat):Int)),.row 3],.row 179 3 (A0 ZG w) 2,.row 181 3 (A0 ZfI x) 1,.row 111 2 (A0 YU q) 2] st) [] [0,1,2,3,4,5] yF yD ?_ ?_
 rintro _ _ ⟨w,x⟩ ⟨_,_,_⟩ _ y E ab h ac
 simp only[go_sem,seval,Zb] at E
 obtain ⟨⟨ad,_,_,_,_,_,_,_,_⟩,_,_,_,_,_,_,hn⟩:=E
 subst hn
 have ae:=WF.elL (WF.slotD ab ad (j:=0) rfl) f (j:=3) rfl
 have:=ZC y
 have:=ZE y
 have:=Zk (ZD y) ae
 try simp only[*,go_sem,seval]
 obtain ⟨_,af,h⟩:=Za h
 refine Zd (ZnO af) ?_
 try simp only[*,go_sem,seval]
 obtain ⟨_,ag,h⟩:=Za h
 refine Zd (ZqY ag) ?_
 try simp only[*,go_sem,seval]
 refine yB h (fun _ h=>?_) fun _ h=>?_
 refine ⟨_,[],[0,1,2,3,4,5],(A4 h).symm,yF,?_⟩
 try simp only[*,go_sem,seval]
 refine yB h (fun _ h=>?_) fun _ h=>?_
 replace h:=Zr h ac
 replace h:=Zr h Y
 replace h:=Zr h R
 cases h
 try simp only[*,go_sem,seval]
 obtain ⟨ah,h⟩:=Zv h
 try simp only[Nat.reduceLeDiff] at ah
 obtain ⟨ai,h⟩:=Zv h
 try simp only[Nat.reduceLeDiff] at ai
 try simp only[*,go_sem,seval]
 refine ⟨_,[],[0,1,2,550,790,5],(A4 h).symm,yF,?_⟩
 try simp only[*,go_sem,seval]
 rintro ⟨w,x⟩ ⟨_,_,_⟩ F _ h
 simp only[go_sem,seval,Zb] at F
 obtain ⟨⟨_,_,_,_,_,_,_,_,_⟩,_,_,_,_,_,_,hn⟩:=F
 subst hn
 have:=ZB (P.thn.length)
 try simp only[*,go_sem,seval]
 refine ⟨_,[],[0,1,2,3,4,5],(A4 h).symm,yF,?_⟩
 try simp only[*,go_sem,seval]
 rintro ⟨t,u⟩ ⟨_,_,_⟩ G _ h
 simp only[go_sem,seval,Zb] at G
 obtain ⟨⟨_,_,_,_,_,_,_,_⟩,_,_,_,_,_,_,hn⟩:=G
 subst hn
 have:=ZB (q.length)
 try simp only[*,go_sem,seval]
 refine ⟨_,[],[0,1,2,3,4],(A4 h).symm,yF,?_⟩
 try simp only[*,go_sem,seval]
 rintro ⟨m,o⟩ ⟨_,_,_⟩ H _ h
 simp only[go_sem,seval,Zb] at H
 obtain ⟨⟨_,_,_,_,_,_⟩,_,_,_,_,_,hn⟩:=H
 subst hn
 have:=ZB (d.length)
 iterate 2 (cases h;try simp only[*,go_sem,seval])
end
section
section
variable {α σ ρ:Type} {body:Nat→α→σ→Option (σ ⊕ ρ)} {fin:σ→Option ρ}
theorem ZnV (i:Nat) (s:σ):Zp body fin [] i s=fin s:=rfl
theorem Z4 {x:α} {l:List α} {i:Nat} {s s':σ} (h:body i x s=some (.inl s')):Zp body fin (x::l) i s=Zp body fin l (i+1) s':=by simp only[Zp,h]
theorem YF {x:α} {l:List α} {i:Nat} {s:σ} {r:ρ} (h:body i x s=some (.inr r)):Zp body fin (x::l) i s=some r:=by simp only[Zp,h]
theorem Z0 {p:α→Bool} {r:ρ}:∀{l:List α} {i:Nat} {s:σ},(∀i x,x∈l→body i x s=some (bif p x then .inl s else .inr r))→Zp body fin l i s=if l.all p=true then fin s else some r
 | [],_,_,_=>by simp [Zp]
 | x::l,i,s,h=>by
  have hx:=h i x yG
  by_cases hp:p x=true
  ·rw [hp,cond_true] at hx
   rw [Z4 hx,Z0 fun j y my=>h j y (by simp [my])]
   simp [hp]
  ·rw [eq_false_of_ne_true hp,cond_false] at hx
   rw [YF hx]
   simp [hp]
theorem ZcX {p:α→Bool} {r:ρ}:∀{l:List α} {i:Nat} {s:σ},(∀i x,x∈l→body i x s=some (bif p x then .inr r else .inl s))→Zp body fin l i s=if l.any p=true then some r else fin s
 | [],_,_,_=>by simp [Zp]
 | x::l,i,s,h=>by
  have hx:=h i x yG
  by_cases hp:p x=true
  ·rw [hp,cond_true] at hx
   rw [YF hx]
   simp [hp]
  ·rw [eq_false_of_ne_true hp,cond_false] at hx
   rw [Z4 hx,ZcX fun j y my=>h j y (by simp [my])]
   simp [hp]
theorem Y9 {f:σ→α→σ} (I:Nat→σ→Prop):∀{l:List α} {i:Nat} {s:σ},I i s→(∀j x s,x∈l→i≤j→j<i+l.length→I j s→body j x s=some (.inl (f s x))∧I (j+1) (f s x))→Zp body fin l i s=fin (l.foldl f s)
 | [],_,_,_,_=>rfl
 | x::l,i,s,h0,h=>by
  obtain ⟨h1,h2⟩:=h i x s yG yE yG h0
  rw [Z4 h1,Y9 I h2 fun j y s my hj hl=>h j y s (by simp [my]) yE (by simp at hl ⊢;omega)]
  rfl
theorem ZiU {f:σ→α→σ} {l:List α} {i:Nat} {s:σ} (h:∀j x s,x∈l→body j x s=some (.inl (f s x))):Zp body fin l i s=fin (l.foldl f s):=
 Y9 (fun _ _=>True) trivial fun j x s mx _ _ _=>⟨h j x s mx,trivial⟩
theorem ZaV (g:List α→Nat→σ→Option ρ) (I:List α→Nat→σ→Prop) (h0:∀i s,I [] i s→fin s=g [] i s)
  (h1:∀x l i s,I (x::l) i s→(∃s',body i x s=some (.inl s')∧I l (i+1) s'∧g (x::l) i s=g l (i+1) s')∨(∃r,body i x s=some (.inr r)∧g (x::l) i s=some r)):∀(l:List α) (i:Nat) (s:σ),I l i s→Zp body fin l i s=g l i s
 | [],i,s,h=>h0 i s h
 | x::l,i,s,h=>by
  rcases h1 x l i s h with ⟨s',e1,e2,e3⟩ | ⟨r,e1,e2⟩
  ·rw [Z4 e1,ZaV g I h0 h1 l (i+1) s' e2,e3]
  ·rw [YF e1,e2]
end
def Q5 {α:Type} (p:Nat→α→Bool):List α→Nat→Bool
 | [],_=>true
 | x::l,i=>p i x&&Q5 p l (i+1)
theorem ZjG {α:Type} {p:Nat→α→Bool}:∀{l:List α} {i:Nat},Q5 p l i=true→∀j x,l[j]?=some x→p (i+j) x=true
 | [],_,_,j,x,hx=>by simp at hx
 | y::l,i,h,0,x,hx=>by simp only[Q5,A9] at h;simp at hx;subst hx;exact h.1
 | y::l,i,h,j+1,x,hx=>by
  simp only[Q5,A9] at h
  have:=ZjG h.2 j x (by simpa using hx)
  rwa [show i+(j+1)=i+1+j by omega]
section
variable {α σ ρ:Type} {body:Nat→α→σ→Option (σ ⊕ ρ)} {fin:σ→Option ρ}
theorem Xu {p:Nat→α→Bool} {r:ρ}:∀{l:List α} {i:Nat} {s:σ},(∀j x,l[j]?=some x→body (i+j) x s=some (bif p (i+j) x then .inl s else .inr r))→Zp body fin l i s=if Q5 p l i=true then fin s else some r
 | [],_,_,_=>by simp [Zp,Q5]
 | x::l,i,s,h=>by
  have hx:=h 0 x yG
  simp only[Nat.add_zero] at hx
  by_cases hp:p i x=true
  ·rw [hp,cond_true] at hx
   rw [Z4 hx,Xu fun j y hy=>by have:=h (j+1) y (by simpa using hy);rwa [show i+(j+1)=i+1+j by omega] at this]
   simp [Q5,hp]
  ·rw [eq_false_of_ne_true hp,cond_false] at hx
   rw [YF hx]
   simp [Q5,hp]
theorem YT {β:Type} {g:α→Option β} {fin:List β→Option ρ} {body:Nat→α→List β→Option (List β ⊕ ρ)}:∀{l:List α} {i:Nat} {a:List β},(∀j x s,x∈l→s.length+1≤a.length+l.length→body j x s=some (.inl (s++(g x).toList)))→Zp body fin l i a=fin (a++l.filterMap g)
 | [],_,a,_=>by simp [Zp]
 | x::l,i,a,h=>by
  rw [Z4 (h i x a yG yG)]
  rw [YT fun j y s my hs=>h j y s (by simp [my]) (by cases hg:g x<;>simp [hg] at hs ⊢<;>omega)]
  congr 1
  cases hg:g x<;>simp [hg]
theorem ZhK {β:Type} {g:α→β} {fin:List β→Option ρ} {body:Nat→α→List β→Option (List β ⊕ ρ)} {l:List α} {i:Nat} {a:List β} (h:∀j x s,x∈l→s.length+1≤a.length+l.length→body j x s=some (.inl (s++[g x]))):Zp body fin l i a=fin (a++l.map g):=by
 rw [YT (g:=fun x=>some (g x)) h,List.filterMap_eq_map']
theorem Ze1 {p:α→Bool} {fin:List α→Option ρ} {body:Nat→α→List α→Option (List α ⊕ ρ)} {l:List α} {i:Nat} {a:List α} (h:∀j x s,x∈l→s.length+1≤a.length+l.length→body j x s=some (.inl (if p x=true then s++[x] else s))):Zp body fin l i a=fin (a++l.filter p):=by
 rw [YT (g:=fun x=>if p x=true then some x else none) fun j x s mx hs=>by rw [h j x s mx hs];split<;>simp]
 congr 2
 induction l with
 | nil=>rfl
 | cons x l ih=>
  have ih:=ih fun j y s my hs=>h j y s (by simp [my]) (by simp at hs ⊢;omega)
  by_cases hp:p x=true<;>simp [hp,ih]
end
/- texts -/
theorem ZQ {x y:ByteArray}:sEq x y=true↔x=y:=by simp [sEq]
theorem Zv7 {x y:ByteArray}:sEq x y=false↔¬x=y:=by simp [sEq]
theorem ZxA (x:ByteArray):sEq x x=true:=ZQ.2 rfl
theorem Zf2 {x y:ByteArray} (h:toL x=toL y):x=y:=by rw [←Zj7 x,←Zj7 y,h]
theorem Zds (x:ByteArray):(toL x).length=x.size:=by rw [toL,Ah,Array.length_toList]
theorem ZiA:∀(a b:List UInt8),Op.bytesLess a b=true↔a<b
 | [],[]=>by simp [Op.bytesLess]
 | [],_::_=>by simp [Op.bytesLess]
 | _::_,[]=>by simp [Op.bytesLess]
 | x::a,y::b=>by
  rw [List.cons_lt_cons_iff,←ZiA a b]
  simp only[Op.bytesLess]
  by_cases h:x<y
  ·simp [h]
  ·by_cases h2:x=y
   ·subst h2;simp [h]
   ·simp [h,h2]
theorem Zgl {x y:ByteArray}:sLt x y=true↔toL x<toL y:=by
 unfold sLt toL
 rw [ZiA,AO,AO]
theorem ZiT (x:ByteArray):sLt x x=false:=by
 cases h:sLt x x with
 | false=>rfl
 | true=>exact absurd (Zgl.1 h) (List.lt_irrefl _)
theorem ZfL {x y z:ByteArray} (h1:sLt x y=true) (h2:sLt y z=true):sLt x z=true:=Zgl.2 (List.lt_trans (Zgl.1 h1) (Zgl.1 h2))
theorem ZkU {x y:ByteArray} (h1:sLt x y=true):sLt y x=false:=by
 cases h:sLt y x with
 | false=>rfl
 | true=>have:=ZfL h1 h;rw [ZiT] at this;simp at this
theorem Zqp {x y:ByteArray} (h:sLt x y=true):¬x=y:=fun e=>by rw [e,ZiT] at h;simp at h
theorem ZfB {x y:ByteArray} (h1:sLt x y=false) (h2:¬x=y):sLt y x=true:=by
 rcases Std.lt_trichotomy (toL x) (toL y) with h | h | h
 ·rw [Zgl.2 h] at h1;simp at h1
 ·exact absurd (Zf2 h) h2
 ·exact Zgl.2 h
def Asc (l:List ByteArray):Prop:=l.Pairwise fun x y=>sLt x y=true
theorem Zqn:∀{a b:List ByteArray},Asc a→Asc b→(∀x,x∈a↔x∈b)→a=b
 | [],[],_,_,_=>rfl
 | [],y::b,_,_,h=>by have:=(h y).2 yG;simp at this
 | x::a,[],_,_,h=>by have:=(h x).1 yG;simp at this
 | x::a,y::b,ha,hb,h=>by
  unfold Asc at ha hb
  rw [AD] at ha hb
  have c:x=y:=by
   have h1:=(h x).1 yG
   have h2:=(h y).2 yG
   rcases A5.1 h1 with h1 | h1
   ·exact h1
   ·rcases A5.1 h2 with h2 | h2
    ·exact h2.symm
    ·have:=ZkU (ha.1 y h2);rw [hb.1 x h1] at this;simp at this
  subst c
  congr 1
  refine Zqn ha.2 hb.2 fun z=>?_
  have hz:=h z
  simp only[A5] at hz
  constructor
  ·intro m
   rcases hz.1 (.inr m) with e | m'
   ·exact absurd e.symm (Zqp (ha.1 z m))
   ·exact m'
  ·intro m
   rcases hz.2 (.inr m) with e | m'
   ·exact absurd e.symm (Zqp (hb.1 z m))
   ·exact m'
def QO:List ByteArray→ByteArray→List ByteArray
 | [],s=>[s]
 | x::r,s=>if sLt x s=true then x::QO r s else if sEq x s=true then x::r else s::x::r
theorem Zkd {y s:ByteArray}:∀{l:List ByteArray},y∈QO l s↔y=s∨y∈l
 | []=>by simp [QO]
 | x::r=>by
  simp only[QO]
  split
  ·simp only[A5,Zkd (l:=r)]
   constructor<;>(intro h;rcases h with h | h | h<;>simp [h])
  ·split
   ·rename_i h
    have:=ZQ.1 h
    subst this
    simp
   ·simp
theorem Zhx {s:ByteArray}:∀{l:List ByteArray},Asc l→Asc (QO l s)
 | [],_=>by simp [QO,Asc]
 | x::r,h=>by
  have h':=h
  unfold Asc at h'
  rw [AD] at h'
  simp only[QO]
  split
  ·rename_i hx
   refine AD.2 ⟨fun y my=>?_,Zhx h'.2⟩
   rcases Zkd.1 my with rfl | my
   ·exact hx
   ·exact h'.1 y my
  ·split
   ·exact h
   ·rename_i hx b
    have a:sLt s x=true:=ZfB (by simpa using hx) (fun e=>b (ZQ.2 e))
    refine AD.2 ⟨fun y my=>?_,h⟩
    rcases A5.1 my with rfl | my
    ·exact a
    ·exact ZfL a (h'.1 y my)
theorem Zen (s:ByteArray):∀l:List ByteArray,(QO l s).length≤l.length+1
 | []=>by simp [QO]
 | x::r=>by
  have:=Zen s r
  simp only[QO]
  split
  ·simp;omega
  ·split<;>simp
def ZV (l:List ByteArray):List ByteArray:=l.foldl QO []
theorem Qc:∀(l a:List ByteArray),Asc a→Asc (l.foldl QO a)∧(∀x,x∈l.foldl QO a↔x∈l∨x∈a)∧(l.foldl QO a).length≤l.length+a.length
 | [],a,h=>⟨h,fun x=>by simp,yG⟩
 | y::l,a,h=>by
  obtain ⟨h1,h2,h3⟩:=Qc l (QO a y) (Zhx h)
  refine ⟨h1,fun x=>?_,?_⟩
  ·rw [AG,h2 x,Zkd]
   rw [A5]
   constructor
   ·rintro (h | h | h)<;>simp [h]
   ·rintro ((h | h) | h)<;>simp [h]
  ·have:=Zen y a
   rw [AG]
   simp only[AC]
   omega
theorem Zda (l:List ByteArray):Asc (ZV l):=(Qc l [] AE).1
theorem ZX {x:ByteArray} {l:List ByteArray}:x∈ZV l↔x∈l:=by have:=(Qc l [] AE).2.1 x;rw [ZV,this];simp
theorem Ze0 (l:List ByteArray):(ZV l).length≤l.length:=(Qc l [] AE).2.2
theorem Zgd {a l:List ByteArray} (h:Asc a) (hm:∀x,x∈a↔x∈l):a=ZV l:=Zqn h (Zda l) fun x=>by rw [hm,ZX]
theorem Zow {a b:List ByteArray} (h:∀x,x∈a↔x∈b):ZV a=ZV b:=Zgd (Zda a) fun x=>by rw [ZX,h]
def YM (l:List ByteArray) (s:ByteArray):Bool:=l.any fun x=>sEq x s
theorem Qo {l:List ByteArray} {s:ByteArray}:YM l s=true↔s∈l:=by
 simp only[YM,List.any_eq_true,ZQ]
 constructor
 ·rintro ⟨x,h,rfl⟩;exact h
 ·exact fun h=>⟨s,h,rfl⟩
/- sorting -/
theorem ZvO {x:ByteArray} {l:List ByteArray}:x∈ZfD l↔x∈l:=by
 simp only[ZfD,Ai,List.mem_mergeSort]
 constructor
 ·rintro ⟨y,⟨z,hz,rfl⟩,rfl⟩;rw [Zj7];exact hz
 ·exact fun h=>⟨toL x,⟨x,h,rfl⟩,Zj7 x⟩
theorem Zvw (l:List ByteArray):(ZfD l).length=l.length:=by simp [ZfD]
theorem ZxL (l:List ByteArray):(ZfD l).Pairwise fun x y=>sLt y x=false:=by
 unfold ZfD
 rw [List.pairwise_map]
 have:=List.pairwise_mergeSort (le:=fun x y:List UInt8=>decide (x≤y)) (fun a b c h1 h2=>by simp at h1 h2 ⊢;exact List.le_trans h1 h2) (fun a b=>by simp;exact List.le_total a b) (l.map toL)
 refine this.imp fun {a b} h=>?_
 cases hh:sLt (ofL b) (ofL a) with
 | false=>rfl
 | true=>
  have h1:=Zgl.1 hh
  rw [Zcu,Zcu] at h1
  have h2:a≤b:=by simpa using h
  exact absurd h1 (List.not_lt.2 h2)
end
theorem ZdQ (a b:ByteArray):toL (a++b)=toL a++toL b:=by simp [toL]
theorem Zto (a b:List UInt8):ofL (a++b)=ofL a++ofL b:=Zf2 (by rw [ZdQ,Zcu,Zcu,Zcu])
theorem Zj6 (a:List UInt8):(ofL a).size=a.length:=by rw [←Zds,Zcu]
theorem ZxC (a b c:ByteArray):(a++b)++c=a++(b++c):=Zf2 (by simp only[ZdQ,List.append_assoc])
theorem ZyE (a b:ByteArray):(a++b).size=a.size+b.size:=by rw [←Zds,←Zds,←Zds,ZdQ,AP]
theorem ZeV {n:Int} (h0:-9223372036854775808≤n) (h1:n≤9223372036854775807):IntKind.i64.wrap n=n:=by rw [IntKind.wrap_i64];omega
theorem ZxS (u:Nat) (hu:u<9223372036854775808):Xn [IntKind.u8.wrap (IntKind.i64.wrap (48+Int.tmod (u:Int) 10))]=ofL [AW (48+u % 10)]:=by
 have h1:Int.tmod (u:Int) 10=((u % 10:Nat):Int):=by rw [Int.tmod_eq_emod_of_nonneg yE];omega
 rw [h1,ZeV yE yE,IntKind.wrap_u8,show (48+((u % 10:Nat):Int)) % 256=((48+u % 10:Nat):Int) by omega]
 apply Zf2
 rw [Zcu]
 simp only[Xn,List.map_cons,List.map_nil,toL,AF]
theorem ZyU (u:Nat) (hu:u<9223372036854775808):IntKind.i64.wrap (Int.tdiv (u:Int) 10)=((u / 10:Nat):Int):=by
 rw [Int.tdiv_eq_ediv_of_nonneg yE,ZeV yE yE]
 omega
theorem Zxq {body:Int × ByteArray→Option ((Int × ByteArray) ⊕ ByteArray)} (hb:∀n t,body (n,t)=chk ((Xn [IntKind.u8.wrap (IntKind.i64.wrap (48+Int.tmod n 10))]).size+t.size≤9223372036854775807)
   (if (IntKind.i64.wrap (Int.tdiv n 10)==0)=true then some (.inr (Xn [IntKind.u8.wrap (IntKind.i64.wrap (48+Int.tmod n 10))]++t)) else some (.inl (IntKind.i64.wrap (Int.tdiv n 10),Xn [IntKind.u8.wrap (IntKind.i64.wrap (48+Int.tmod n 10))]++t)))):
  ∀(u:Nat) (t:ByteArray),u<9223372036854775808→t.size+Lib.nDigits u≤1000→XI body ((u:Int),t)=some (ofL (Lib.decDigits u)++t):=by
 intro u
 induction u using Nat.strongRecOn with
 | ind u ih=>
  intro t hu ht
  rw [ZjL,hb,ZxS u hu,ZyU u hu]
  have hp:=Lib.nDigits_pos u
  rw [Zj _ (by rw [Zj6];simp;omega)]
  by_cases h:u<10
  ·have h0:u / 10=0:=by omega
   rw [h0,Lib.decDigits_one h,show u % 10=u by omega]
   rfl
  ·have h0:¬(((u / 10:Nat):Int)==0)=true:=by simp;omega
   rw [if_neg h0]
   have hd:=Lib.nDigits_big h
   show XI body (((u / 10:Nat):Int),ofL [AW (48+u % 10)]++t)=_
   rw [ih (u / 10) yE _ yE (by rw [ZyE,Zj6];simp;omega),←ZxC,←Zto]
   congr 2
   rw [show Lib.decDigits u=Lib.decDigits (u / 10)++[AW (48+u % 10)] by rw [Lib.decDigits,dif_neg h]]
theorem ZCn (t:ByteArray):t++(⟨#[]⟩:ByteArray)=t:=Zf2 (by rw [ZdQ];simp [toL])
theorem ZoU {body:Int × ByteArray→Option ((Int × ByteArray) ⊕ ByteArray)} (hb:∀n t,body (n,t)=chk ((Xn [IntKind.u8.wrap (IntKind.i64.wrap (48+Int.tmod n 10))]).size+t.size≤9223372036854775807)
   (if (IntKind.i64.wrap (Int.tdiv n 10)==0)=true then some (.inr (Xn [IntKind.u8.wrap (IntKind.i64.wrap (48+Int.tmod n 10))]++t)) else some (.inl (IntKind.i64.wrap (Int.tdiv n 10),Xn [IntKind.u8.wrap (IntKind.i64.wrap (48+Int.tmod n 10))]++t))))
  {n:Int} (h0:0≤n) (h1:n≤9223372036854775807):XI body (n,⟨#[]⟩)=some (ofL (Lib.itoa n)):=by
 obtain ⟨u,rfl⟩:∃u:Nat,n=(u:Int):=⟨n.toNat,yE⟩
 have:=Lib.nDigits_le20 u yE
 rw [Zxq hb u _ yE (by show 0+_≤_;omega),ZCn,Lib.itoa_nonneg]
theorem Zt2:ofL (Lib.itoa (-9223372036854775808))=(⟨#[45,57,50,50,51,51,55,50,48,51,54,56,53,52,55,55,53,56,48,56]⟩:ByteArray):=by
 rw [show (-9223372036854775808:Int)=-((9223372036854775808:Nat):Int) by rfl,Lib.itoa_neg _ yE,Lib.decDigits_eq,Lib.nDigits_unique 18 _ yF yF]
 decide +kernel
theorem ZkH {n:Int} (h0:0≤n) (h1:n≤9223372036854775807):ZaQ n=some (ofL (Lib.itoa n)):=by
 unfold ZaQ
 rw [if_neg (by simp;omega),if_neg (by simp;omega)]
 exact ZoU (fun _ _=>rfl) h0 h1
theorem ZmZ {n:Int} (h:Zlp n):Zbl n=some (ofL (Lib.itoa n)):=by
 unfold Zbl
 by_cases hm:n=-9223372036854775808
 ·subst hm
  rw [if_pos yF,Zt2]
 ·rw [if_neg (by simpa using hm)]
  by_cases hn:n<0
  ·have h2:Zlp n:=h
   unfold Zlp at h2
   rw [if_pos (by simpa using hn),ZeV yE yE,ZkH yE yE,A3]
   obtain ⟨u,rfl⟩:∃u:Nat,n=-(u:Int):=⟨n.natAbs,yE⟩
   rw [show (0 - -(u:Int))=(u:Int) by omega,Lib.itoa_nonneg,Lib.itoa_neg u yE]
   have:=Lib.nDigits_le20 u yE
   rw [Zj _ (by rw [Zj6,Lib.decDigits_length];show 1+_≤_;omega)]
   exact congrArg some (Zf2 (by rw [ZdQ,Zcu,Zcu];rfl))
  ·rw [if_neg (by simpa using hn)]
   exact ZoU (fun _ _=>rfl) yE h.2
theorem Zd5 {n:Int} (h:Zlp n):Zbu n=some (ofL (Lib.itoa n)):=by
 have h2:-9223372036854775808≤n∧n≤9223372036854775807:=h
 unfold Zbu ZqT
 rw [Zj _ h2]
 rfl
def ZbP (b:UInt8):Bool:=(decide (97≤b.toNat)&&decide (b.toNat≤122))||(decide (48≤b.toNat)&&decide (b.toNat≤57))
def ZT (s:ByteArray):Bool:=decide (1≤s.size)&&decide (s.size≤8)&&(toL s).all ZbP
theorem Zh0 (x a b:Int):Qr x a b=some (decide (a≤x)&&decide (x≤b)):=by
 unfold Qr
 by_cases h:a≤x<;>simp [h]
theorem Zpa (b:UInt8):IntKind.i64.wrap ((b.toNat:Nat):Int)=((b.toNat:Nat):Int):=ZeT yE (by have:=b.toNat_lt;omega)
theorem Zax {b:UInt8}:ZbP b=true↔(97≤b.toNat∧b.toNat≤122)∨(48≤b.toNat∧b.toNat≤57):=by
 simp only[ZbP,AQ,A9,decide_eq_true_eq]
theorem QB (s:ByteArray):QT s=some (ZT s):=by
 unfold QT ZT
 rw [show s.data.toList=toL s from rfl,Z0 (p:=ZbP) (r:=false)]
 ·simp only[Zh0,A3]
  cases (toL s).all ZbP with
  | true=>
   simp only[if_true,Ak]
   congr 1
   rw [AB]
   simp only[A9,decide_eq_true_eq]
   omega
  | false=>simp
 ·intro i x _
  simp only[Zh0,A3,Zpa,A9,decide_eq_true_eq]
  cases hp:ZbP x with
  | true=>
   have:=Zax.1 hp
   repeat' split
   all_goals first | rfl | (exfalso;omega) | (exfalso;simp_all;done)
  | false=>
   have:=mt (Zax (b:=x)).2 (by simp [hp])
   repeat' split
   all_goals first | rfl | (exfalso;omega) | (exfalso;simp_all;done)
theorem QC (s:ByteArray):QS s=some (ZT s):=by
 unfold QS ZT
 simp only[decide_eq_true_eq]
 rw [show s.data.toList=toL s from rfl,Z0 (p:=ZbP) (r:=false)]
 ·repeat' split
  ·rw [decide_eq_false (show ¬1≤s.size by omega)];rfl
  ·rw [decide_eq_false (show ¬s.size≤8 by omega)];simp
  ·rename_i h;rw [h,decide_eq_true (show 1≤s.size by omega),decide_eq_true (show s.size≤8 by omega)];rfl
  ·rename_i h;rw [eq_false_of_ne_true h];simp
 ·intro i x _
  cases hp:ZbP x with
  | true=>
   have:=Zax.1 hp
   repeat' split
   all_goals first | rfl | (exfalso;omega) | (exfalso;simp_all;done)
  | false=>
   have:=mt (Zax (b:=x)).2 (by simp [hp])
   repeat' split
   all_goals first | rfl | (exfalso;omega) | (exfalso;simp_all;done)
def Zih (s:ByteArray):UInt8:=(toL s).headD 0
theorem Zj1 {s:ByteArray} (h:1≤s.size):sAt s 0=some (Zih s):=by
 unfold sAt Zih
 have hl:0<(toL s).length:=by rw [Zds];omega
 have:(toL s)[0]?=some ((toL s).headD 0):=by
  cases hh:toL s with
  | nil=>rw [hh] at hl;simp at hl
  | cons a r=>simp
 rw [if_pos yE]
 exact Zp3 this
def XG (s:ByteArray):Bool:=ZT s&&decide (97≤(Zih s).toNat)
theorem ZbW {s:ByteArray} (h:ZT s=true):1≤s.size∧s.size≤8:=by
 simp only[ZT,A9,decide_eq_true_eq] at h
 exact h.1
theorem ZjK {s:ByteArray} (h:ZT s=true):ZbP (Zih s)=true:=by
 have hs:=ZbW h
 simp only[ZT,A9] at h
 have hl:0<(toL s).length:=by rw [Zds];omega
 refine AK.1 h.2 _ ?_
 unfold Zih
 cases hh:toL s with
 | nil=>rw [hh] at hl;simp at hl
 | cons a r=>simp
theorem Zhp (s:ByteArray):ZdM s=some (XG s):=by
 unfold ZdM XG
 rw [QB,A3]
 cases h:ZT s with
 | false=>simp
 | true=>
  simp only[if_true,Zj1 (ZbW h).1,A3,Zh0,Zpa,A6]
  have hb:=Zax.1 (ZjK h)
  congr 1
  rw [AB]
  simp only[A9,decide_eq_true_eq]
  omega
theorem Zg9 (s:ByteArray):Zey s=some (XG s):=by
 unfold Zey XG
 rw [QC,A3]
 cases h:ZT s with
 | false=>simp
 | true=>
  simp only[if_true,Zj1 (ZbW h).1,A3,A6]
  congr 1
  rw [AB]
  simp only[decide_eq_true_eq]
  omega
def ZuN (s:ByteArray):ByteArray:=s.extract 1 s.size
def Yr (s:ByteArray):Bool:=decide (1<s.size)&&decide ((Zih s).toNat=63)&&ZT (ZuN s)
theorem Zaj (s:ByteArray):Za3 s=some (Yr s):=by
 unfold Za3 Yr ZuN
 by_cases h:1<s.size
 ·have h':(1:Int)<((s.size:Nat):Int):=by omega
  simp only[h',h,decide_true,if_true,Zj1 (show 1≤s.size by omega),A3,A6]
  rw [Zj _ ⟨yE,yE⟩,show Int.toNat 1=1 from rfl,QB,A3]
  by_cases h2:(Zih s).toNat=63
  ·simp [h2]
  ·have:¬((Zih s).toNat:Int)=63:=by omega
   simp [h2,this]
 ·have h':¬(1:Int)<((s.size:Nat):Int):=by omega
  simp [h',h]
theorem ZdO (s:ByteArray):Zdp s=some (Yr s):=by
 unfold Zdp Yr ZuN
 by_cases h:1<s.size
 ·have h':(1:Int)<((s.size:Nat):Int):=by omega
  simp only[h',h,decide_true,if_true,Zj1 (show 1≤s.size by omega),A3,A6]
  rw [Zj _ ⟨yE,yE⟩,show Int.toNat 1=1 from rfl,QC,A3]
  by_cases h2:(Zih s).toNat=63
  ·simp [h2]
  ·have:¬((Zih s).toNat:Int)=63:=by omega
   simp [h2,this]
 ·have h':¬(1:Int)<((s.size:Nat):Int):=by omega
  simp [h',h]
def YJ (s:ByteArray):Bool:=ZT s||Yr s
theorem Zk6 (s:ByteArray):Zaq s=some (YJ s):=by
 unfold Zaq YJ
 rw [QB,Zaj]
 cases ZT s<;>simp
theorem ZkY (s:ByteArray):Zab s=some (YJ s):=by
 unfold Zab YJ
 rw [QC,ZdO]
 cases ZT s<;>simp
theorem Xc (l:List ByteArray) (s:ByteArray):ZW l s=some (YM l s):=by
 unfold ZW YM
 rw [ZcX (p:=fun x=>sEq x s) (r:=true)]
 ·cases l.any fun x=>sEq x s<;>simp
 ·intro i x _
  cases sEq x s<;>simp
theorem Zay (l:List ByteArray) (s:ByteArray):Xv l s=some (YM l s):=by
 unfold Xv YM
 rw [ZcX (p:=fun x=>sEq x s) (r:=true)]
 ·cases l.any fun x=>sEq x s<;>simp
 ·intro i x _
  cases sEq x s<;>simp
theorem QM (l:List ByteArray) (s:ByteArray) (h:l.length+1≤1073741824):Qd l s=some (QO l s):=by
 unfold Qd
 refine (ZaV (fun l _ (st:List ByteArray × Bool)=>some (if st.2=true then st.1++l else st.1++QO l s)) (fun l _ (st:List ByteArray × Bool)=>st.1.length+l.length+(if st.2=true then 0 else 1)≤1073741824) ?_ ?_ l 0 ([],false) (by simpa using h)).trans yG
 ·rintro i ⟨row,d⟩ hI
  cases d with
  | true=>simp
  | false=>simp only[AA,if_false,QO];simp at hI;rw [Zj _ yE]
 ·rintro x l i ⟨row,d⟩ hI
  left
  cases d with
  | true=>
   simp at hI
   exact ⟨(row++[x],true),by simp only[if_true];rw [Zj _ yE],by simp;omega,yG⟩
  | false=>
   simp at hI
   cases h1:sLt x s with
   | true=>exact ⟨(row++[x],false),by simp only[AA,if_false,if_true];rw [Zj _ yE],by simp;omega,by simp [QO,h1]⟩
   | false=>
    cases h2:sEq x s with
    | true=>exact ⟨(row++[x],true),by simp only[AA,if_false,if_true];rw [Zj _ yE],by simp;omega,by simp [QO,h1,h2]⟩
    | false=>exact ⟨(row++[s]++[x],true),by simp only[AA,if_false];rw [Zj _ yE,Zj _ yE],by simp;omega,by simp [QO,h1,h2]⟩
def XC:ByteArray→List ByteArray→List ByteArray
 | _,[]=>[]
 | y,x::r=>if sEq y x=true then XC x r else x::XC x r
def ZmO:List ByteArray→List ByteArray
 | []=>[]
 | x::r=>x::XC x r
theorem Zgf {z:ByteArray}:∀{l:List ByteArray} {y:ByteArray},z∈XC y l→z∈l
 | [],_,h=>by simp [XC] at h
 | x::r,y,h=>by
  simp only[XC] at h
  split at h
  ·exact AX _ (Zgf h)
  ·rcases A5.1 h with rfl | h
   ·simp
   ·exact AX _ (Zgf h)
theorem ZjR {z:ByteArray}:∀{l:List ByteArray} {y:ByteArray},z∈l→z=y∨z∈XC y l
 | [],_,h=>by simp at h
 | x::r,y,h=>by
  simp only[XC]
  rcases A5.1 h with rfl | h
  ·split
   ·rename_i e;exact .inl (ZQ.1 e).symm
   ·simp
  ·rcases ZjR (y:=x) h with rfl | h'
   ·split
    ·rename_i e;exact .inl (ZQ.1 e).symm
    ·simp
   ·split
    ·exact .inr h'
    ·exact .inr (AX _ h')
theorem ZjN:∀{l:List ByteArray} {y:ByteArray},(y::l).Pairwise (fun a b=>sLt b a=false)→Asc (y::XC y l)
 | [],_,_=>by simp [XC,Asc]
 | x::r,y,h=>by
  rw [AD] at h
  have ih:=ZjN h.2
  simp only[XC]
  split
  ·rename_i e
   have e':=ZQ.1 e
   subst e'
   exact ih
  ·rename_i e
   have c:sLt y x=true:=ZfB (h.1 x yG) (fun h=>e (ZQ.2 h.symm))
   refine AD.2 ⟨fun z mz=>?_,ih⟩
   rcases A5.1 mz with rfl | mz
   ·exact c
   ·exact ZfL c ((AD.1 ih).1 z mz)
theorem Zqf (l:List ByteArray):ZmO (ZfD l)=ZV l:=by
 have hs:=ZxL l
 refine Zgd ?_ fun x=>?_
 ·cases h:ZfD l with
  | nil=>simp [ZmO,Asc]
  | cons y r=>rw [h] at hs;exact ZjN hs
 ·rw [←ZvO (l:=l)]
  cases h:ZfD l with
  | nil=>simp [ZmO]
  | cons y r=>
   simp only[ZmO,A5]
   constructor
   ·rintro (rfl | h)
    ·exact .inl rfl
    ·exact .inr (Zgf h)
   ·rintro (rfl | h)
    ·exact .inl rfl
    ·exact ZjR h
theorem Qi (l:List ByteArray) (h:l.length≤1073741824):Yy l=some (ZV l):=by
 unfold Yy
 rw [Zj _ h,Zcw,Zj _ yE,A3]
 have hl:=Zvw l
 rw [←Zqf]
 generalize ZfD l=v at hl
 refine (ZaV (fun r i (row:List ByteArray)=>some (row++match i with | 0=>ZmO r | i+1=>(match v[i]? with | some y=>XC y r | none=>[]))) (fun r i row=>v.drop i=r∧row.length≤i∧i≤v.length) ?_ ?_ v 0 [] ⟨yG,yG,yG⟩).trans yG
 ·rintro i row ⟨h1,h2,h3⟩
  cases i with
  | zero=>simp [ZmO]
  | succ i=>cases hv:v[i]?<;>simp [XC,hv]
 ·rintro x r i row ⟨h1,h2,h3⟩
  left
  have hi:v[i]?=some x:=by have:=congrArg (fun l=>l[0]?) h1;simpa using this
  have hlt:i<v.length:=(AH.1 hi).1
  have hr:v.drop (i+1)=r:=by have:=congrArg AY h1;simpa using this
  cases i with
  | zero=>
   refine ⟨row++[x],?_,⟨hr,by simp at h2 ⊢;simp [h2],yE⟩,?_⟩
   ·simp only[Int.natCast_zero,beq_self_eq_true,if_true]
    rw [Zj _ yE]
   ·simp [ZmO,hi]
  | succ i=>
   have hw:IntKind.i64.wrap (((i+1:Nat):Int) - 1)=((i:Nat):Int):=by rw [ZeT yE yE];omega
   have a:((((i+1:Nat):Int))==0)=false:=by rw [beq_eq_false_iff_ne];omega
   obtain ⟨y,hy⟩:∃y,v[i]?=some y:=⟨v[i],yG⟩
   simp only[a,AA,if_false,hw,AF,hy,A3]
   cases he:sEq y x with
   | true=>
    refine ⟨row,?_,⟨hr,yE,yE⟩,?_⟩
    ·rw [Zj _ ⟨yE,yE⟩];rfl
    ·simp [XC,he,hi]
   | false=>
    refine ⟨row++[x],?_,⟨hr,by simp;omega,yE⟩,?_⟩
    ·rw [Zj _ ⟨yE,yE⟩]
     simp only[AA,if_false]
     rw [Zj _ yE]
    ·simp [XC,he,hi]
theorem Zg2 (l:List ByteArray) (h:l.length≤1073741824):Zbx l=some l:=by
 unfold Zbx
 rw [Zj _ h]
theorem ZqO (l:List ByteArray) (h:l.length≤1073741824):ZfK l=some l:=by
 unfold ZfK
 rw [Zj _ h]
theorem Zm0 {ρ:Type} {fin:List ByteArray→Option ρ} {body:Nat→ByteArray→List ByteArray→Option (List ByteArray ⊕ ρ)} (hb:∀j x s,body j x s=(Qd s x).bind fun v=>some (.inl v)) {l a:List ByteArray} (h:a.length+l.length≤1073741824):Zp body fin l 0 a=fin (l.foldl QO a):=by
 refine Y9 (f:=QO) (fun j s=>s.length≤a.length+j) yE fun j x s mx hj hl hI=>?_
 have hp:=Zen x s
 exact ⟨by rw [hb,QM _ _ yE];rfl,yE⟩
theorem ZaC {α σ ρ:Type} {body:Nat→α→σ→Option (σ ⊕ ρ)} {fin:σ→Option ρ} (st:List α→σ) (l:List α) (h:∀p x q,l=p++x::q→body p.length x (st p)=some (.inl (st (p++[x])))):Zp body fin l 0 (st [])=fin (st l):=by
 have key:∀(q p:List α),l=p++q→Zp body fin q p.length (st p)=fin (st l):=by
  intro q
  induction q with
  | nil=>intro p e;rw [ZnV,e,Al]
  | cons x q ih=>
   intro p e
   rw [Z4 (h p x q e)]
   have:=ih (p++[x]) (by rw [e];simp)
   simpa using this
 exact key l [] rfl
def Y3 (f:Zc):Bool:=XG f.rel&&decide (f.args.length≤3)&&f.args.all ZT
theorem Zli (f:Zc):ZfR f=some (Y3 f):=by
 unfold ZfR Y3
 rw [Z0 (p:=ZT) (r:=false)]
 ·rw [Zhp,A3]
  cases XG f.rel<;>cases h:f.args.all ZT<;>simp<;>omega
 ·intro i x _
  rw [QB,A3]
  cases ZT x<;>rfl
theorem Zlu (f:Zc):ZfO f=some (Y3 f):=by
 unfold ZfO Y3
 rw [Zg9,A3]
 cases XG f.rel with
 | false=>rfl
 | true=>
  rw [if_pos rfl]
  by_cases h:f.args.length≤3
  ·rw [if_neg (by simp;omega),Z0 (p:=ZT) (r:=false)]
   ·cases h2:f.args.all ZT<;>simp [h]
   ·intro i x _
    rw [QC,A3]
    cases ZT x<;>rfl
  ·rw [if_pos (by simp;omega)]
   simp [h]
def Z9 (p:Zx):Bool:=XG p.rel&&decide (p.args.length≤3)&&p.args.all YJ
theorem ZbD (p:Zx):Xq p=some (Z9 p):=by
 unfold Xq Z9
 rw [Z0 (p:=YJ) (r:=false)]
 ·simp only[Zhp,A3]
  have:decide (((p.args.length:Nat):Int)≤3)=decide (p.args.length≤3):=by rw [AB];simp only[decide_eq_true_eq];omega
  rw [this]
  cases p.args.all YJ<;>cases XG p.rel<;>simp
 ·intro i x _
  rw [Zk6]
  cases YJ x<;>simp
theorem ZbE (p:Zx):Xp p=some (Z9 p):=by
 unfold Xp Z9
 rw [Zg9,Z0 (p:=YJ) (r:=false)]
 ·by_cases h:p.args.length≤3
  ·have h':¬(3:Int)<((p.args.length:Nat):Int):=by omega
   cases p.args.all YJ<;>cases XG p.rel<;>simp [h,h']
  ·have h':(3:Int)<((p.args.length:Nat):Int):=by omega
   cases XG p.rel<;>simp [h,h']
 ·intro i x _
  rw [ZkY]
  cases YJ x<;>simp
def Xm (p:Zx):Bool:=sEq p.rel ⟨#[]⟩&&decide (p.args.length=0)
theorem Zvc {α:Type} (l:List α):((((l.length:Nat):Int))==0)=decide (l.length=0):=by
 rw [AB,beq_iff_eq,decide_eq_true_eq];omega
theorem Zfv (p:Zx):Xt p=some (Xm p):=by
 unfold Xt Xm
 rw [Zvc]
 cases sEq p.rel ⟨#[]⟩<;>simp
def Y1 (x:Zl):Bool:=
 if x.kind=1∨x.kind=2 then Z9 x.pattern&&sEq x.left ⟨#[]⟩&&sEq x.right ⟨#[]⟩
 else if x.kind=3∨x.kind=4∨x.kind=5 then Xm x.pattern&&YJ x.left&&YJ x.right
 else false
theorem ZeH (x:Zl):Zej x=some (Y1 x):=by
 unfold Zej Y1
 simp only[ZbD,Zk6,A3,Xm,Zvc,beq_iff_eq]
 by_cases h1:x.kind=1
 ·simp only[h1,if_true,true_or];cases Z9 x.pattern<;>cases sEq x.left ⟨#[]⟩<;>simp
 by_cases h2:x.kind=2
 ·simp only[h2,if_true,or_true];cases Z9 x.pattern<;>cases sEq x.left ⟨#[]⟩<;>simp
 simp only[h1,h2,if_false,or_self]
 by_cases h3:x.kind=3
 ·simp only[h3,if_true,true_or];cases sEq x.pattern.rel ⟨#[]⟩<;>cases decide (x.pattern.args.length=0)<;>cases YJ x.left<;>simp
 by_cases h4:x.kind=4
 ·simp only[h4,if_true,true_or,or_true];cases sEq x.pattern.rel ⟨#[]⟩<;>cases decide (x.pattern.args.length=0)<;>cases YJ x.left<;>simp
 by_cases h5:x.kind=5
 ·simp only[h5,if_true,or_true];cases sEq x.pattern.rel ⟨#[]⟩<;>cases decide (x.pattern.args.length=0)<;>cases YJ x.left<;>simp
 simp [h3,h4,h5]
theorem Zhy (x:Zl):Zeh x=some (Y1 x):=by
 unfold Zeh Y1
 simp only[ZbE,ZkY,Zfv,A3,beq_iff_eq]
 by_cases h1:x.kind=1
 ·simp only[h1,if_true,true_or];cases Z9 x.pattern<;>cases sEq x.left ⟨#[]⟩<;>simp
 by_cases h2:x.kind=2
 ·simp only[h2,if_true,or_true];cases Z9 x.pattern<;>cases sEq x.left ⟨#[]⟩<;>simp
 simp only[h1,h2,if_false,or_self]
 by_cases h3:x.kind=3
 ·simp only[h3,if_true,true_or];cases Xm x.pattern<;>cases YJ x.left<;>cases YJ x.right<;>simp
 by_cases h4:x.kind=4
 ·simp only[h4,if_true,true_or,or_true];cases Xm x.pattern<;>cases YJ x.left<;>cases YJ x.right<;>simp
 by_cases h5:x.kind=5
 ·simp only[h5,if_true,or_true];cases Xm x.pattern<;>cases YJ x.left<;>cases YJ x.right<;>simp
 simp [h3,h4,h5]
theorem Zqk {x:Zl} (h:Y1 x=true):x.kind=1∨x.kind=2∨x.kind=3∨x.kind=4∨x.kind=5:=by
 unfold Y1 at h
 split at h
 ·rename_i h1;omega
 ·split at h
  ·rename_i h1;omega
  ·simp at h
theorem Zs4 (x:Zl):ZbV x=some (Y1 x&&decide (3≤x.kind)):=by
 unfold ZbV
 rw [ZeH]
 cases Y1 x<;>simp
def XP (a:Zu):Bool:=
 if a.kind=1∨a.kind=2 then Z9 a.pattern else if a.kind=3 then Xm a.pattern else false
theorem Zon (a:Zu):Zer a=some (XP a):=by
 unfold Zer XP
 simp only[ZbD,A3,Xm,Zvc,beq_iff_eq]
 by_cases h1:a.kind=1
 ·simp [h1]
 by_cases h2:a.kind=2
 ·simp [h2]
 by_cases h3:a.kind=3
 ·simp only[h3,if_true];cases sEq a.pattern.rel ⟨#[]⟩<;>simp
 simp [h1,h2,h3]
theorem Zoz (a:Zu):ZeA a=some (XP a):=by
 unfold ZeA XP
 simp only[ZbE,Zfv,A3,beq_iff_eq]
 by_cases h1:a.kind=1
 ·simp [h1]
 by_cases h2:a.kind=2
 ·simp [h2]
 by_cases h3:a.kind=3
 ·simp [h3]
 simp [h1,h2,h3]
def Xk (l:List ByteArray):List ByteArray:=l.filter Yr
theorem ZdE (l:List ByteArray):(Xk l).length≤l.length:=List.length_filter_le _ _
theorem Zcf {x:ByteArray} {l:List ByteArray}:x∈Xk l↔x∈l∧Yr x=true:=by simp [Xk]
theorem Zel (l:List ByteArray) (h:l.length≤1073741824):Zai l=some (Xk l):=by
 unfold Zai
 rw [Ze1 (p:=Yr)]
 ·simp [Xk]
 ·intro j x s _ hs
  rw [ZdO,A3]
  split
  ·rw [Zj _ (by simp at hs;omega)]
  ·rfl
theorem Zle {p:ByteArray→Bool}:∀(l a:List ByteArray),l.foldl (fun s x=>if p x=true then QO s x else s) a=(l.filter p).foldl QO a
 | [],_=>rfl
 | x::l,a=>by
  rw [AG,Zle l]
  by_cases h:p x=true<;>simp [h]
theorem ZcT (p:Zx) (h:p.args.length≤1073741823):Zb5 p=some (ZV (Xk p.args)):=by
 unfold Zb5
 rw [Y9 (f:=fun s x=>if Yr x=true then QO s x else s) (fun j s=>s.length≤j) yG]
 ·rw [Zle];rfl
 ·intro j x s _ _ hl hI
  simp at hl
  have:=Zen x s
  rw [Zaj,A3]
  split
  ·rw [QM _ _ yE]
   exact ⟨rfl,yE⟩
  ·exact ⟨rfl,yE⟩
def ZgL (x:Zl):List ByteArray:=x.pattern.args++[x.left,x.right]
def Y5 (x:Zl):List ByteArray:=ZV (Xk (ZgL x))
theorem ZcE (x:Zl) (h:x.pattern.args.length≤1073741822):QI x=some (Y5 x):=by
 unfold QI ZhS
 rw [Zg2 _ yE,A3,Zj _ yE,A3,Zel _ (by simp;omega),A3]
 have:=ZdE (x.pattern.args++[x.left,x.right])
 simp at this
 rw [Qi _ yE]
 rfl
theorem Zcz (x:Zl) (h:x.pattern.args.length≤1073741820):X3 x=some (Y5 x):=by
 unfold X3
 have h1:=Ze0 (Xk x.pattern.args)
 have h2:=ZdE x.pattern.args
 have h3:=Zen x.left (ZV (Xk x.pattern.args))
 have key:∀l:List ByteArray,(∀y,y∈l↔y∈Xk (ZgL x))→Asc l→l=Y5 x:=fun l hm ha=>Zgd ha hm
 rw [ZcT _ yE,A3,Zaj,A3,Zaj]
 simp only[A3]
 rw [QM _ _ yE,A3,QM (QO _ _) _ yE,A3,QM _ x.right yE,A3]
 cases hl:Yr x.left<;>cases hr:Yr x.right<;>simp only[if_true,AA,if_false]<;>congr 1<;>apply key<;>(try intro y)<;>(try simp only[Zkd,ZX,Zcf,ZgL,AL,A5,Am,or_false])
 all_goals first
  | exact Zda _
  | exact Zhx (Zda _)
  | exact Zhx (Zhx (Zda _))
  | skip
 ·constructor
  ·rintro ⟨a,b⟩;exact ⟨.inl a,b⟩
  ·rintro ⟨a | rfl | rfl,b⟩
   ·exact ⟨a,b⟩
   ·rw [hl] at b;simp at b
   ·rw [hr] at b;simp at b
 ·constructor
  ·rintro (rfl | ⟨a,b⟩)
   ·exact ⟨yG,hr⟩
   ·exact ⟨.inl a,b⟩
  ·rintro ⟨a | rfl | rfl,b⟩
   ·exact .inr ⟨a,b⟩
   ·rw [hl] at b;simp at b
   ·exact .inl rfl
 ·constructor
  ·rintro (rfl | ⟨a,b⟩)
   ·exact ⟨yG,hl⟩
   ·exact ⟨.inl a,b⟩
  ·rintro ⟨a | rfl | rfl,b⟩
   ·exact .inr ⟨a,b⟩
   ·exact .inl rfl
   ·rw [hr] at b;simp at b
 ·constructor
  ·rintro (rfl | rfl | ⟨a,b⟩)
   ·exact ⟨yG,hr⟩
   ·exact ⟨yG,hl⟩
   ·exact ⟨.inl a,b⟩
  ·rintro ⟨a | rfl | rfl,b⟩
   ·exact .inr (.inr ⟨a,b⟩)
   ·exact .inr (.inl rfl)
   ·exact .inl rfl
theorem ZhX (x:Zl):(Y5 x).length≤x.pattern.args.length+2:=by
 have h1:=Ze0 (Xk (ZgL x))
 have h2:=ZdE (ZgL x)
 have h3:(ZgL x).length=x.pattern.args.length+2:=by simp [ZgL]
 unfold Y5
 omega
theorem Zvk {x:Zl} {v:ByteArray} (h:v∈Y5 x):Yr v=true:=(Zcf.1 (ZX.1 h)).2
structure ZaL (r:Zg):Prop where
 cl:r.cond.length≤1048576
 tl:r.thn.length≤1048576
 ca:∀x∈r.cond,x.pattern.args.length≤1048576
 ta:∀a∈r.thn,a.pattern.args.length≤1048576
def Y2 (l:List Zl):List ByteArray:=l.flatMap fun x=>if x.kind=1 then Xk x.pattern.args else []
def YY (r:Zg) (n:Nat):List ByteArray:=ZV (Y2 (r.cond.take n))
theorem Zet (r:Zg) (n:Int) (h:ZaL r) (h4:r.cond.length≤4):Zac r n=some (YY r n.toNat):=by
 unfold Zac YY
 refine (ZaV (fun l i (row:List ByteArray)=>some (ZV (row++Y2 (l.take (n.toNat - i))))) (fun l i row=>r.cond.drop i=l∧row.length≤1048576 * i∧i≤r.cond.length) ?_ ?_ r.cond 0 [] ⟨yG,yG,yG⟩).trans yG
 ·rintro i row ⟨h1,h2,h3⟩
  rw [Qi _ yE]
  simp [Y2]
 ·rintro x l i row ⟨h1,h2,h3⟩
  left
  have hi:r.cond[i]?=some x:=by have:=congrArg (fun l=>l[0]?) h1;simpa using this
  have hlt:i<r.cond.length:=(AH.1 hi).1
  have hr:r.cond.drop (i+1)=l:=by have:=congrArg AY h1;simpa using this
  have hx:=h.ca x (AM hi)
  have hv:=ZdE x.pattern.args
  by_cases hn:((i:Nat):Int)<n
  ·have e:n.toNat - i=(n.toNat - (i+1))+1:=by omega
   by_cases hk:x.kind=1
   ·refine ⟨row++Xk x.pattern.args,?_,⟨hr,by simp;omega,yE⟩,?_⟩
    ·simp only[hn,hk,decide_true,beq_self_eq_true,if_true]
     rw [Zel _ yE,A3,Zj _ yE]
    ·rw [e];simp [Y2,hk]
   ·refine ⟨row,?_,⟨hr,yE,yE⟩,?_⟩
    ·simp [hn,hk]
    ·rw [e];simp [Y2,hk]
  ·have e:n.toNat - i=0:=by omega
   have e':n.toNat - (i+1)=0:=by omega
   refine ⟨row,?_,⟨hr,yE,yE⟩,?_⟩
   ·simp [hn]
   ·rw [e,e'];simp
theorem Zek (r:Zg) (n:Int) (h:ZaL r) (h4:r.cond.length≤4):QH r n=some (YY r n.toNat):=by
 unfold QH YY
 refine (ZaV (fun l i (row:List ByteArray)=>some ((Y2 (l.take (n.toNat - i))).foldl QO row)) (fun l i row=>r.cond.drop i=l∧row.length≤1048576 * i∧i≤r.cond.length∧Asc row) ?_ ?_ r.cond 0 [] ⟨yG,yG,yG,AE⟩).trans (by simp [ZV])
 ·rintro i row ⟨h1,h2,h3,h5⟩
  simp [Y2]
 ·rintro x l i row ⟨h1,h2,h3,h5⟩
  have hi:r.cond[i]?=some x:=by have:=congrArg (fun l=>l[0]?) h1;simpa using this
  have hlt:i<r.cond.length:=(AH.1 hi).1
  have hr:r.cond.drop (i+1)=l:=by have:=congrArg AY h1;simpa using this
  have hx:=h.ca x (AM hi)
  have hv:=ZdE x.pattern.args
  have hs:=Ze0 (Xk x.pattern.args)
  by_cases hn:((i:Nat):Int)<n
  ·left
   have e:n.toNat - i=(n.toNat - (i+1))+1:=by omega
   by_cases hk:x.kind=1
   ·obtain ⟨f1,f2,f3⟩:=Qc (ZV (Xk x.pattern.args)) row h5
    refine ⟨(ZV (Xk x.pattern.args)).foldl QO row,?_,⟨hr,yE,yE,f1⟩,?_⟩
    ·simp only[hn,hk,decide_true,beq_self_eq_true,if_true]
     rw [ZcT _ yE,A3,Zm0 (fun _ _ _=>rfl) yE]
    ·rw [e]
     simp only[Y2,List.take_succ_cons,AN,hk,if_true,AZ]
     congr 2
     obtain ⟨g1,g2,_⟩:=Qc (Xk x.pattern.args) row h5
     exact Zqn g1 f1 fun y=>by rw [g2,f2,ZX]
   ·refine ⟨row,?_,⟨hr,yE,yE,h5⟩,?_⟩
    ·simp [hn,hk]
    ·rw [e];simp [Y2,hk]
  ·right
   have e:n.toNat - i=0:=by omega
   refine ⟨row,by simp [hn],by rw [e];simp [Y2]⟩
def Znv (r:Zg) (i:Int) (v:ByteArray):Bool:=!(Q5 (fun k x=>!(decide ((k:Int)≠i)&&YM (Y5 x) v)) r.cond 0&&r.thn.all fun a=>!YM a.pattern.args v)
theorem Zhu {r:Zg} {i:Int} {v:ByteArray} {f:Zl→Option (List ByteArray)} {g:List ByteArray→ByteArray→Option Bool} (hf:∀x∈r.cond,f x=some (Y5 x)) (hg:∀l,g l v=some (YM l v)) {fin:Unit→Option Bool} (c:fin ()=some (!(r.thn.all fun a=>!YM a.pattern.args v))):
  Zp (σ:=Unit) (fun (k:Nat) (x:Zl) _=>if (((k:Nat):Int) != i)=true then (f x).bind fun l=>(g l v).bind fun b=>if b=true then some (.inr true) else some (.inl ()) else some (.inl ())) fin r.cond 0 ()=some (Znv r i v):=by
 rw [Xu (p:=fun k x=>!(decide ((k:Int)≠i)&&YM (Y5 x) v)) (r:=true)]
 ·unfold Znv
  cases Q5 (fun k x=>!(decide ((k:Int)≠i)&&YM (Y5 x) v)) r.cond 0 with
  | true=>simp only[if_true,c,A6]
  | false=>simp
 ·intro j x hj
  rw [hf x (AM hj),A3,hg,A3,AR]
  by_cases h:(j:Int)=i
  ·simp [h]
  ·have:((j:Int) != i)=true:=by simpa using h
   simp only[this,if_true]
   cases YM (Y5 x) v<;>simp [h]
theorem ZgX (r:Zg) (i:Int) (v:ByteArray) (h:ZaL r):XT r i v=some (Znv r i v):=by
 unfold XT
 refine Zhu (f:=QI) (g:=Xv) (fun x mx=>ZcE x (by have:=h.ca x mx;omega)) (fun l=>Zay l v) ?_
 rw [ZcX (p:=fun a=>YM a.pattern.args v) (r:=true)]
 ·simp only[←Ao,Aq]
  cases r.thn.any fun a=>YM a.pattern.args v<;>rfl
 ·intro j a _
  rw [Zay]
  cases YM a.pattern.args v<;>simp
theorem ZkP (r:Zg) (i:Int) (v:ByteArray) (h:ZaL r) (hv:Yr v=true):X5 r i v=some (Znv r i v):=by
 unfold X5
 refine Zhu (f:=X3) (g:=ZW) (fun x mx=>Zcz x (by have:=h.ca x mx;omega)) (fun l=>Xc l v) ?_
 rw [ZcX (p:=fun a=>YM a.pattern.args v) (r:=true)]
 ·simp only[←Ao,Aq]
  cases r.thn.any fun a=>YM a.pattern.args v<;>rfl
 ·intro j a ma
  rw [ZcT _ (by have:=h.ta a ma;omega),A3,Xc,A3]
  have:YM (ZV (Xk a.pattern.args)) v=YM a.pattern.args v:=by
   rw [AB,Qo,Qo,ZX,Zcf]
   simp [hv]
  rw [this]
  cases YM a.pattern.args v<;>simp
def Zmu (r:Zg) (i:Nat) (x:Zl) (v:ByteArray):Bool:=decide (x.kind=1)||YM (YY r i) v||(decide (x.kind=2)&&!Znv r i v)
def ZfG (r:Zg) (i:Nat) (x:Zl):Bool:=(Y5 x).all (Zmu r i x)
theorem Zn0 (r:Zg) (i:Nat) (x:Zl) (h:ZaL r) (h4:r.cond.length≤4) (hx:r.cond[i]?=some x):Zcd r i=some (ZfG r i x):=by
 unfold Zcd ZfG
 have ha:atI r.cond (i:Int)=some x:=by unfold atI;rw [if_pos yE,AF];exact hx
 rw [ha,A3,Zet r _ h h4,A3,ZcE x (by have:=h.ca x (AM hx);omega),A3,AF]
 rw [Z0 (p:=Zmu r i x) (r:=false)]
 ·cases (Y5 x).all (Zmu r i x)<;>rfl
 ·intro j v mv
  rw [Zay,ZgX r _ v h]
  simp only[A3,Zmu,beq_iff_eq,bne_iff_ne,ne_eq]
  by_cases h1:x.kind=1
  ·simp [h1]
  ·simp only[h1,if_false,decide_false,Ar]
   cases YM (YY r i) v with
   | true=>simp
   | false=>
    by_cases h2:x.kind=2
    ·simp only[h2,not_true_eq_false,if_false,AA,decide_true,A6,Ar]
     cases Znv r i v<;>simp
    ·simp [h2]
def YP (r:Zg):Bool:=
 XG r.name&&decide (0≤r.priority)&&decide (r.priority≤9)&&decide (1≤r.cond.length)&&decide (r.cond.length≤4)&&decide (1≤r.thn.length)&&decide (r.thn.length≤2)
  && Q5 (fun i x=>Y1 x&&(decide (i≠0)||decide (x.kind=1))&&ZfG r i x) r.cond 0
  && r.thn.all (fun a=>XP a&&(Xk a.pattern.args).all (YM (YY r r.cond.length)))
  && decide ((ZV (r.cond.flatMap Y5)).length≤6)
theorem ZlQ (l:List Zl) (h:∀x∈l,x.pattern.args.length≤1048576) (h4:l.length≤4):ZbK l=some (l.flatMap Y5):=by
 unfold ZbK
 rw [Y9 (f:=fun s x=>s++Y5 x) (fun j s=>s.length≤1048578 * j) yG]
 ·congr 1
  have:∀(l:List Zl) (a:List ByteArray),l.foldl (fun s x=>s++Y5 x) a=a++l.flatMap Y5:=by
   intro l
   induction l with
   | nil=>simp
   | cons x l ih=>intro a;rw [AG,ih];simp
  simpa using this l []
 ·intro j x s mx _ hl hI
  have:=h x mx
  have:=ZhX x
  rw [ZcE x yE,A3,Zj _ yE]
  exact ⟨rfl,by simp;omega⟩
theorem ZhC (r:Zg) (h:ZaL r):Zex r=some (YP r):=by
 unfold Zex YP
 rw [Zg9,A3]
 cases XG r.name with
 | false=>simp
 | true=>
 simp only[if_true,decide_eq_true_eq,A6]
 split
 ·rw [decide_eq_false (show ¬0≤r.priority by omega)];simp
 split
 ·rw [decide_eq_false (show ¬r.priority≤9 by omega)];simp
 split
 ·rw [decide_eq_false (show ¬1≤r.cond.length by omega)];simp
 split
 ·rw [decide_eq_false (show ¬r.cond.length≤4 by omega)];simp
 split
 ·rw [decide_eq_false (show ¬1≤r.thn.length by omega)];simp
 split
 ·rw [decide_eq_false (show ¬r.thn.length≤2 by omega)];simp
 rw [decide_eq_true (show 0≤r.priority by omega),decide_eq_true (show r.priority≤9 by omega),decide_eq_true (show 1≤r.cond.length by omega),decide_eq_true (show r.cond.length≤4 by omega),decide_eq_true (show 1≤r.thn.length by omega),decide_eq_true (show r.thn.length≤2 by omega)]
 simp only[A6]
 have h4:r.cond.length≤4:=by omega
 rw [Xu (p:=fun i x=>Y1 x&&(decide (i≠0)||decide (x.kind=1))&&ZfG r i x) (r:=false)]
 ·cases Q5 (fun i x=>Y1 x&&(decide (i≠0)||decide (x.kind=1))&&ZfG r i x) r.cond 0 with
  | false=>simp
  | true=>
   simp only[if_true,A6]
   rw [Zet r _ h h4,A3,AF,Z0 (p:=fun a=>XP a&&(Xk a.pattern.args).all (YM (YY r r.cond.length))) (r:=false)]
   ·cases r.thn.all fun a=>XP a&&(Xk a.pattern.args).all (YM (YY r r.cond.length)) with
    | false=>simp
    | true=>
     have hl:(r.cond.flatMap Y5).length≤1048578 * r.cond.length:=by
      have:∀l:List Zl,(∀x∈l,x.pattern.args.length≤1048576)→(l.flatMap Y5).length≤1048578 * l.length:=by
       intro l
       induction l with
       | nil=>simp
       | cons x l ih=>
        intro hl
        have h1:=ih fun y my=>hl y (by simp [my])
        have h2:=hl x yG
        have h3:=ZhX x
        simp only[AN,AP,AC]
        omega
      exact this r.cond h.ca
     simp only[if_true,A6]
     rw [ZlQ _ h.ca h4,A3,Qi _ yE,A3]
     congr 1
     rw [AB]
     simp only[decide_eq_true_eq]
     omega
   ·intro j a ma
    rw [Zoz,A3]
    cases XP a with
    | false=>simp
    | true=>
     simp only[if_true,A6]
     rw [Zel _ (by have:=h.ta a ma;omega),A3,Z0 (p:=YM (YY r r.cond.length)) (r:=.inr false)]
     ·cases (Xk a.pattern.args).all (YM (YY r r.cond.length))<;>rfl
     ·intro k v _
      rw [Zay,A3]
      cases YM (YY r r.cond.length) v<;>simp
 ·intro j x hj
  rw [AR,Zhy,A3,Zn0 r j x h h4 hj]
  simp only[A3]
  cases Y1 x with
  | false=>simp
  | true=>
   by_cases h0:j=0
   ·subst h0
    by_cases hk:x.kind=1
    ·simp only[hk];cases ZfG r 0 x<;>simp
    ·simp [hk]
   ·have:((j:Int)==0)=false:=by rw [beq_eq_false_iff_ne];omega
    simp only[this]
    cases ZfG r j x<;>simp [h0]
theorem Zf0 {α:Type} (f:α→List ByteArray):∀(l:List α) (a:List ByteArray),Asc a→l.foldl (fun s x=>(f x).foldl QO s) a=(l.flatMap f).foldl QO a
 | [],_,_=>rfl
 | x::l,a,h=>by rw [AG,Zf0 f l _ (Qc (f x) a h).1,AN,AZ]
def Znm (r:Zg):List ByteArray:=ZV (r.cond.flatMap Y5++r.thn.flatMap fun a=>Xk a.pattern.args)
theorem Zn2 (r:Zg) (h:ZaL r) (h4:r.cond.length≤4) (h2:r.thn.length≤2):Zed r=some (Znm r):=by
 unfold Zed Znm
 rw [Y9 (f:=fun s x=>(Y5 x).foldl QO s) (fun j s=>s.length≤1048578 * j∧Asc s) ⟨yG,AE⟩]
 ·have hA:=Zf0 Y5 r.cond [] AE
  have hB:Asc (r.cond.foldl (fun s x=>(Y5 x).foldl QO s) []):=by rw [hA];exact (Qc _ [] AE).1
  have hl:(r.cond.foldl (fun s x=>(Y5 x).foldl QO s) []).length≤1048578 * 4:=by
   rw [hA]
   have:=(Qc (r.cond.flatMap Y5) [] AE).2.2
   have h3:(r.cond.flatMap Y5).length≤1048578 * r.cond.length:=by
    have:∀l:List Zl,(∀x∈l,x.pattern.args.length≤1048576)→(l.flatMap Y5).length≤1048578 * l.length:=by
     intro l
     induction l with
     | nil=>simp
     | cons x l ih=>
      intro hl
      have h1:=ih fun y my=>hl y (by simp [my])
      have h2:=hl x yG
      have h3:=ZhX x
      simp only[AN,AP,AC]
      omega
    exact this r.cond h.ca
   simp only[AS,Nat.add_zero] at this
   omega
  rw [Y9 (f:=fun s a=>(ZV (Xk a.pattern.args)).foldl QO s) (fun j s=>s.length≤1048578 * 4+1048576 * j∧Asc s) ⟨yE,hB⟩]
  ·congr 1
   rw [Zf0 (fun a:Zu=>ZV (Xk a.pattern.args)) r.thn _ hB,hA]
   refine Zgd (Qc _ _ (Qc _ [] AE).1).1 fun y=>?_
   rw [(Qc _ _ (Qc _ [] AE).1).2.1 y,(Qc _ [] AE).2.1 y]
   simp only[AL,AT,ZX,Am,or_false]
   exact Or.comm
  ·intro j a s ma _ hj hI
   have h5:=h.ta a ma
   have h6:=ZdE a.pattern.args
   have h7:=Ze0 (Xk a.pattern.args)
   obtain ⟨f1,f2,f3⟩:=Qc (ZV (Xk a.pattern.args)) s hI.2
   rw [ZcT _ yE,A3,Zm0 (fun _ _ _=>rfl) yE]
   exact ⟨rfl,yE,f1⟩
 ·intro j x s mx _ hj hI
  have h5:=h.ca x mx
  have h6:=ZhX x
  obtain ⟨f1,f2,f3⟩:=Qc (Y5 x) s hI.2
  rw [Zcz _ yE,A3,Zm0 (fun _ _ _=>rfl) yE]
  exact ⟨rfl,yE,f1⟩
theorem Zsk {l:List Zl} {y:ByteArray} (h:y∈Y2 l):y∈l.flatMap Y5:=by
 simp only[Y2,AT] at h ⊢
 obtain ⟨x,hx,hy⟩:=h
 refine ⟨x,hx,?_⟩
 split at hy
 ·rw [Y5,ZX,Zcf]
  rw [Zcf] at hy
  exact ⟨by simp [ZgL,hy.1],hy.2⟩
 ·simp at hy
theorem ZeJ (r:Zg) (h:ZaL r):ZcZ r=some (YP r):=by
 unfold ZcZ YP
 rw [Zhp,A3]
 cases XG r.name with
 | false=>simp
 | true=>
 simp only[if_true,Zh0,A3,A6,A9,decide_eq_true_eq]
 split
 rotate_left
 ·rename_i hh
  have:(decide (0≤r.priority)&&decide (r.priority≤9))=false:=by simp;omega
  rw [this];simp
 rename_i hp
 rw [decide_eq_true hp.1,decide_eq_true hp.2]
 split
 rotate_left
 ·rename_i hh
  have:(decide (1≤r.cond.length)&&decide (r.cond.length≤4))=false:=by simp;omega
  simp only[A6,this,Aa]
 rename_i hc
 rw [decide_eq_true (show 1≤r.cond.length by omega),decide_eq_true (show r.cond.length≤4 by omega)]
 split
 rotate_left
 ·rename_i hh
  have:(decide (1≤r.thn.length)&&decide (r.thn.length≤2))=false:=by simp;omega
  simp only[A6,this,Aa]
 rename_i ht
 rw [decide_eq_true (show 1≤r.thn.length by omega),decide_eq_true (show r.thn.length≤2 by omega)]
 simp only[A6]
 have h4:r.cond.length≤4:=by omega
 rw [Zek r _ h h4,A3,AF]
 rw [Xu (p:=fun i x=>Y1 x&&(decide (i≠0)||decide (x.kind=1))&&ZfG r i x) (r:=false)]
 ·cases Q5 (fun i x=>Y1 x&&(decide (i≠0)||decide (x.kind=1))&&ZfG r i x) r.cond 0 with
  | false=>simp
  | true=>
   simp only[if_true,A6]
   rw [Z0 (p:=fun a=>XP a&&(Xk a.pattern.args).all (YM (YY r r.cond.length))) (r:=false)]
   ·cases ha:r.thn.all fun a=>XP a&&(Xk a.pattern.args).all (YM (YY r r.cond.length)) with
    | false=>simp
    | true=>
     simp only[if_true,A6]
     rw [Zn2 r h h4 yE,A3]
     have e:Znm r=ZV (r.cond.flatMap Y5):=Zow fun y=>by
      simp only[AL]
      refine ⟨fun hy=>?_,.inl⟩
      rcases hy with hy | hy
      ·exact hy
      ·obtain ⟨a,ma,hy⟩:=AT.1 hy
       have:=AK.1 ha a ma
       simp only[A9] at this
       have:=AK.1 this.2 y hy
       rw [Qo,YY,ZX,List.take_length] at this
       exact Zsk this
     rw [e]
     congr 1
     rw [AB]
     simp only[decide_eq_true_eq]
     omega
   ·intro j a ma
    rw [Zon,A3]
    cases XP a with
    | false=>simp
    | true=>
     simp only[if_true,A6]
     rw [ZcT _ (by have:=h.ta a ma;omega),A3,Z0 (p:=YM (YY r r.cond.length)) (r:=.inr false)]
     ·have:(ZV (Xk a.pattern.args)).all (YM (YY r r.cond.length))=(Xk a.pattern.args).all (YM (YY r r.cond.length)):=by
       rw [AB,AK,AK]
       simp only[ZX]
      rw [this]
      cases (Xk a.pattern.args).all (YM (YY r r.cond.length))<;>rfl
     ·intro k v _
      rw [Xc,A3]
      cases YM (YY r r.cond.length) v<;>simp
 ·intro j x hj
  have hxa:=h.ca x (AM hj)
  rw [AR,ZeH,A3,Zek r _ h h4,Zcz x yE,AF]
  simp only[A3]
  cases hic:Y1 x with
  | false=>simp
  | true=>
   have c:∀{fin:Unit→Option (Unit ⊕ Bool)} (d:fin ()=some (.inl ())),Zp (σ:=Unit) (ρ:=Unit ⊕ Bool) (fun (_:Nat) (v:ByteArray) _=>(ZW (YY r j) v).bind fun b=>(ZbV x).bind fun t=>if t=true then (if b=true then (if (x.kind==2)=true then some (.inl ()) else some (.inl ())) else some (.inr (.inr false))) else (if (x.kind==2)=true then (if b=true then some (.inl ()) else (X5 r ((j:Nat):Int) v).bind fun e=>if e=true then some (.inr (.inr false)) else some (.inl ())) else some (.inl ()))) fin (Y5 x) 0 ()=some (bif ZfG r j x then .inl () else .inr false):=fun {fin} d=>by
    rw [Z0 (p:=Zmu r j x) (r:=.inr false)]
    ·unfold ZfG
     cases (Y5 x).all (Zmu r j x)<;>simp [d]
    ·intro k v mv
     rw [Xc,Zs4,ZkP r _ v h (Zvk mv),hic]
     simp only[A3,A6,decide_eq_true_eq,beq_iff_eq,Zmu]
     rcases Zqk hic with hk | hk | hk | hk | hk<;>rw [hk]<;>cases YM (YY r j) v<;>cases Znv r j v<;>simp
   by_cases h0:j=0
   ·subst h0
    by_cases hk:x.kind=1
    ·have f:(x.kind != 1)=false:=by simp [hk]
     simp only[if_true,f,show (((0:Nat):Int)==0)=true from rfl,AA,if_false]
     rw [c rfl]
     simp [hk]
    ·have f:(x.kind != 1)=true:=by simpa using hk
     simp [f,hk]
   ·have:((j:Int)==0)=false:=by rw [beq_eq_false_iff_ne];omega
    simp only[if_true,this,AA,if_false]
    rw [c rfl]
    simp [h0]
section
theorem ZiS {rules_0:(List Zg)} {base_1:(List Zc)} {r:((List Zc) × Zt × Bool)} (h:QX rules_0 base_1=some r):Zm prog J0 102 [(false,[.sl 76 4 (A0 ZL rules_0)]),(false,[.sl 53 2 (A0 Zs base_1)])] [(false,[(false,.sl 53 2 (A0 Zs r.1))]),(true,[(false,.int .i64 r.2.1.nodes),(false,.sl 179 3 (A0 ZG r.2.1.reasons))]),(false,[(false,.bool r.2.2)])]:=by
 refine fnk func102 rfl ?_
 unfold QX at h
 simp only[fnS,f102,Zo,go_sem,seval]
 obtain ⟨_,a,h⟩:=Za h
 refine Zd (Zmr a) ?_
 try simp only[*,go_sem,seval]
 refine yB h (fun _ h=>?_) fun _ h=>?_
 iterate 2 (cases h;try simp only[*,go_sem,seval])
end
section
theorem Zqj {rules_0:(List Zg)} {base_1:(List Zc)} {r:((List Zc) × Bool)} (h:ZfH rules_0 base_1=some r):Zm prog J0 42 [(false,[.sl 76 4 (A0 ZL rules_0)]),(false,[.sl 53 2 (A0 Zs base_1)])] [(false,[(false,.sl 53 2 (A0 Zs r.1))]),(false,[(false,.bool r.2)])]:=by
 refine fnk func42 rfl ?_
 unfold ZfH at h
 simp only[fnS,f42,Zo,go_sem,seval]
 obtain ⟨_,a,h⟩:=Za h
 refine Zd (ZiS a) ?_
 try simp only[*,go_sem,seval]
 refine yB h (fun _ h=>?_) fun _ h=>?_
 obtain ⟨_,b,h⟩:=Za h
 refine Zd (Zul b) ?_
 iterate 2 (cases h;try simp only[*,go_sem,seval])
end
section
theorem Zok {append_0:(List Zg)} {String_1:(List Zc)} {a_2:(List Zl)} {r:((List (List Zi)) × Bool)} (h:Zcg append_0 String_1 a_2=some r):Zm prog J0 12 [(false,[.sl 76 4 (A0 ZL append_0)]),(false,[.sl 53 2 (A0 Zs String_1)]),(false,[.sl 80 5 (A0 ZJ a_2)])] [(false,[(false,.sl 109 1 (A0 ZeO r.1))]),(false,[(false,.bool r.2)])]:=by
 refine fnk func12 rfl ?_
 unfold Zcg at h
 simp only[fnS,f12,Zo,go_sem,seval]
 obtain ⟨_,m,h⟩:=Za h
 refine Zd (Zqj m) ?_
 try simp only[*,go_sem,seval]
 refine yB h (fun _ h=>?_) fun _ h=>?_
 obtain ⟨_,o,h⟩:=Za h
 refine Zd (ZlN o) ?_
 try simp only[*,go_sem,seval]
 refine yB h (fun _ h=>?_) fun _ h=>?_
 obtain ⟨_,q,h⟩:=Za h
 refine Zd (ZjM q) ?_
 try simp only[*,go_sem,seval]
 obtain ⟨b,t,h⟩:=Za h
 refine Zd (ZoO t) ?_
 try simp only[*,go_sem,seval]
 refine Zh h (fun i a st=>IV [(8,.p false [.row 0]),(11,.p false [.row 1]),(12,yL i)] [.row 109 1 (A0 ZeO a) 2,.row 111 2 (A0 YU b) 2] st) [] [32,384] yF yD ?_ ?_
 rintro u _ a ⟨_,_,_⟩ _ d g v h _
 simp only[go_sem,seval,Zb] at g
 obtain ⟨⟨_,_,_⟩,_,w,hn⟩:=g
 subst hn
 have x:=WF.rowL v w
 have:=ZC d
 have:=ZE d
 have:=Zk (ZD d) x
 try simp only[*,go_sem,seval]
 refine Zh h (fun i e st=>IV [(8,.p false [.row 0]),(11,.p false [.row 1]),(12,yL u),(13,yM (.bool e)),(14,yL i)] [.row 109 1 (A0 ZeO a) 2,.row 111 2 (A0 YU b) 2] st) [] [0,1] yF yD ?_ ?_
 rintro _ _ e ⟨_,_,_⟩ _ f j y h _
 simp only[go_sem,seval,Zb] at j
 obtain ⟨⟨_,_,_,_,_⟩,z,_,hn⟩:=j
 subst hn
 have A:=WF.rowL y z
 have:=ZC f
 have:=ZE f
 have:=Zk (ZD f) A
 try simp only[*,go_sem,seval]
 refine yB h (fun _ h=>?_) fun _ h=>?_
 refine ⟨_,[],[0,1],(A4 h).symm,yF,?_⟩
 try simp only[*,go_sem,seval]
 obtain ⟨_,B,h⟩:=Za h
 refine Zd (ZiR B) ?_
 try simp only[*,go_sem,seval]
 refine ⟨_,[],[0,1],(A4 h).symm,yF,?_⟩
 try simp only[*,go_sem,seval]
 rintro e ⟨_,_,_⟩ k _ h
 simp only[go_sem,seval,Zb] at k
 obtain ⟨⟨_,_,_,_,_⟩,_,_,hn⟩:=k
 subst hn
 have:=ZB (a.length)
 try simp only[*,go_sem,seval]
 refine yB h (fun _ h=>?_) fun _ h=>?_
 refine ⟨_,[],[0,1],(A4 h).symm,yF,?_⟩
 try simp only[*,go_sem,seval]
 obtain ⟨_,C,h⟩:=Za h
 refine Zd (ZeN C) ?_
 obtain ⟨D,h⟩:=Zv h
 try simp only[Nat.reduceLeDiff] at D
 try simp only[*,go_sem,seval]
 refine ⟨_,[],[226,1],(A4 h).symm,yF,?_⟩
 try simp only[*,go_sem,seval]
 rintro a ⟨_,_,_⟩ l _ h
 simp only[go_sem,seval,Zb] at l
 obtain ⟨⟨_,_,_⟩,_,_,hn⟩:=l
 subst hn
 have:=ZB (b.length)
 iterate 3 (cases h;try simp only[*,go_sem,seval])
end
structure Zpu {α:Type} (c:α→α→Int):Prop where
 eq:∀a b,c a b=0↔a=b
 anti:∀a b,c b a=- c a b
 tr:∀a b d,c a b<0→c b d<0→c a d<0
def Zjd (a b:ByteArray):Int:=Lib.compareBytes (toL a) (toL b)
theorem ZiH:∀(x y:List UInt8),Lib.compareBytes x y=if Op.bytesLess x y=true then -1 else if x=y then 0 else 1
 | [],[]=>by simp [Lib.compareBytes,Op.bytesLess]
 | [],_::_=>by simp [Lib.compareBytes,Op.bytesLess]
 | _::_,[]=>by simp [Lib.compareBytes,Op.bytesLess]
 | a::x,b::y=>by
  have ih:=ZiH x y
  unfold Lib.compareBytes Op.bytesLess
  by_cases h1:a<b
  ·simp [h1]
  ·rw [if_neg h1]
   by_cases h2:b<a
   ·have h3:¬a=b:=fun e=>by rw [e] at h2;exact absurd h2 (UInt8.lt_irrefl _)
    rw [if_pos h2]
    simp [h1,h3]
   ·have h3:a=b:=by
     apply UInt8.toNat_inj.1
     rw [UInt8.lt_iff_toNat_lt] at h1 h2
     omega
    subst h3
    rw [if_neg h2,ih]
    simp [h1]
theorem ZhQ (a b:ByteArray):Zjd a b=if sLt a b=true then -1 else if a=b then 0 else 1:=by
 unfold Zjd
 rw [ZiH]
 have h1:Op.bytesLess (toL a) (toL b)=sLt a b:=by unfold sLt toL;rw [AO,AO]
 rw [h1]
 by_cases h:a=b
 ·subst h;simp
 ·rw [if_neg h,if_neg (fun e=>h (Zf2 e))]
theorem ZbN:Zpu Zjd where
 eq:=fun a b=>by
  rw [ZhQ]
  by_cases h:sLt a b=true
  ·simp [h,Zqp h]
  ·rw [if_neg h]
   by_cases h2:a=b<;>simp [h2]
 anti:=fun a b=>by
  rw [ZhQ,ZhQ]
  by_cases h:sLt a b=true
  ·have h2:=ZkU h
   have h3:=Zqp h
   rw [if_pos h,if_neg (by simp [h2]),if_neg (fun e=>h3 e.symm)];rfl
  ·rw [if_neg h]
   by_cases h2:a=b
   ·subst h2;rw [if_neg h];simp
   ·rw [if_pos (ZfB (by simpa using h) h2),if_neg h2]
 tr:=fun a b d h1 h2=>by
  have key:∀x y,Zjd x y<0→sLt x y=true:=fun x y h=>by
   rw [ZhQ] at h
   by_cases hx:sLt x y=true
   ·exact hx
   ·rw [if_neg hx] at h;split at h<;>omega
  rw [ZhQ,if_pos (ZfL (key _ _ h1) (key _ _ h2))]
  omega
theorem ZmS (a b:ByteArray):Zh8 a b=some (Zjd a b):=by
 unfold Zh8
 rw [ZhQ]
 by_cases h:sLt a b=true
 ·rw [if_pos h,if_pos h]
 ·rw [if_neg h,if_neg h]
  by_cases h2:a=b
  ·subst h2;rw [if_pos (by rw [ZxA];simp),if_pos rfl]
  ·rw [if_neg (by simp only[AQ,ZQ];rintro (h3 | h3);exact h h3;exact h2 h3),if_neg h2]
theorem Zjq (a b:ByteArray):ZfS a b=some (Zjd a b):=rfl
/- numbers -/
theorem Zn3 {u:Nat} {b:UInt8} (h:b∈Lib.decDigits u):48≤b.toNat∧b.toNat≤57:=by
 rw [Lib.decDigits_eq,Ai] at h
 obtain ⟨t,_,rfl⟩:=h
 unfold Lib.dg
 have:u / 10 ^ (Lib.nDigits u - 1 - t) % 10<10:=Nat.mod_lt _ yE
 rw [UInt8.toNat_ofNat']
 omega
def Q3 (s:ByteArray):Option Nat:=
 if 1≤s.size∧s.size≤4 then (match Lib.decNat (toL s) with | some n=>if ofL (Lib.decDigits n)=s then some n else none | none=>none) else none
def ZeB (s:ByteArray):Int × Bool:=match Q3 s with | some n=>((n:Int),true) | none=>(0,false)
theorem ZkA {s:ByteArray} {n:Nat} (h:Q3 s=some n):s=ofL (Lib.decDigits n)∧n≤9999:=by
 unfold Q3 at h
 split at h
 ·rename_i hs
  split at h
  ·split at h
   ·rename_i m _ he
    obtain rfl:=A4 h
    refine ⟨he.symm,?_⟩
    have hl:Lib.nDigits m≤4:=by
     have:=congrArg Ah he
     rw [Zj6,Lib.decDigits_length] at this
     omega
    have:=Lib.lt_pow_nDigits m
    have h2:10 ^ Lib.nDigits m≤10 ^ 4:=Ac yE hl
    omega
   ·simp at h
  ·simp at h
 ·simp at h
theorem Zwy {a b:ByteArray} {n:Nat} (h1:Q3 a=some n) (h2:Q3 b=some n):a=b:=(ZkA h1).1.trans (ZkA h2).1.symm
theorem Zsn {body:Nat→UInt8→Int→Option (Int ⊕ (Int × Bool))} {fin:Int→Option (Int × Bool)}
  (hb:∀i (x:UInt8) n,body i x n=if (decide (((x.toNat:Nat):Int)<48))=true then some (.inr (0,false)) else if (decide (57<((x.toNat:Nat):Int)))=true then some (.inr (0,false)) else some (.inl (IntKind.i64.wrap ((IntKind.i64.wrap (10 * n))+IntKind.i64.wrap (IntKind.u8.wrap (((x.toNat:Nat):Int) - 48)))))):
  ∀(l:List UInt8) (i a:Nat),(a+1) * 10 ^ l.length≤100000→Zp body fin l i (a:Int)=match Lib.decFrom a l with | some n=>fin (n:Int) | none=>some (0,false)
 | [],i,a,_=>rfl
 | x::l,i,a,h=>by
  unfold Lib.decFrom Lib.digitVal
  by_cases h1:48≤x.toNat∧x.toNat≤57
  ·have e:body i x (a:Int)=some (.inl ((a * 10+(x.toNat - 48):Nat):Int)):=by
    have hp:1≤10 ^ (x::l).length:=Nat.one_le_pow _ _ yE
    have h2:a+1≤100000:=AI (Nat.le_mul_of_pos_right _ hp) h
    rw [hb,if_neg (by simp;omega),if_neg (by simp;omega),ZeV (n:=10 * (a:Int)) yE yE,IntKind.wrap_u8,ZeV (n:=(((x.toNat:Nat):Int) - 48) % 256) yE yE,ZeV yE yE]
    congr 2
    omega
   rw [Z4 e,if_pos h1]
   refine Zsn hb l (i+1) _ ?_
   rw [AC,Nat.pow_succ] at h
   refine AI ?_ h
   rw [show (a+1) * (10 ^ l.length * 10)=((a+1) * 10) * 10 ^ l.length by rw [As,Nat.mul_comm 10]]
   exact Nat.mul_le_mul_right _ yE
  ·have e:body i x (a:Int)=some (.inr (0,false)):=by
    rw [hb]
    by_cases h2:x.toNat<48
    ·rw [if_pos (by simp;omega)]
    ·rw [if_neg (by simp;omega),if_pos (by simp;omega)]
   rw [YF e,if_neg h1]
theorem Ztb (n a b:Int):Qr n a b=some (decide (a≤n)&&decide (n≤b)):=by
 unfold Qr
 by_cases h:a≤n<;>simp [h]
theorem ZcH (s:ByteArray):Zag s=some (ZeB s):=by
 unfold Zag ZeB Q3
 rw [Ztb,A3]
 by_cases hs:1≤s.size∧s.size≤4
 ·rw [if_pos (by simp;omega),if_pos hs]
  have hl:s.data.toList.length=s.size:=Zds s
  refine (Zsn (fun _ _ _=>rfl) s.data.toList 0 0 (by
   rw [hl,AR,Nat.one_mul]
   exact AI (Ac yE hs.2) yE)).trans ?_
  have hd:Lib.decNat (toL s)=Lib.decFrom 0 s.data.toList:=by
   unfold Lib.decNat
   rw [if_neg]
   ·rfl
   ·intro e
    have:=Zds s
    rw [List.isEmpty_iff.1 e] at this
    simp at this;omega
  rw [hd]
  cases hv:Lib.decFrom 0 s.data.toList with
  | none=>rfl
  | some n=>
   have hb:n<1000000000000000000:=Lib.decFrom_lt18 hv yE
   show (Zbl ((n:Nat):Int)).bind _=_
   rw [ZmZ ⟨yE,yE⟩,A3,Lib.itoa_nonneg]
   by_cases he:ofL (Lib.decDigits n)=s
   ·rw [if_pos (ZQ.2 he)]
    simp only[he,if_true]
   ·rw [if_neg (by rw [ZQ];exact he)]
    simp only[he,if_false]
 ·rw [if_neg (by simp;omega),if_neg hs]
theorem ZwT {b:UInt8} {r:List UInt8} (h:b=45∨b=43):Lib.decNat (b::r)=none:=by
 rcases h with rfl | rfl<;>simp [Lib.decNat,Lib.decFrom,Lib.digitVal]
theorem Zpi {s:ByteArray} (h:Lib.decNat (toL s)=none):Q3 s=none:=by
 unfold Q3
 rw [h]
 split<;>rfl
theorem ZcC (s:ByteArray):Zae s=some (ZeB s):=by
 unfold Zae
 by_cases h1:s.size<1
 ·rw [if_pos (by simp;omega)]
  unfold ZeB Q3
  rw [if_neg yE]
 by_cases h2:4<s.size
 ·rw [if_neg (by simp;omega),if_pos (by simp;omega)]
  unfold ZeB Q3
  rw [if_neg yE]
 rw [if_neg (by simp;omega),if_neg (by simp;omega)]
 have hl:=Zds s
 have hx:ZmK s=some (match Lib.atoi (toL s) with | some n=>(n,true) | none=>(0,false)):=by
  unfold ZmK
  exact Zj _ yE
 rw [hx,A3]
 cases hL:toL s with
 | nil=>rw [hL] at hl;simp at hl;omega
 | cons b r=>
  have d:b=45∨b=43→ZeB s=(0,false):=fun h=>by
   unfold ZeB
   rw [Zpi (by rw [hL];exact ZwT h)]
  have f:∀m,(b=45∨b=43)→¬ofL (Lib.decDigits m)=s:=fun m h e=>by
   have hm:b∈Lib.decDigits m:=by
    have:toL s=Lib.decDigits m:=by rw [←e,Zcu]
    rw [←this,hL];simp
   have:=Zn3 hm
   rcases h with rfl | rfl<;>simp at this
  by_cases a:b=45
  ·rw [d (.inl a)]
   cases hd:Lib.decNat r with
   | none=>simp [Lib.atoi,a,hd]
   | some m=>
    have e:Lib.atoi (b::r)=some (-(m:Int)):=by simp [Lib.atoi,a,hd]
    rw [e]
    simp only[if_true]
    by_cases hm:m=0
    ·subst hm
     rw [if_neg yG,if_neg yG]
     show (Zbu ((0:Nat):Int)).bind _=_
     rw [Zd5 ⟨yE,yE⟩,A3,Lib.itoa_nonneg,if_neg (by rw [ZQ];exact f 0 (.inl a))]
    ·rw [if_pos (by simp;omega)]
  ·by_cases c:b=43
   ·rw [d (.inr c)]
    cases hd:Lib.decNat r with
    | none=>simp [Lib.atoi,c,hd]
    | some m=>
     have e:Lib.atoi (b::r)=some (m:Int):=by simp [Lib.atoi,c,hd]
     rw [e]
     simp only[if_true]
     rw [if_neg yG]
     by_cases hm:9999<m
     ·rw [if_pos (by simp;omega)]
     ·rw [if_neg (by simp;omega),Zd5 ⟨yE,yE⟩,A3,Lib.itoa_nonneg,if_neg (by rw [ZQ];exact f m (.inr c))]
   ·have e:Lib.atoi (b::r)=(Lib.decNat (b::r)).map fun (m:Nat)=>(m:Int):=by simp [Lib.atoi,a,c]
    rw [e]
    cases hd:Lib.decNat (b::r) with
    | none=>
     unfold ZeB
     rw [Zpi (by rw [hL];exact hd)]
     rfl
    | some m=>
     simp only[At,if_true]
     rw [if_neg yG]
     have hn:Q3 s=if ofL (Lib.decDigits m)=s then some m else none:=by
      unfold Q3
      rw [if_pos yE,hL,hd]
     by_cases hm:9999<m
     ·rw [if_pos (by simp;omega)]
      have:Q3 s=none:=by
       cases hq:Q3 s with
       | none=>rfl
       | some n=>
        have h3:=(ZkA hq).2
        rw [hn] at hq
        split at hq
        ·obtain rfl:=A4 hq;omega
        ·simp at hq
      unfold ZeB
      rw [this]
     ·rw [if_neg (by simp;omega),Zd5 ⟨yE,yE⟩,A3,Lib.itoa_nonneg]
      unfold ZeB
      rw [hn]
      by_cases he:ofL (Lib.decDigits m)=s
      ·rw [if_pos (ZQ.2 he),if_pos he]
      ·rw [if_neg (by rw [ZQ];exact he),if_neg he]
def ZlE (x y:Nat):Int:=if x<y then -1 else if y<x then 1 else 0
theorem Zp9:Zpu ZlE where
 eq:=fun a b=>by unfold ZlE;split<;>(try split)<;>omega
 anti:=fun a b=>by unfold ZlE;split<;>(try split)<;>(try split)<;>omega
 tr:=fun a b d h1 h2=>by
  unfold ZlE at *
  split at h1
  ·split at h2
   ·rw [if_pos yE];omega
   ·split at h2<;>omega
  ·split at h1<;>omega
def ZgI (a b:ByteArray):Int:=
 match Q3 a,Q3 b with
 | some x,some y=>ZlE x y
 | some _,none=>-1
 | none,some _=>1
 | none,none=>Zjd a b
theorem Zqe:Zpu ZgI where
 eq:=fun a b=>by
  unfold ZgI
  cases ha:Q3 a with
  | none=>
   cases hb:Q3 b with
   | none=>exact ZbN.eq a b
   | some y=>simp only;exact ⟨fun h=>by omega,fun h=>by rw [h,hb] at ha;simp at ha⟩
  | some x=>
   cases hb:Q3 b with
   | none=>simp only;exact ⟨fun h=>by omega,fun h=>by rw [h,hb] at ha;simp at ha⟩
   | some y=>
    simp only
    rw [Zp9.eq]
    exact ⟨fun h=>Zwy ha (h ▸ hb),fun h=>by rw [h,hb] at ha;exact (A4 ha).symm⟩
 anti:=fun a b=>by
  unfold ZgI
  cases Q3 a<;>cases Q3 b<;>simp only
  ·exact ZbN.anti a b
  ·rfl
  ·exact Zp9.anti _ _
 tr:=fun a b d h1 h2=>by
  unfold ZgI at *
  cases ha:Q3 a<;>cases hb:Q3 b<;>cases hd:Q3 d<;>simp only[ha,hb,hd] at h1 h2 ⊢<;>first | omega | exact ZbN.tr a b d h1 h2 | exact Zp9.tr _ _ _ h1 h2
theorem Zco (x y:Nat):X4 (x:Int) (y:Int)=some (ZlE x y):=by
 unfold X4 ZlE
 by_cases h1:x<y
 ·rw [if_pos (by simpa using h1),if_pos h1]
 ·rw [if_neg (by simpa using h1),if_neg h1]
  by_cases h2:y<x
  ·rw [if_pos (by simpa using h2),if_pos h2]
  ·rw [if_neg (by simpa using h2),if_neg h2]
theorem ZeW (a b:ByteArray):Xz a b=some (ZgI a b):=by
 unfold Xz ZgI
 rw [ZcH,A3,ZcH,A3]
 unfold ZeB
 cases Q3 a with
 | none=>
  cases Q3 b with
  | none=>simp only[AA,if_false];rw [ZmS];rfl
  | some y=>rfl
 | some x=>
  cases Q3 b with
  | none=>rfl
  | some y=>
   simp only[if_true]
   unfold ZlE
   by_cases h1:x<y
   ·rw [if_pos (by simpa using h1),if_pos h1]
   ·rw [if_neg (by simpa using h1),if_neg h1]
    by_cases h2:y<x
    ·rw [if_pos (by simpa using h2),if_pos h2]
    ·rw [if_neg (by simpa using h2),if_neg h2]
theorem ZjQ (a b:ByteArray):Q8 a b=some (ZgI a b):=by
 unfold Q8 ZgI
 rw [ZcC,A3,ZcC,A3]
 unfold ZeB
 cases Q3 a with
 | none=>
  cases Q3 b with
  | none=>simp only[AA,if_false];rw [Zjq];rfl
  | some y=>rfl
 | some x=>
  cases Q3 b with
  | none=>rfl
  | some y=>simp only[if_true];rw [Zco];rfl
def ZgT {α:Type} (c:α→α→Int):List α→List α→Int
 | [],[]=>0
 | [],_::_=>-1
 | _::_,[]=>1
 | x::l,y::r=>if c x y=0 then ZgT c l r else c x y
theorem ZqZ {α:Type} {c:α→α→Int} (h:Zpu c):Zpu (ZgT c) where
 eq:=fun a=>by
  induction a with
  | nil=>intro b;cases b<;>simp [ZgT]
  | cons x l ih=>
   intro b
   cases b with
   | nil=>simp [ZgT]
   | cons y r=>
    simp only[ZgT]
    by_cases hx:c x y=0
    ·rw [if_pos hx,ih,(h.eq x y).1 hx];simp
    ·rw [if_neg hx]
     exact ⟨fun e=>absurd e hx,fun e=>absurd ((h.eq x y).2 (by simp at e;exact e.1)) hx⟩
 anti:=fun a=>by
  induction a with
  | nil=>intro b;cases b<;>simp [ZgT]
  | cons x l ih=>
   intro b
   cases b with
   | nil=>simp [ZgT]
   | cons y r=>
    simp only[ZgT]
    have hy:=h.anti x y
    by_cases hx:c x y=0
    ·rw [if_pos hx,if_pos yE,ih]
    ·rw [if_neg hx,if_neg yE,hy]
 tr:=fun a=>by
  induction a with
  | nil=>
   intro b d h1 h2
   cases b with
   | nil=>simp [ZgT] at h1
   | cons y r=>cases d with
    | nil=>simp [ZgT] at h2
    | cons z q=>simp [ZgT]
  | cons x l ih=>
   intro b d h1 h2
   cases b with
   | nil=>simp [ZgT] at h1
   | cons y r=>cases d with
    | nil=>simp [ZgT] at h2
    | cons z q=>
     simp only[ZgT] at h1 h2 ⊢
     by_cases hx:c x y=0
     ·rw [if_pos hx] at h1
      obtain rfl:=(h.eq x y).1 hx
      by_cases hz:c x z=0
      ·rw [if_pos hz] at h2 ⊢;exact ih r q h1 h2
      ·rw [if_neg hz] at h2 ⊢;exact h2
     ·rw [if_neg hx] at h1
      by_cases hz:c y z=0
      ·obtain rfl:=(h.eq y z).1 hz
       rw [if_neg hx];exact h1
      ·rw [if_neg hz] at h2
       have:=h.tr x y z h1 h2
       rw [if_neg yE];exact this
def ZeE (a b:Zc):Int:=if Zjd a.rel b.rel=0 then ZgT ZgI a.args b.args else Zjd a.rel b.rel
theorem Zq1 {a b:Zc} (h1:a.rel=b.rel) (h2:a.args=b.args):a=b:=by cases a;cases b;simp_all
theorem ZeR:Zpu ZeE where
 eq:=fun a b=>by
  unfold ZeE
  by_cases h:Zjd a.rel b.rel=0
  ·rw [if_pos h,(ZqZ Zqe).eq]
   exact ⟨fun e=>Zq1 ((ZbN.eq _ _).1 h) e,fun e=>by rw [e]⟩
  ·rw [if_neg h]
   exact ⟨fun e=>absurd e h,fun e=>absurd ((ZbN.eq _ _).2 (by rw [e])) h⟩
 anti:=fun a b=>by
  unfold ZeE
  have hy:=ZbN.anti a.rel b.rel
  by_cases h:Zjd a.rel b.rel=0
  ·rw [if_pos h,if_pos yE,(ZqZ Zqe).anti]
  ·rw [if_neg h,if_neg yE,hy]
 tr:=fun a b d h1 h2=>by
  unfold ZeE at *
  by_cases hx:Zjd a.rel b.rel=0
  ·rw [if_pos hx] at h1
   have e:=(ZbN.eq _ _).1 hx
   rw [e]
   by_cases hz:Zjd b.rel d.rel=0
   ·rw [if_pos hz] at h2 ⊢;exact (ZqZ Zqe).tr _ _ _ h1 h2
   ·rw [if_neg hz] at h2 ⊢;exact h2
  ·rw [if_neg hx] at h1
   by_cases hz:Zjd b.rel d.rel=0
   ·rw [←(ZbN.eq _ _).1 hz,if_neg hx];exact h1
   ·rw [if_neg hz] at h2
    have:=ZbN.tr _ _ _ h1 h2
    rw [if_neg yE];exact this
theorem Za1 {α:Type} (l:List α) (i:Nat):atI l (i:Int)=l[i]?:=by unfold atI;rw [if_pos yE,AF]
theorem ZkG {A B:List ByteArray} {body:Nat→ByteArray→Unit→Option (Unit ⊕ Int)} {fin:Unit→Option Int}
  (b:∀i x y,B[i]?=some y→body i x ()=if ZgI x y=0 then some (.inl ()) else some (.inr (ZgI x y))) (c:∀x,B.length<A.length→body B.length x ()=some (.inr 1)) (a:A.length≤B.length→fin ()=some (if A.length<B.length then -1 else 0)):
  ∀(l:List ByteArray) (i:Nat),i+l.length=A.length→i≤B.length→Zp body fin l i ()=some (ZgT ZgI l (B.drop i))
 | [],i,h,hi=>by
  simp at h
  rw [ZnV,a yE]
  by_cases hb:A.length<B.length
  ·rw [if_pos hb]
   cases hd:B.drop i with
   | nil=>have:=congrArg List.length hd;simp at this;omega
   | cons y r=>rfl
  ·rw [if_neg hb,Ae yE]
   rfl
 | x::l,i,h,hi=>by
  simp only[AC] at h
  by_cases hb:i<B.length
  ·have hy:B[i]?=some B[i]:=AJ hb
   rw [Ag hb]
   simp only[ZgT]
   by_cases hc:ZgI x B[i]=0
   ·rw [Z4 (by rw [b i x _ hy,if_pos hc]),if_pos hc]
    exact ZkG b c a l (i+1) yE yE
   ·rw [YF (by rw [b i x _ hy,if_neg hc]),if_neg hc]
  ·obtain rfl:i=B.length:=by omega
   rw [YF (c x yE),Ae (AU _)]
   rfl
theorem ZeP (a b:Zc):Xw a b=some (ZeE a b):=by
 unfold Xw ZeE
 by_cases h:a.rel=b.rel
 ·rw [if_pos (ZQ.2 h),if_pos ((ZbN.eq _ _).2 h)]
  refine ZkG (A:=a.args) (B:=b.args) (fun i x y hy=>?_) (fun x hx=>?_) (fun hx=>?_) a.args 0 yG (Nat.zero_le _)
  ·have hi:=(AH.1 hy).1
   rw [if_pos (by simpa using hi),Za1,hy,A3,ZeW,A3]
   by_cases hc:ZgI x y=0
   ·rw [hc];rfl
   ·rw [if_pos (by simpa using hc),if_neg hc]
  ·rw [if_neg yG,if_neg (by simp;omega),if_pos (by simpa using hx)]
  ·by_cases h2:a.args.length<b.args.length
   ·rw [if_pos (by simpa using h2),if_pos h2]
   ·rw [if_neg (by simpa using h2),if_neg (by simp;omega),if_neg h2]
 ·rw [if_neg (by rw [ZQ];exact h),if_neg (fun e=>h ((ZbN.eq _ _).1 e)),ZmS]
  rfl
theorem ZeU (a b:Zc):Qn a b=some (ZeE a b):=by
 unfold Qn ZeE
 rw [Zjq,A3]
 by_cases h:Zjd a.rel b.rel=0
 ·rw [if_neg (by simpa using h),if_pos h]
  refine ZkG (A:=a.args) (B:=b.args) (fun i x y hy=>?_) (fun x hx=>?_) (fun hx=>?_) a.args 0 yG (Nat.zero_le _)
  ·have hi:=(AH.1 hy).1
   rw [if_pos (by simpa using hi),Za1,hy,A3,ZjQ,A3]
   by_cases hc:ZgI x y=0
   ·rw [hc];rfl
   ·rw [if_pos (by simpa using hc),if_neg hc]
  ·rw [if_neg yG,Zco]
   unfold ZlE
   rw [if_neg yE,if_pos hx]
   rfl
  ·rw [Zco]
   unfold ZlE
   by_cases h2:a.args.length<b.args.length
   ·rw [if_pos h2,if_pos h2];rfl
   ·rw [if_neg h2,if_neg yE,if_neg h2];rfl
 ·rw [if_pos (by simpa using h),if_neg h]
section
theorem Xs (f:Zc) (h:f.args.length≤1048576):XE f=some f:=by
 unfold XE
 rw [ZqO _ yE]
 rfl
theorem YN (f:Zc) (h:f.args.length≤1048576):YE f=some f:=by
 unfold YE
 rw [Zg2 _ yE]
 rfl
theorem ZmY {B:List ByteArray} {body:Nat→ByteArray→Unit→Option (Unit ⊕ Bool)} (hb:∀i x y,B[i]?=some y→body i x ()=if x=y then some (.inl ()) else some (.inr false)):
  ∀(l:List ByteArray) (i:Nat),i+l.length=B.length→Zp body (fun _=>some true) l i ()=some (decide (l=B.drop i))
 | [],i,h=>by
  simp at h
  rw [ZnV,Ae yE]
  simp
 | x::l,i,h=>by
  simp only[AC] at h
  have hi:i<B.length:=by omega
  have hd:(x::l=B.drop i)↔(x=B[i]∧l=B.drop (i+1)):=by rw [Ag hi,List.cons.injEq]
  rw [AB.2 (show decide (x::l=B.drop i)=true↔decide (x=B[i]∧l=B.drop (i+1))=true by rw [decide_eq_true_iff,decide_eq_true_iff];exact hd)]
  by_cases hx:x=B[i]
  ·rw [Z4 (by rw [hb i x _ (AJ hi),if_pos hx]),ZmY hb l (i+1) yE]
   simp [hx]
  ·rw [YF (by rw [hb i x _ (AJ hi),if_neg hx])]
   simp [hx]
theorem ZmH (a b:List ByteArray):ZcN a b=some (decide (a=b)):=by
 unfold ZcN
 by_cases h:a.length=b.length
 ·rw [if_neg (by simp;omega)]
  have:=ZmY (B:=b) (body:=fun i6 x7 _=>(atI b ((i6:Nat):Int)).bind fun x8=>if (sEq x7 x8)=true then some (.inl ()) else some (.inr false)) (fun i x y hy=>by
   show (atI b ((i:Nat):Int)).bind _=_
   rw [Za1,hy,A3]
   by_cases hx:x=y
   ·rw [if_pos (ZQ.2 hx),if_pos hx]
   ·rw [if_neg (by rw [ZQ];exact hx),if_neg hx]) a 0 yE
  simpa using this
 ·rw [if_pos (by simp;omega),decide_eq_false (fun e=>h (by rw [e]))]
open Classical
theorem Zcv (a b:Zc):Zca a b=some (decide (a=b)):=by
 unfold Zca
 by_cases h:a.rel=b.rel
 ·rw [if_pos (ZQ.2 h),ZmH,A3]
  congr 1
  rw [AB,decide_eq_true_iff,decide_eq_true_iff]
  exact ⟨fun e=>Zq1 h e,fun e=>by rw [e]⟩
 ·rw [if_neg (by rw [ZQ];exact h),decide_eq_false (fun e=>h (by rw [e]))]
theorem ZoH (l:List Zc) (f:Zc):∃z,Yl l f=some z∧(z<0↔f∉l):=by
 unfold Yl
 have key:∀(l:List Zc) (i:Nat),∃z,Zp (σ:=Unit) (fun (i6:Nat) (x7:Zc) _=>(Zca x7 f).bind fun v8=>if v8=true then some (.inr ((i6:Nat):Int)) else some (.inl ())) (fun _=>some (-1)) l i ()=some z∧(z<0↔f∉l):=by
  intro l
  induction l with
  | nil=>intro i;exact ⟨-1,rfl,yG⟩
  | cons x l ih=>
   intro i
   by_cases hx:x=f
   ·refine ⟨(i:Int),YF (by rw [Zcv,A3,if_pos (decide_eq_true hx)]),by simp [hx]⟩
   ·obtain ⟨z,e,hz⟩:=ih (i+1)
    refine ⟨z,(Z4 (by rw [Zcv,A3,if_neg (by simpa using hx)])).trans e,?_⟩
    rw [hz,A5]
    exact ⟨fun h=>by rintro (h1 | h1);exact hx h1.symm;exact h h1,fun h h1=>h (.inr h1)⟩
 exact key l 0
def ZeF:List Zc→Zc→List Zc
 | [],f=>[f]
 | x::l,f=>if ZeE x f<0 then x::ZeF l f else if ZeE x f=0 then x::l else f::x::l
def Zg7 (l:List Zc):Prop:=l.Pairwise fun x y=>ZeE x y<0
theorem ZaT {y f:Zc}:∀{l:List Zc},y∈ZeF l f↔y=f∨y∈l
 | []=>by simp [ZeF]
 | x::l=>by
  simp only[ZeF]
  split
  ·rw [A5,ZaT,A5]
   exact ⟨fun h=>by rcases h with h | h | h<;>simp [h],fun h=>by rcases h with h | h | h<;>simp [h]⟩
  ·split
   ·rename_i h
    have e:=(ZeR.eq _ _).1 h
    rw [A5,e]
    exact ⟨fun h=>by rcases h with h | h<;>simp [h],fun h=>by rcases h with h | h | h<;>simp [h]⟩
   ·rw [A5]
theorem Zsd (f:Zc):∀l:List Zc,(ZeF l f).length≤l.length+1
 | []=>by simp [ZeF]
 | x::l=>by
  have:=Zsd f l
  simp only[ZeF]
  split
  ·simp;omega
  ·split<;>simp
theorem Zq9 {f:Zc}:∀{l:List Zc},Zg7 l→Zg7 (ZeF l f)
 | [],_=>by simp [ZeF,Zg7]
 | x::l,h=>by
  unfold Zg7 at *
  rw [AD] at h
  simp only[ZeF]
  split
  ·rename_i hx
   rw [AD]
   refine ⟨fun y my=>?_,Zq9 h.2⟩
   rcases ZaT.1 my with rfl | my
   ·exact hx
   ·exact h.1 y my
  ·rename_i hx
   split
   ·rw [AD];exact h
   ·rename_i h0
    have a:ZeE f x<0:=by rw [ZeR.anti x f];omega
    rw [AD,AD]
    refine ⟨fun y my=>?_,h⟩
    rcases A5.1 my with rfl | my
    ·exact a
    ·exact ZeR.tr _ _ _ a (h.1 y my)
theorem Zt4 (l:List Zc) (f:Zc) (hl:l.length≤1048576) (ha:∀x∈l,x.args.length≤1048576) (hf:f.args.length≤1048576):ZcF l f=some (ZeF l f):=by
 unfold ZcF
 rw [ZaV (fun l _ s=>some (s.1++(if s.2=true then l else ZeF l f))) (fun l _ s=>s.1.length+2 * l.length+1≤4000000∧∀x∈l,x.args.length≤1048576) ?_ ?_ l 0 ([],false) ⟨by simp;omega,ha⟩]
 ·simp
 ·rintro i ⟨row,a⟩ ⟨h1,_⟩
  cases a with
  | true=>simp
  | false=>
   simp only[AA,if_false]
   simp only[AS] at h1
   rw [Xs f hf,A3,Zj _ yE]
   rfl
 ·rintro x l i ⟨row,a⟩ ⟨h1,h2⟩
  simp only[AC] at h1
  have hx:=h2 x yG
  left
  cases a with
  | true=>
   simp only[if_true]
   rw [Xs x hx,A3,Zj _ yE]
   exact ⟨_,rfl,⟨by simp;omega,fun y my=>h2 y (by simp [my])⟩,yG⟩
  | false=>
   simp only[AA,if_false]
   rw [ZeP,A3]
   by_cases b:ZeE x f<0
   ·rw [if_neg (by simp;omega),Xs x hx,A3,Zj _ yE]
    exact ⟨_,rfl,⟨by simp;omega,fun y my=>h2 y (by simp [my])⟩,by simp [ZeF,b]⟩
   ·rw [if_pos (by simp;omega),A3]
    by_cases h0:ZeE x f=0
    ·rw [if_neg (by simp;omega),Xs x hx,A3,Zj _ yE]
     exact ⟨_,rfl,⟨by simp;omega,fun y my=>h2 y (by simp [my])⟩,by simp [ZeF,h0]⟩
    ·rw [if_pos (by simp;omega),Xs f hf,A3,Zj _ yE,Xs x hx,A3,Zj _ yE]
     exact ⟨_,rfl,⟨by simp;omega,fun y my=>h2 y (by simp [my])⟩,by simp [ZeF,h0,b]⟩
theorem ZqG (l:List Zc) (f:Zc) (hn:f∉l) (hl:l.length≤1048576) (ha:∀x∈l,x.args.length≤1048576) (hf:f.args.length≤1048576):Qv l f=some (ZeF l f):=by
 unfold Qv
 rw [ZaV (fun l _ s=>some (s.1++(if s.2=true then l else ZeF l f))) (fun l _ s=>s.1.length+2 * l.length+1≤4000000∧f∉l∧∀x∈l,x.args.length≤1048576) ?_ ?_ l 0 ([],false) ⟨by simp;omega,hn,ha⟩]
 ·simp
 ·rintro i ⟨row,a⟩ ⟨h1,_⟩
  cases a with
  | true=>simp
  | false=>
   simp only[AA,if_false]
   simp only[AS] at h1
   rw [YN f hf,A3,Zj _ yE]
   rfl
 ·rintro x l i ⟨row,a⟩ ⟨h1,h3,h2⟩
  simp only[AC] at h1
  have hx:=h2 x yG
  have b:f∉l:=fun m=>h3 (by simp [m])
  left
  cases a with
  | true=>
   simp only[if_true]
   rw [YN x hx,A3,Zj _ yE]
   exact ⟨_,rfl,⟨by simp;omega,b,fun y my=>h2 y (by simp [my])⟩,yG⟩
  | false=>
   simp only[AA,if_false]
   rw [ZeU,A3]
   have h0:¬ZeE x f=0:=fun e=>h3 (by rw [(ZeR.eq _ _).1 e];simp)
   by_cases c:ZeE x f<0
   ·rw [if_neg (by simp;omega),YN x hx,A3,Zj _ yE]
    exact ⟨_,rfl,⟨by simp;omega,b,fun y my=>h2 y (by simp [my])⟩,by simp [ZeF,c]⟩
   ·rw [if_pos (by simp;omega),YN f hf,A3,Zj _ yE,YN x hx,A3,Zj _ yE]
    exact ⟨_,rfl,⟨by simp;omega,b,fun y my=>h2 y (by simp [my])⟩,by simp [ZeF,h0,c]⟩
end
theorem Zkg {v:ByteArray} (h:Yr v=true):ZT v=false:=by
 cases ha:ZT v with
 | false=>rfl
 | true=>
  have h1:=ZjK ha
  rw [Zax] at h1
  unfold Yr at h
  simp only[A9,decide_eq_true_iff] at h
  omega
def Q6:List Zi→ByteArray→Option ByteArray
 | [],_=>none
 | x::b,v=>if x.var=v then some x.value else Q6 b v
def X9 (b:List Zi) (t:ByteArray):Option ByteArray:=if ZT t=true then some t else if Yr t=true then Q6 b t else none
theorem Zi0 {b:List Zi} {v:ByteArray} (h:Yr v=true):X9 b v=Q6 b v:=by
 unfold X9
 rw [if_neg (by rw [Zkg h];simp),if_pos h]
def Zfp (x:Zi):Bool:=Yr x.var&&ZT x.value
def Zjf:Option ByteArray→ByteArray→Bool
 | none,_=>true
 | some p,v=>sLt p v
def Y4:Option ByteArray→List Zi→Bool
 | _,[]=>true
 | prev,x::r=>Zfp x&&Zjf prev x.var&&Y4 (some x.var) r
def ZY (b:List Zi):Bool:=decide (b.length≤6)&&Y4 none b
theorem Zpm {a:Option ByteArray} {b:List Zi} (h:Y4 a b=true):∀x∈b,Zfp x=true∧∀p,a=some p→sLt p x.var=true:=by
 induction b generalizing a with
 | nil=>simp
 | cons y r ih=>
  simp only[Y4,A9] at h
  obtain ⟨⟨h1,h2⟩,h3⟩:=h
  intro x mx
  rcases A5.1 mx with rfl | mx
  ·exact ⟨h1,fun p hp=>by subst hp;exact h2⟩
  ·obtain ⟨k1,k2⟩:=ih h3 x mx
   exact ⟨k1,fun p hp=>by subst hp;exact ZfL h2 (k2 _ rfl)⟩
theorem Zwa {b:List Zi} {v:ByteArray} (h:Q6 b v=none):∀x∈b,¬x.var=v:=by
 induction b with
 | nil=>simp
 | cons y r ih=>
  simp only[Q6] at h
  split at h
  ·simp at h
  ·rename_i hy
   intro x mx
   rcases A5.1 mx with rfl | mx
   ·exact hy
   ·exact ih h x mx
theorem Zvy {b:List Zi} {v w:ByteArray} (h:Q6 b v=some w):∃x∈b,x.var=v∧x.value=w:=by
 induction b with
 | nil=>simp [Q6] at h
 | cons y r ih=>
  simp only[Q6] at h
  split at h
  ·rename_i hy
   exact ⟨y,yG,hy,A4 h⟩
  ·obtain ⟨x,mx,h1⟩:=ih h
   exact ⟨x,by simp [mx],h1⟩
def Zgb:List Zi→ByteArray→ByteArray→List Zi
 | [],v,w=>[⟨v,w⟩]
 | x::b,v,w=>if sLt v x.var=true then ⟨v,w⟩::x::b else x::Zgb b v w
theorem Zrf (v w:ByteArray):∀b:List Zi,(Zgb b v w).length=b.length+1
 | []=>rfl
 | x::b=>by
  simp only[Zgb]
  split
  ·rfl
  ·rw [AC,Zrf v w b];rfl
theorem ZkO {v w u:ByteArray}:∀{b:List Zi},Q6 b v=none→Q6 (Zgb b v w) u=if v=u then some w else Q6 b u
 | [],_=>by simp [Zgb,Q6]
 | x::b,h=>by
  simp only[Q6] at h
  split at h
  ·simp at h
  ·rename_i hx
   simp only[Zgb]
   split
   ·simp [Q6]
   ·simp only[Q6]
    rw [ZkO h]
    by_cases hu:x.var=u
    ·rw [if_pos hu,if_pos hu,if_neg (fun e=>hx (hu.trans e.symm))]
    ·rw [if_neg hu,if_neg hu]
theorem ZpX {v w:ByteArray} (hv:Yr v=true) (hw:ZT w=true):∀{b:List Zi} {a:Option ByteArray},Y4 a b=true→Q6 b v=none→(∀p,a=some p→sLt p v=true)→Y4 a (Zgb b v w)=true
 | [],a,_,_,hp=>by
  simp only[Zgb,Y4,Zfp,hv,hw,Bool.and_self,A6,Ak]
  cases a with
  | none=>rfl
  | some p=>exact hp p rfl
 | x::b,a,h,hg,hp=>by
  have hx:=Zwa hg x yG
  simp only[Q6,hx,if_false] at hg
  simp only[Y4,A9] at h
  obtain ⟨⟨h1,h2⟩,h3⟩:=h
  simp only[Zgb]
  by_cases c:sLt v x.var=true
  ·rw [if_pos c]
   have h4:Zjf a v=true:=by
    cases a with
    | none=>rfl
    | some p=>exact hp p rfl
   simp only[Y4,A9]
   exact ⟨⟨by simp [Zfp,hv,hw],h4⟩,⟨⟨h1,c⟩,h3⟩⟩
  ·rw [if_neg c]
   simp only[Y4,A9]
   refine ⟨⟨h1,h2⟩,ZpX hv hw h3 hg fun p d=>?_⟩
   obtain rfl:=A4 d
   exact ZfB (by simpa using c) (fun e=>hx e.symm)
def Zhw (b:List Zi) (v w:ByteArray):Option (List Zi):=
 if ZY b=true∧Yr v=true∧ZT w=true then
  (match Q6 b v with
  | some old=>if old=w then some b else none
  | none=>if b.length=6 then none else some (Zgb b v w))
 else none
theorem ZuS {b b':List Zi} {v w:ByteArray} (h:Zhw b v w=some b'):ZY b'=true∧Q6 b' v=some w∧∀u z,Q6 b u=some z→Q6 b' u=some z:=by
 unfold Zhw at h
 split at h
 ·rename_i hc
  obtain ⟨h1,h2,h3⟩:=hc
  cases hg:Q6 b v with
  | some old=>
   rw [hg] at h
   simp only at h
   split at h
   ·rename_i he
    obtain rfl:=A4 h
    exact ⟨h1,by rw [hg,he],fun u z hu=>hu⟩
   ·simp at h
  | none=>
   rw [hg] at h
   simp only at h
   split at h
   ·simp at h
   ·rename_i hl
    obtain rfl:=A4 h
    unfold ZY at h1 ⊢
    rw [A9,decide_eq_true_iff] at h1
    refine ⟨?_,by rw [ZkO hg,if_pos rfl],fun u z hu=>?_⟩
    ·rw [A9,decide_eq_true_iff,Zrf]
     exact ⟨yE,ZpX h2 h3 h1.2 hg yG⟩
    ·rw [ZkO hg,if_neg (fun e=>by rw [←e,hg] at hu;simp at hu)];exact hu
 ·simp at h
def Ze9:List ByteArray→List ByteArray→List Zi→Option (List Zi)
 | [],_,b=>some b
 | _::_,[],_=>none
 | a::p,w::f,b=>if ZT a=true then (if a=w then Ze9 p f b else none) else (Zhw b a w).bind (Ze9 p f)
theorem Zkr:∀{p f:List ByteArray} {b b':List Zi},ZY b=true→Ze9 p f b=some b'→ZY b'=true∧(∀a∈p,Yr a=true→∃z,Q6 b' a=some z)∧∀u z,Q6 b u=some z→Q6 b' u=some z
 | [],_,b,b',hb,h=>by
  simp only[Ze9,Option.some.injEq] at h
  subst h
  exact ⟨hb,yG,fun u z h=>h⟩
 | _::_,[],_,_,_,h=>by simp [Ze9] at h
 | a::p,w::f,b,b',hb,h=>by
  simp only[Ze9] at h
  by_cases ha:ZT a=true
  ·rw [if_pos ha] at h
   split at h
   ·obtain ⟨h1,h2,h3⟩:=Zkr hb h
    refine ⟨h1,fun x mx hx=>?_,h3⟩
    rcases A5.1 mx with rfl | mx
    ·rw [Zkg hx] at ha;simp at ha
    ·exact h2 x mx hx
   ·simp at h
  ·rw [if_neg ha] at h
   obtain ⟨b1,e1,h⟩:=Option.bind_eq_some_iff.1 h
   obtain ⟨k1,k2,k3⟩:=ZuS e1
   obtain ⟨h1,h2,h3⟩:=Zkr k1 h
   refine ⟨h1,fun x mx hx=>?_,fun u z hu=>h3 u z (k3 u z hu)⟩
   rcases A5.1 mx with rfl | mx
   ·exact ⟨w,h3 _ _ k2⟩
   ·exact h2 x mx hx
def ZhA (p:Zx) (f:Zc) (b:List Zi):Bool:=Z9 p&&Y3 f&&ZY b&&decide (p.rel=f.rel)&&decide (p.args.length=f.args.length)
def XL (p:Zx) (f:Zc) (b:List Zi):Option (List Zi):=if ZhA p f b=true then Ze9 p.args f.args b else none
theorem ZvH {p:Zx} {f:Zc} {b b':List Zi} (h:XL p f b=some b'):ZY b'=true∧(∀a∈p.args,Yr a=true→∃z,Q6 b' a=some z)∧∀u z,Q6 b u=some z→Q6 b' u=some z:=by
 unfold XL at h
 split at h
 ·rename_i hc
  unfold ZhA at hc
  simp only[A9] at hc
  exact Zkr hc.1.1.2 h
 ·simp at h
def Zfy:List ByteArray→List Zi→Option (List ByteArray)
 | [],_=>some []
 | a::p,b=>(X9 b a).bind fun v=>(Zfy p b).map fun l=>v::l
theorem Znw {b:List Zi}:∀{p:List ByteArray},p.all YJ=true→(∀a∈p,Yr a=true→∃z,Q6 b a=some z)→∃l,Zfy p b=some l∧l.length=p.length
 | [],_,_=>⟨[],rfl,rfl⟩
 | a::p,h,hv=>by
  simp only[List.all_cons,A9] at h
  obtain ⟨l,e,hl⟩:=Znw h.2 fun x mx=>hv x (by simp [mx])
  have:∃v,X9 b a=some v:=by
   have ht:=h.1
   unfold YJ at ht
   rw [AQ] at ht
   rcases ht with ht | ht
   ·exact ⟨a,by unfold X9;rw [if_pos ht]⟩
   ·obtain ⟨z,hz⟩:=hv a yG ht
    exact ⟨z,by rw [Zi0 ht];exact hz⟩
  obtain ⟨v,hv⟩:=this
  exact ⟨v::l,by simp only[Zfy,hv,e,A3,At],by simp [hl]⟩
def Zb8 (p:Zx) (b:List Zi):Option Zc:=if Z9 p=true∧ZY b=true then (Zfy p.args b).map fun l=>{ rel:=p.rel,args:=l } else none
def ZdF (p:Zx) (b:List Zi) (F:List Zc):List Zc:=F.filter fun f=>(XL p f b).isSome
def ZxY (l r:ByteArray):Bool:=match Q3 l,Q3 r with | some m,some n=>decide (m<n) | _,_=>false
def Zq4 (k:Int) (l r:ByteArray):Bool:=if k=3 then decide (l=r) else if k=4 then !decide (l=r) else ZxY l r
def ZnK (x:Zl) (b:List Zi):Bool:=
 if Y1 x=true∧3≤x.kind∧ZY b=true then (match X9 b x.left,X9 b x.right with | some l,some r=>Zq4 x.kind l r | _,_=>false) else false
def Zgo (x:Zl) (b:List Zi) (F:List Zc):Bool:=
 if Y1 x=true∧ZY b=true then
  (if x.kind=1 then decide (0<(ZdF x.pattern b F).length) else if x.kind=2 then decide ((ZdF x.pattern b F).length=0) else ZnK x b)
 else false
def QD (x:Zl) (F:List Zc) (t:Zq):List Zq:=
 if x.kind=1 then F.filterMap fun f=>(XL x.pattern f t.binding).map fun b=>{ facts:=t.facts++[f],binding:=b }
 else if Zgo x t.binding F=true then [t] else []
def ZfE (x:Zl) (F:List Zc) (l:List Zq):List Zq:=l.flatMap (QD x F)
def ZvF:Zq:={ facts:=[],binding:=[] }
def Zz (l:List Zl) (F:List Zc):List Zq:=l.foldl (fun ts x=>ZfE x F ts) [ZvF]
theorem Zaw (p:List Zl) (x:Zl) (F:List Zc):Zz (p++[x]) F=ZfE x F (Zz p F):=by
 unfold Zz
 rw [AZ]
 rfl
structure ZmI (p:List Zl) (F:List Zc) (t:Zq):Prop where
 bind:ZY t.binding=true
 len:t.facts.length≤p.length
 sub:∀f∈t.facts,f∈F
 vars:∀v∈Y2 p,∃z,Q6 t.binding v=some z
theorem ZyL {p:List Zl} {x:Zl} {F:List Zc} {t u:Zq} (h:ZmI p F t) (hu:u∈QD x F t):ZmI (p++[x]) F u:=by
 unfold QD at hu
 have hv:Y2 (p++[x])=Y2 p++(if x.kind=1 then Xk x.pattern.args else []):=by simp [Y2]
 by_cases hk:x.kind=1
 ·rw [if_pos hk] at hu
  obtain ⟨f,mf,e⟩:=List.mem_filterMap.1 hu
  obtain ⟨b,e2,rfl⟩:=Option.map_eq_some_iff.1 e
  obtain ⟨h1,h2,h3⟩:=ZvH e2
  refine ⟨h1,by have:=h.len;simp;omega,fun g mg=>?_,fun v mv=>?_⟩
  ·rcases AL.1 mg with mg | mg
   ·exact h.sub g mg
   ·simp at mg;subst mg;exact mf
  ·rw [hv,if_pos hk] at mv
   rcases AL.1 mv with mv | mv
   ·obtain ⟨z,hz⟩:=h.vars v mv
    exact ⟨z,h3 v z hz⟩
   ·obtain ⟨m1,m2⟩:=Zcf.1 mv
    exact h2 v m1 m2
 ·rw [if_neg hk] at hu
  split at hu
  ·simp at hu
   subst hu
   refine ⟨h.bind,by have:=h.len;simp;omega,h.sub,fun v mv=>?_⟩
   rw [hv,if_neg hk,Al] at mv
   exact h.vars v mv
  ·simp at hu
theorem Zym (F:List Zc):ZmI [] F ZvF:=⟨rfl,AU _,by simp [ZvF],by simp [Y2]⟩
theorem Zbw (F:List Zc) (l:List Zl):∀t∈Zz l F,ZmI l F t:=by
 have:∀n (l:List Zl),l.length=n→∀t∈Zz l F,ZmI l F t:=by
  intro n
  induction n with
  | zero=>
   intro l h
   rw [List.eq_nil_of_length_eq_zero h]
   intro t mt
   simp [Zz] at mt
   subst mt
   exact Zym F
  | succ n ih=>
   intro l h
   obtain ⟨p,x,rfl⟩:∃p x,l=p++[x]:=⟨l.dropLast,l.getLast (by intro e;simp [e] at h),(List.dropLast_concat_getLast _).symm⟩
   intro t mt
   rw [Zaw] at mt
   obtain ⟨s,ms,mt⟩:=AT.1 mt
   exact ZyL (ih p (by simpa using h) s ms) mt
 exact this _ l rfl
theorem ZjU (x:Zl) (F:List Zc) (hF:F.length≤24):∀l:List Zq,(ZfE x F l).length≤24 * l.length
 | []=>AU _
 | t::l=>by
  have ih:=ZjU x F hF l
  have h1:(QD x F t).length≤24:=by
   unfold QD
   split
   ·exact AI (List.length_filterMap_le _ _) hF
   ·split<;>simp
  unfold ZfE at *
  rw [AN,AP,AC]
  omega
theorem Q7 (F:List Zc) (hF:F.length≤24) (l:List Zl) (hl:l.length≤4):(Zz l F).length≤331776:=by
 have key:∀(l:List Zl) (ts:List Zq),(l.foldl (fun ts x=>ZfE x F ts) ts).length≤24 ^ l.length * ts.length:=by
  intro l
  induction l with
  | nil=>intro ts;simp
  | cons x l ih=>
   intro ts
   rw [AG,AC,Nat.pow_succ]
   have h1:=ih (ZfE x F ts)
   have h2:=ZjU x F hF ts
   refine AI h1 (AI (Nat.mul_le_mul_left _ h2) ?_)
   rw [←As]
   exact AU _
 have h1:=key l [ZvF]
 have h2:24 ^ l.length≤24 ^ 4:=Ac yE hl
 unfold Zz
 simp only[List.length_singleton,Nat.mul_one] at h1
 omega
def Zgq (b:List Zi) (i:Nat):Option ByteArray:=if i=0 then none else (b[i - 1]?).map (·.var)
theorem ZkM {b:List Zi} {body:Nat→Zi→Unit→Option (Unit ⊕ Bool)} {fin:Unit→Option Bool} (hb:∀i x,b[i]?=some x→body i x ()=if (Zfp x&&Zjf (Zgq b i) x.var)=true then some (.inl ()) else some (.inr false)):
  ∀(l:List Zi) (i:Nat),b.drop i=l→Zp body fin l i ()=if Y4 (Zgq b i) l=true then fin () else some false
 | [],i,_=>by simp [Zp,Y4]
 | x::l,i,h=>by
  have hx:b[i]?=some x:=by rw [←List.head?_drop,h];rfl
  have hd:b.drop (i+1)=l:=by rw [←List.tail_drop,h];rfl
  have hp:Zgq b (i+1)=some x.var:=by unfold Zgq;rw [if_neg yE,Nat.add_sub_cancel,hx];rfl
  by_cases hc:(Zfp x&&Zjf (Zgq b i) x.var)=true
  ·rw [Z4 (by rw [hb i x hx,if_pos hc]),ZkM hb l (i+1) hd,hp]
   simp only[Y4,hc,A6]
  ·rw [YF (by rw [hb i x hx,if_neg hc])]
   simp only[Y4,eq_false_of_ne_true hc,Aa,AA,if_false]
theorem ZoT {b:List Zi} (hl:b.length≤1048576) {i:Nat} {x:Zi} (hx:b[i]?=some x):
  (if Yr x.var=true then (if ZT x.value=true then (if (decide (0<((i:Nat):Int)))=true then (atI b (IntKind.i64.wrap (((i:Nat):Int) - 1))).bind fun a=>if (sLt a.var x.var)=true then some (.inl ()) else some (.inr false) else some (.inl ())) else some (.inr false)) else some (.inr false):Option (Unit ⊕ Bool))
   = if (Zfp x&&Zjf (Zgq b i) x.var)=true then some (.inl ()) else some (.inr false):=by
 have hi:=(AH.1 hx).1
 unfold Zfp
 cases Yr x.var with
 | false=>simp
 | true=>
  cases ZT x.value with
  | false=>simp
  | true=>
   rw [if_pos rfl,if_pos rfl]
   by_cases h0:i=0
   ·subst h0
    rw [if_neg yG]
    simp [Zgq,Zjf]
   ·have hp:Zgq b i=some (b[i - 1]).var:=by unfold Zgq;rw [if_neg h0,AJ yE];rfl
    rw [if_pos (by simp;omega),show ((i:Nat):Int) - 1=((i - 1:Nat):Int) by omega,ZeV yE yE,Za1,AJ yE,A3,hp]
    simp [Zjf]
theorem Zam (b:List Zi):XS b=some (ZY b):=by
 unfold XS ZY
 by_cases h6:b.length≤6
 ·rw [if_neg (by simp;omega),ZkM (b:=b) (fun i x hx=>by
   rw [ZdO,A3,QC]
   exact ZoT yE hx) b 0 rfl,decide_eq_true h6]
  show (if Y4 none b=true then some true else some false)=_
  cases Y4 none b<;>rfl
 ·rw [if_pos (by simp;omega),decide_eq_false h6]
  rfl
theorem Zat (b:List Zi) (hl:b.length≤1048576):XU b=some (ZY b):=by
 unfold XU ZY
 rw [ZkM (b:=b) (fun i x hx=>by
   rw [Zaj,A3,QB]
   exact ZoT hl hx) b 0 rfl]
 show (if Y4 none b=true then some (decide (((b.length:Nat):Int)≤6)) else some false)=_
 have:decide (((b.length:Nat):Int)≤6)=decide (b.length≤6):=by rw [AB];simp;omega
 rw [this]
 cases Y4 none b<;>simp
def Zzp (b:List Zi) (t:ByteArray):ByteArray × Bool:=match X9 b t with | some v=>(v,true) | none=>(⟨#[]⟩,false)
def Zxo:Option ByteArray→ByteArray × Bool
 | some v=>(v,true)
 | none=>(⟨#[]⟩,false)
theorem Zcy (b:List Zi) (t:ByteArray):Zzp b t=Zxo (X9 b t):=by unfold Zzp Zxo;cases X9 b t<;>rfl
theorem Zny {t:ByteArray} {body:Nat→Zi→Unit→Option (Unit ⊕ (ByteArray × Bool))} (hb:∀i x,body i x ()=if x.var=t then some (.inr (x.value,true)) else some (.inl ())):
  ∀(b:List Zi) (i:Nat),Zp body (fun _=>some ((⟨#[]⟩),false)) b i ()=some (Zxo (Q6 b t))
 | [],_=>rfl
 | x::b,i=>by
  by_cases hx:x.var=t
  ·rw [YF (by rw [hb,if_pos hx])]
   simp [Q6,hx,Zxo]
  ·rw [Z4 (by rw [hb,if_neg hx]),Zny hb b (i+1)]
   simp [Q6,hx]
theorem Zdq (b:List Zi) (t:ByteArray):Zbt b t=some (Zzp b t):=by
 unfold Zbt
 rw [Zcy,QC,A3]
 unfold X9
 by_cases ha:ZT t=true
 ·rw [if_pos ha,if_pos ha];rfl
 ·rw [if_neg ha,if_neg ha,ZdO,A3]
  by_cases hv:Yr t=true
  ·rw [if_pos hv,if_pos hv,Zny]
   intro i x
   by_cases hx:x.var=t
   ·rw [if_pos (ZQ.2 hx),if_pos hx]
   ·rw [if_neg (by rw [ZQ];exact hx),if_neg hx]
  ·rw [if_neg hv,if_neg hv];rfl
theorem Zdm (b:List Zi) (t:ByteArray):Zbj b t=some (Zzp b t):=by
 unfold Zbj
 rw [Zcy,QB,A3]
 unfold X9
 by_cases ha:ZT t=true
 ·rw [if_pos ha,if_pos ha];rfl
 ·rw [if_neg ha,if_neg ha]
  by_cases hv:Yr t=true
  ·rw [if_pos hv,Zny]
   intro i x
   by_cases hx:x.var=t
   ·rw [if_pos (ZQ.2 hx),if_pos hx,Zaj,A3,if_pos hv]
   ·rw [if_neg (by rw [ZQ];exact hx),if_neg hx]
  ·rw [if_neg hv,Z0 (p:=fun _=>true) (r:=((⟨#[]⟩:ByteArray),false))]
   ·simp [Zxo]
   ·intro i x _
    rw [Zaj,A3,if_neg hv]
    split<;>rfl
theorem ZsC {a v:ByteArray}:((sLt a v||sEq a v)=true)↔¬sLt v a=true:=by
 rw [AQ,ZQ]
 constructor
 ·rintro (h | h)
  ·rw [ZkU h];simp
  ·rw [h,ZiT];simp
 ·intro h
  by_cases e:a=v
  ·exact .inr e
  ·exact .inl (ZfB (by simpa using h) (fun e2=>e e2.symm))
theorem Zsf {ρ:Type} {v w:ByteArray} {K:List Zi→Option ρ} {body:Nat→Zi→(List Zi × Bool)→Option ((List Zi × Bool) ⊕ ρ)} {fin:(List Zi × Bool)→Option ρ}
  (h1:∀i x row,row.length≤1000→body i x (row,true)=some (.inl (row++[x],true)))
  (h2:∀i x row,row.length≤1000→body i x (row,false)=if (sLt x.var v||sEq x.var v)=true then some (.inl (row++[x],false)) else some (.inl ((row++[{ var:=v,value:=w }])++[x],true)))
  (h3:∀row,row.length≤1000→fin (row,true)=K row) (h4:∀row,row.length≤1000→fin (row,false)=K (row++[{ var:=v,value:=w }])) (b:List Zi) (hb:b.length≤100):Zp body fin b 0 ([],false)=K (Zgb b v w):=by
 rw [ZaV (fun l _ s=>K (s.1++(if s.2=true then l else Zgb l v w))) (fun l _ s=>s.1.length+2 * l.length≤900) ?_ ?_ b 0 ([],false) (by simp;omega)]
 ·simp
 ·rintro i ⟨row,a⟩ hI
  simp only[AS] at hI
  cases a with
  | true=>rw [h3 row yE];simp
  | false=>rw [h4 row yE];simp [Zgb]
 ·rintro x l i ⟨row,a⟩ hI
  simp only[AC] at hI
  left
  cases a with
  | true=>exact ⟨_,h1 i x row yE,by simp;omega,yG⟩
  | false=>
   rw [h2 i x row yE]
   by_cases hs:sLt v x.var=true
   ·rw [if_neg (by rw [ZsC];simpa using hs)]
    exact ⟨_,rfl,by simp;omega,by simp [Zgb,hs]⟩
   ·rw [if_pos (ZsC.2 hs)]
    exact ⟨_,rfl,by simp;omega,by simp [Zgb,hs]⟩
def Zlw:Option (List Zi)→List Zi × Bool
 | some b=>(b,true)
 | none=>([],false)
theorem Zh7 {b:List Zi} {v w:ByteArray} (h:¬(ZY b=true∧Yr v=true∧ZT w=true)):Zlw (Zhw b v w)=([],false):=by
 unfold Zhw
 rw [if_neg h]
 rfl
theorem Zj9 {b:List Zi} {v w:ByteArray} (h1:ZY b=true) (h2:Yr v=true) (h3:ZT w=true):Zhw b v w=match Q6 b v with | some a=>if a=w then some b else none | none=>if b.length=6 then none else some (Zgb b v w):=by
 unfold Zhw
 exact if_pos ⟨h1,h2,h3⟩
theorem QE {b:List Zi} (h:ZY b=true):b.length≤6:=by
 unfold ZY at h
 rw [A9,decide_eq_true_iff] at h
 exact h.1
theorem ZrB (b:List Zi) (v w:ByteArray):Zg4 b v w=some (Zlw (Zhw b v w)):=by
 unfold Zg4
 rw [Zam,A3]
 by_cases h1:ZY b=true
 ·rw [if_pos h1,ZdO,A3]
  by_cases h2:Yr v=true
  ·rw [if_pos h2,QC,A3]
   by_cases h3:ZT w=true
   ·have h6:=QE h1
    rw [if_pos h3,Zdq,A3,Zcy,Zi0 h2]
    cases hg:Q6 b v with
    | some a=>
     have hx:Zhw b v w=if a=w then some b else none:=by rw [Zj9 h1 h2 h3,hg]
     rw [hx]
     show (if true=true then (if sEq a w=true then _ else _) else _)=_
     rw [if_pos rfl]
     by_cases he:a=w
     ·rw [if_pos (ZQ.2 he),if_pos he]
      unfold Zbn
      rw [Zj _ yE]
      rfl
     ·rw [if_neg (by rw [ZQ];exact he),if_neg he]
      rfl
    | none=>
     have hx:Zhw b v w=if b.length=6 then none else some (Zgb b v w):=by rw [Zj9 h1 h2 h3,hg]
     rw [hx]
     show (if false=true then _ else _)=_
     rw [if_neg yG]
     by_cases hl:b.length=6
     ·rw [if_pos (by simp;omega),if_pos hl]
      rfl
     ·rw [if_neg (by simp;omega),if_neg hl]
      refine Zsf (K:=fun r=>some (r,true)) (fun i x row hr=>?_) (fun i x row hr=>?_) (fun row hr=>?_) (fun row hr=>?_) b yE
      ·show (if true=true then _ else _)=_
       rw [if_pos rfl,Zj _ yE]
      ·show (if false=true then _ else _)=_
       rw [if_neg yG]
       split
       ·rw [Zj _ yE]
       ·rw [Zj _ yE,Zj _ yE]
      ·show (if true=true then _ else _)=_
       rw [if_pos rfl]
      ·show (if false=true then _ else _)=_
       rw [if_neg yG,Zj _ yE]
   ·rw [if_neg h3,Zh7 (fun h=>h3 h.2.2)]
  ·rw [if_neg h2,Zh7 (fun h=>h2 h.2.1)]
 ·rw [if_neg h1,Zh7 (fun h=>h1 h.1)]
theorem Zt9 (b:List Zi) (v w:ByteArray) (hb:b.length≤100):ZjO b v w=some (Zgb b v w):=by
 unfold ZjO
 refine Zsf (K:=fun r=>some r) (fun i x row hr=>?_) (fun i x row hr=>?_) (fun row hr=>?_) (fun row hr=>?_) b hb
 ·show (if true=true then _ else _)=_
  rw [if_pos rfl,Zj _ yE]
 ·show (if false=true then _ else _)=_
  rw [if_neg yG]
  split
  ·rw [Zj _ yE]
  ·rw [Zj _ yE,Zj _ yE]
 ·show (if true=true then _ else _)=_
  rw [if_pos rfl]
 ·show (if false=true then _ else _)=_
  rw [if_neg yG,Zj _ yE]
theorem Zsr (b:List Zi) (v w:ByteArray) (hb:b.length≤1048576):Zhm b v w=some (Zlw (Zhw b v w)):=by
 unfold Zhm
 rw [Zat b hb,A3]
 by_cases h1:ZY b=true
 ·rw [if_pos h1,Zaj,A3]
  by_cases h2:Yr v=true
  ·rw [if_pos h2,QB,A3]
   by_cases h3:ZT w=true
   ·have h6:=QE h1
    rw [if_pos h3,Zdm,A3,Zcy,Zi0 h2]
    cases hg:Q6 b v with
    | some a=>
     have hx:Zhw b v w=if a=w then some b else none:=by rw [Zj9 h1 h2 h3,hg]
     rw [hx]
     show (if true=true then (if sEq a w=true then _ else _) else _)=_
     rw [if_pos rfl]
     by_cases he:a=w
     ·rw [if_pos (ZQ.2 he),if_pos he]
      unfold ZaS
      rw [Zj _ yE]
      rfl
     ·rw [if_neg (by rw [ZQ];exact he),if_neg he]
      rfl
    | none=>
     have hx:Zhw b v w=if b.length=6 then none else some (Zgb b v w):=by rw [Zj9 h1 h2 h3,hg]
     rw [hx]
     show (if false=true then _ else _)=_
     rw [if_neg yG]
     by_cases hl:b.length=6
     ·rw [if_pos (by simp;omega),if_pos hl]
      rfl
     ·rw [if_neg (by simp;omega),if_neg hl,Zt9 _ _ _ yE]
      rfl
   ·rw [if_neg h3,Zh7 (fun h=>h3 h.2.2)]
  ·rw [if_neg h2,Zh7 (fun h=>h2 h.2.1)]
 ·rw [if_neg h1,Zh7 (fun h=>h1 h.1)]
theorem Zgs {fa:List ByteArray} {body:Nat→ByteArray→List Zi→Option (List Zi ⊕ (List Zi × Bool))}
  (hb:∀i a w row,fa[i]?=some w→ZY row=true→body i a row=if ZT a=true then (if a=w then some (.inl row) else some (.inr ([],false))) else (match Zhw row a w with | some r=>some (.inl r) | none=>some (.inr ([],false)))):
  ∀(l:List ByteArray) (i:Nat) (row:List Zi),i+l.length=fa.length→ZY row=true→Zp body (fun row=>some (row,true)) l i row=some (Zlw (Ze9 l (fa.drop i) row))
 | [],i,row,_,_=>by simp [Zp,Ze9,Zlw]
 | a::l,i,row,h,hr=>by
  simp only[AC] at h
  have hi:i<fa.length:=by omega
  have hw:fa[i]?=some fa[i]:=AJ hi
  rw [Ag hi]
  simp only[Ze9]
  have e:=hb i a _ row hw hr
  by_cases ha:ZT a=true
  ·rw [if_pos ha] at e ⊢
   by_cases hq:a=fa[i]
   ·rw [if_pos hq] at e ⊢
    rw [Z4 e]
    exact Zgs hb l (i+1) row yE hr
   ·rw [if_neg hq] at e ⊢
    rw [YF e]
    rfl
  ·rw [if_neg ha] at e ⊢
   cases hx:Zhw row a fa[i] with
   | none=>
    rw [hx] at e
    rw [YF e]
    rfl
   | some r=>
    rw [hx] at e
    rw [Z4 e,A3]
    exact Zgs hb l (i+1) r yE (ZuS hx).1
theorem ZbF (p:Zx) (f:Zc) (b:List Zi):QF p f b=some (Zlw (XL p f b)):=by
 unfold QF XL ZhA
 rw [ZbE,A3]
 cases h1:Z9 p with
 | false=>rfl
 | true=>
  rw [if_pos rfl,Zlu,A3]
  cases h2:Y3 f with
  | false=>rfl
  | true=>
   rw [if_pos rfl,Zam,A3]
   cases h3:ZY b with
   | false=>rfl
   | true=>
    rw [if_pos rfl]
    by_cases h4:p.rel=f.rel
    ·rw [if_pos (ZQ.2 h4),decide_eq_true h4]
     by_cases h5:p.args.length=f.args.length
     ·have h6:=QE h3
      rw [if_neg (by simp;omega),decide_eq_true h5]
      unfold Zbn
      rw [Zj _ yE,A3]
      rw [Zgs (fa:=f.args) (fun i a w row hw hr=>?_) p.args 0 b yE h3]
      ·rfl
      ·rw [QC,A3,Za1,hw,A3,A3]
       split
       ·by_cases hq:a=w
        ·rw [if_pos (ZQ.2 hq),if_pos hq]
        ·rw [if_neg (by rw [ZQ];exact hq),if_neg hq]
       ·rw [ZrB,A3]
        cases Zhw row a w<;>rfl
     ·rw [if_pos (by simp;omega),decide_eq_false h5]
      rfl
    ·rw [if_neg (by rw [ZQ];exact h4),decide_eq_false h4]
     rfl
theorem ZgV (p:Zx) (f:Zc) (b:List Zi) (hb:b.length≤1048576):Zbp p f b=some (Zlw (XL p f b)):=by
 unfold Zbp XL ZhA
 rw [ZbD,A3]
 cases h1:Z9 p with
 | false=>rfl
 | true=>
  rw [if_pos rfl,Zli,A3]
  cases h2:Y3 f with
  | false=>rfl
  | true=>
   rw [if_pos rfl,Zat b hb,A3]
   cases h3:ZY b with
   | false=>rfl
   | true=>
    rw [if_pos rfl]
    by_cases h4:p.rel=f.rel
    ·rw [if_pos (ZQ.2 h4),decide_eq_true h4]
     by_cases h5:p.args.length=f.args.length
     ·have h6:=QE h3
      rw [if_neg (by simp;omega),decide_eq_true h5]
      unfold ZaS
      rw [Zj _ yE,A3]
      rw [Zgs (fa:=f.args) (fun i a w row hw hr=>?_) p.args 0 b yE h3]
      ·rfl
      ·have hr6:=QE hr
       rw [QB,A3,Za1,hw,A3,A3]
       split
       ·by_cases hq:a=w
        ·rw [if_pos (ZQ.2 hq),if_pos hq]
        ·rw [if_neg (by rw [ZQ];exact hq),if_neg hq]
       ·rw [Zsr _ _ _ yE,A3]
        cases Zhw row a w<;>rfl
     ·rw [if_pos (by simp;omega),decide_eq_false h5]
      rfl
    ·rw [if_neg (by rw [ZQ];exact h4),decide_eq_false h4]
     rfl
def Zdk:Option Zc→Zc × Bool
 | some f=>(f,true)
 | none=>({ rel:=⟨#[]⟩,args:=[] },false)
theorem ZoW {b:List Zi} {rel:ByteArray} {body:Nat→ByteArray→List ByteArray→Option (List ByteArray ⊕ (Zc × Bool))} (hb:∀i a row,row.length≤1048576→body i a row=match X9 b a with | some v=>some (.inl (row++[v])) | none=>some (.inr ({ rel:=⟨#[]⟩,args:=[] },false))) (l:List ByteArray) (hl:l.length≤1000000):
  Zp body (fun row=>some ({ rel:=rel,args:=row },true)) l 0 []=some (Zdk ((Zfy l b).map fun l=>{ rel:=rel,args:=l })):=by
 rw [ZaV (fun l _ row=>some (Zdk ((Zfy l b).map fun l=>{ rel:=rel,args:=row++l }))) (fun l _ row=>row.length+l.length≤1048576) ?_ ?_ l 0 [] (by simp;omega)]
 ·simp
 ·intro i row _
  simp [Zfy,Zdk]
 ·intro a l i row hI
  simp only[AC] at hI
  have e:=hb i a row (by omega)
  cases hv:X9 b a with
  | none=>
   rw [hv] at e
   exact .inr ⟨_,e,by simp [Zfy,hv,Zdk]⟩
  | some v=>
   rw [hv] at e
   refine .inl ⟨_,e,by simp;omega,?_⟩
   simp only[Zfy,hv,A3,Option.map_map]
   cases Zfy l b<;>simp
theorem Ze8 (p:Zx) (b:List Zi):QL p b=some (Zdk (Zb8 p b)):=by
 unfold QL Zb8
 rw [ZbE,A3]
 cases h1:Z9 p with
 | false=>rfl
 | true=>
  rw [if_pos rfl,Zam,A3]
  cases h3:ZY b with
  | false=>rfl
  | true=>
   have hl:p.args.length≤3:=by unfold Z9 at h1;simp at h1;exact h1.1.2
   rw [if_pos rfl,if_pos ⟨rfl,rfl⟩,ZoW (b:=b) (fun i a row hr=>?_) p.args yE]
   rw [Zdq,A3,Zcy]
   cases X9 b a with
   | none=>rfl
   | some v=>
    show (if true=true then _ else _)=_
    rw [if_pos rfl,Zj _ yE]
    rfl
theorem Zir (p:Zx) (b:List Zi) (hb:b.length≤1048576):XA p b=some (Zdk (Zb8 p b)):=by
 unfold XA Zb8
 rw [ZbD,A3]
 cases h1:Z9 p with
 | false=>rfl
 | true=>
  rw [if_pos rfl,Zat b hb,A3]
  cases h3:ZY b with
  | false=>rfl
  | true=>
   have hl:p.args.length≤3:=by unfold Z9 at h1;simp at h1;exact h1.1.2
   rw [if_pos rfl,if_pos ⟨rfl,rfl⟩,ZoW (b:=b) (fun i a row hr=>?_) p.args yE]
   rw [Zdm,A3,Zcy]
   cases X9 b a with
   | none=>rfl
   | some v=>
    show (if true=true then _ else _)=_
    rw [if_pos rfl,Zj _ yE]
    rfl
theorem Zgu (o:Option (List Zi)):(Zlw o).2=o.isSome:=by cases o<;>rfl
theorem Zem (p:Zx) (b:List Zi) (F:List Zc) (hF:F.length≤1048576) (ha:∀f∈F,f.args.length≤1048576):XO p b F=some (ZdF p b F):=by
 unfold XO ZdF
 rw [Ze1 (p:=fun f=>(XL p f b).isSome)]
 ·simp
 ·intro j f s mf hs
  rw [ZbF,A3,Zgu]
  split
  ·rw [YN f (ha f mf),A3,Zj _ (by simp at hs;omega)]
  ·rfl
theorem Zd0 (p:Zx) (b:List Zi) (F:List Zc) (hb:b.length≤1048576) (hF:F.length≤1048576) (ha:∀f∈F,f.args.length≤1048576):XQ p b F=some (ZdF p b F):=by
 unfold XQ ZdF
 rw [Ze1 (p:=fun f=>(XL p f b).isSome)]
 ·simp
 ·intro j f s mf hs
  rw [ZgV _ _ _ hb,A3,Zgu]
  split
  ·rw [Xs f (ha f mf),A3,Zj _ (by simp at hs;omega)]
  ·rfl
theorem Zmd (x:Zl) (b:List Zi):Zc9 x b=some (ZnK x b):=by
 unfold Zc9 ZnK ZjH
 rw [Zhy,A3]
 cases h1:Y1 x with
 | false=>rfl
 | true=>
  rw [if_pos rfl,A3]
  by_cases h2:3≤x.kind
  ·rw [if_pos (by simpa using h2),Zam,A3]
   cases h3:ZY b with
   | false=>simp
   | true=>
    rw [if_pos rfl,if_pos ⟨rfl,h2,rfl⟩,Zdq,A3,Zdq,A3,Zcy,Zcy]
    cases X9 b x.left with
    | none=>rfl
    | some l=>
     cases X9 b x.right with
     | none=>rfl
     | some r=>
      show (if true=true then (if true=true then (if (x.kind==3)=true then some (sEq l r) else _) else _) else _)=some (Zq4 x.kind l r)
      rw [if_pos rfl,if_pos rfl]
      unfold Zq4
      by_cases k3:x.kind=3
      ·rw [if_pos (by simpa using k3),if_pos k3];rfl
      ·rw [if_neg (by simpa using k3),if_neg k3]
       by_cases k4:x.kind=4
       ·rw [if_pos (by simpa using k4),if_pos k4];rfl
       ·rw [if_neg (by simpa using k4),if_neg k4,ZcC,A3,ZcC,A3]
        show (if (ZeB l).2=true then (if (ZeB r).2=true then some (decide ((ZeB l).1<(ZeB r).1)) else some false) else some false)=_
        unfold ZeB ZxY
        cases Q3 l<;>cases Q3 r<;>simp
  ·rw [if_neg (by simpa using h2),if_neg (fun h=>h2 h.2.1)]
theorem Zm5 (x:Zl) (b:List Zi) (hb:b.length≤1048576):ZcI x b=some (ZnK x b):=by
 unfold ZcI ZnK ZbV
 rw [ZeH,A3]
 cases h1:Y1 x with
 | false=>rfl
 | true=>
  rw [if_pos rfl,A3]
  by_cases h2:3≤x.kind
  ·rw [if_pos (by simpa using h2),Zat b hb,A3]
   cases h3:ZY b with
   | false=>simp
   | true=>
    rw [if_pos rfl,if_pos ⟨rfl,h2,rfl⟩,Zdm,A3,Zdm,A3,Zcy,Zcy]
    cases X9 b x.left with
    | none=>rfl
    | some l=>
     cases X9 b x.right with
     | none=>rfl
     | some r=>
      show (if true=true then (if true=true then (if (x.kind==3)=true then some (sEq l r) else _) else _) else _)=some (Zq4 x.kind l r)
      rw [if_pos rfl,if_pos rfl]
      unfold Zq4
      by_cases k3:x.kind=3
      ·rw [if_pos (by simpa using k3),if_pos k3];rfl
      ·rw [if_neg (by simpa using k3),if_neg k3]
       by_cases k4:x.kind=4
       ·rw [if_pos (by simpa using k4),if_pos k4];rfl
       ·rw [if_neg (by simpa using k4),if_neg k4]
        unfold Zd3
        rw [ZcH,A3,A3]
        show (if (ZeB l).2=true then ((Zag r).bind fun v1=>some v1.2).bind (fun v6=>if v6=true then (Xz l r).bind fun v7=>some (decide (v7<0)) else some false) else some false)=_
        unfold ZxY
        cases hl:Q3 l with
        | none=>simp [ZeB,hl]
        | some m=>
         rw [if_pos (by simp [ZeB,hl]),ZcH,A3,A3]
         cases hr:Q3 r with
         | none=>simp [ZeB,hr]
         | some n=>
          have hd:decide (ZgI l r<0)=decide (m<n):=by
           have hc:ZgI l r=ZlE m n:=by unfold ZgI;rw [hl,hr]
           rw [hc,AB,decide_eq_true_iff,decide_eq_true_iff]
           unfold ZlE
           split
           ·omega
           ·split<;>omega
          rw [if_pos (by simp [ZeB,hr]),ZeW,A3,hd]
  ·rw [if_neg (by simpa using h2),if_neg (fun h=>h2 h.2.1)]
theorem ZhL (x:Zl) (b:List Zi) (F:List Zc) (hF:F.length≤1048576) (ha:∀f∈F,f.args.length≤1048576):ZcY x b F=some (Zgo x b F):=by
 unfold ZcY Zgo
 rw [Zhy,A3]
 cases h1:Y1 x with
 | false=>rfl
 | true=>
  rw [if_pos rfl,Zam,A3]
  cases h3:ZY b with
  | false=>rfl
  | true=>
   rw [if_pos rfl,if_pos (show true=true∧true=true from ⟨rfl,rfl⟩)]
   by_cases k1:x.kind=1
   ·rw [if_pos (by simpa using k1),if_pos k1,Zem _ _ _ hF ha,A3]
    congr 1
    rw [AB];simp
   ·rw [if_neg (by simpa using k1),if_neg k1]
    by_cases k2:x.kind=2
    ·rw [if_pos (by simpa using k2),if_pos k2,Zem _ _ _ hF ha,A3,Zvc]
    ·rw [if_neg (by simpa using k2),if_neg k2,Zmd]
     rfl
theorem Zmj (x:Zl) (b:List Zi) (F:List Zc) (hb:b.length≤1048576) (hF:F.length≤1048576) (ha:∀f∈F,f.args.length≤1048576):ZcP x b F=some (Zgo x b F):=by
 unfold ZcP Zgo
 rw [ZeH,A3]
 cases h1:Y1 x with
 | false=>rfl
 | true=>
  rw [if_pos rfl,Zat b hb,A3]
  cases h3:ZY b with
  | false=>rfl
  | true=>
   rw [if_pos rfl,if_pos (show true=true∧true=true from ⟨rfl,rfl⟩)]
   by_cases k1:x.kind=1
   ·rw [if_pos (by simpa using k1),if_pos k1,Zd0 _ _ _ hb hF ha,A3]
    congr 1
    rw [AB];simp
   ·rw [if_neg (by simpa using k1),if_neg k1]
    by_cases k2:x.kind=2
    ·rw [if_pos (by simpa using k2),if_pos k2,Zd0 _ _ _ hb hF ha,A3,Zvc]
    ·rw [if_neg (by simpa using k2),if_neg k2,Zm5 _ _ hb]
     rfl
end Go.Proofs.YtlpkbfjcdaanmaaGreatDoor
