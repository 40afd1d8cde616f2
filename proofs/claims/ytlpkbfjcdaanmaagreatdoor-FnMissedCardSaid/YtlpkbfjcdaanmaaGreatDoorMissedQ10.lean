/- A part of the proof; no conditions. -/
import Derived.Test.YtlpkbfjcdaanmaaGreatDoorMissedQ9
import Derived.Deep.Slices
import Derived.ChangeArms
import Derived.ProofKit
import Derived.Lib.LaidTab
open List renaming map→A0,getElem?_eq_none→A5
open Option renaming map_eq_some_iff→A4
open Option.some renaming inj→A3
set_option linter.unusedSimpArgs false
set_option linter.unusedVariables false
set_option maxRecDepth 1000000
set_option maxHeartbeats 4000000
namespace Go.Proofs.YtlpkbfjcdaanmaaGreatDoor
section
open Go.Proofs.Tryz
theorem ZN3 {append_0:List Int}{r:Bool}(h:w_FnMissed append_0=some r):Sound Tryz.prog J0 6 [(false,[.sl 5 1 (A0 Zs8 append_0)])] [(false,[(false,.bool r)])]:=by
 refine fnk (hok:=codeOk2_ok _ yO) Tryz.func6 rfl ?_;unfold w_FnMissed at h;simp only[fnS,f6,Zo,go_sem,seval];refine ZPO h fun v1 w h=>Zd (w_big_ok w)<|yA ?_;refine yB h (fun _ h=>?_) fun _ h=>?_;cases h;exact yD;obtain ⟨a,x,h⟩:=Za h;refine ZnA (s_DrawWhyNot_ok x)<|yA ?_;refine ZPO h fun b y h=>Zd (i_WhyNot_ok y)<|yA ?_;refine ZPO h fun d z h=>Zd (s_ModelOf_ok z)<|yA ?_;refine yB h (fun _ h=>?_) fun _ h=>?_;refine ZPO h fun _ A h=>Zd (s_IsFact_ok A)<|yA ?_;refine yB h (fun _ h=>?_) fun _ h=>?_;refine ZPO h fun _ B h=>Zd (w_holds_ok B)<|yA ?_;refine yB h (fun _ h=>?_) fun _ h=>?_;refine Zh h (fun i _ st=>IV [(3,yM (yW a.1)),(4,yM (yT a.2.1)),(5,.bp 0 0),(6,.p false [.row 1]),(8,.p false [.row 2]),(9,yM (.bool d.2)),(10,yL i)] [zD 53 (eFact a.2.2),.row 73 3 (A0 eMiss b.1) 2,.row 53 2 (A0 eFact d.1) 2] st) [] [144,256,384] yF yD ?_ ?_;rintro _ _ ⟨⟩ ⟨_,_,_⟩ _ j m C h e
 simp only[go_sem,seval,Zb]at m;obtain ⟨⟨_,_,_,_,_,_,_⟩,_,D,_,hn⟩:=m;subst hn;have E:=WF.rowL C D;have:=ZC j;have:=ZE j;have:=Zk (ZD j) E;simp only[*,go_sem,seval];refine ZPO h fun _ F h=>Zd (s_FindRule_ok F)<|yA ?_;refine yB h (fun _ h=>?_) fun _ h=>?_;replace h:=Zr h e;cases h;exact yD;refine yB h (fun _ h=>?_) fun _ h=>?_;replace h:=Zr h e;cases h;exact yD;obtain ⟨_,_,_,_,h⟩:=ZcM h;simp only[*,go_sem,seval];refine yB h (fun _ h=>?_) fun _ h=>?_;replace h:=Zr h e;cases h;exact yD;obtain ⟨_,_,_,_,h⟩:=ZcM h;simp only[*,go_sem,seval];refine ZPO h fun _ G h=>Zd (s_FormatCond_ok G)<|yA ?_;refine yB h (fun _ h=>?_) fun _ h=>?_;refine ZPO h fun _ H h=>Zd (s_DeepestCond_ok H)<|yA ?_;refine yB h (fun _ h=>?_) fun _ h=>?_;replace h:=Zr h e;cases h;exact yD;exact yR h [0,1,2];replace h:=Zr h e;cases h;exact yD;rintro ⟨⟩ ⟨_,_,_⟩ o _ h;simp only[go_sem,seval,Zb]at o
 obtain ⟨⟨_,_,_,_,_,_,_⟩,_,_,_,hn⟩:=o;subst hn;have:=ZB (b.1.length);simp only[*,go_sem,seval];refine ZPO h fun _ I h=>Zd (i_ExplainFact_ok I)<|yA ?_;refine ZPO h fun _ J h=>Zd (s_IsFact_ok J) ?_;iterate 2 (cases h;exact yD)
 refine yB h (fun _ h=>?_) fun _ h=>?_;refine Zh h (fun i _ st=>IV [(3,yM (yW a.1)),(4,yM (yT a.2.1)),(5,.bp 0 0),(6,.p false [.row 1]),(8,.p false [.row 2]),(9,yM (.bool d.2)),(10,yL i)] [zD 53 (eFact a.2.2),.row 73 3 (A0 eMiss b.1) 2,.row 53 2 (A0 eFact d.1) 2] st) [] [144,256,384] yF yD ?_ ?_;rintro _ _ ⟨⟩ ⟨_,_,_⟩ _ k q K h f;simp only[go_sem,seval,Zb]at q;obtain ⟨⟨_,_,_,_,_,_,_⟩,_,L,_,hn⟩:=q;subst hn;have M:=WF.rowL K L;have:=ZC k;have:=ZE k;have:=Zk (ZD k) M;simp only[*,go_sem,seval];refine ZPO h fun _ N h=>Zd (s_FindRule_ok N)<|yA ?_;refine yB h (fun _ h=>?_) fun _ h=>?_;replace h:=Zr h f;cases h;exact yD;refine yB h (fun _ h=>?_) fun _ h=>?_;replace h:=Zr h f;cases h;exact yD;obtain ⟨_,_,_,_,h⟩:=ZcM h;simp only[*,go_sem,seval];refine yB h (fun _ h=>?_) fun _ h=>?_;replace h:=Zr h f;cases h;exact yD;obtain ⟨_,_,_,_,h⟩:=ZcM h;simp only[*,go_sem,seval]
 refine ZPO h fun _ O h=>Zd (s_FormatCond_ok O)<|yA ?_;refine yB h (fun _ h=>?_) fun _ h=>?_;refine ZPO h fun _ P h=>Zd (s_DeepestCond_ok P)<|yA ?_;refine yB h (fun _ h=>?_) fun _ h=>?_;replace h:=Zr h f;cases h;exact yD;exact yR h [0,1,2];replace h:=Zr h f;cases h;exact yD;rintro ⟨⟩ ⟨_,_,_⟩ t _ h;simp only[go_sem,seval,Zb]at t;obtain ⟨⟨_,_,_,_,_,_,_⟩,_,_,_,hn⟩:=t;subst hn;have:=ZB (b.1.length);simp only[*,go_sem,seval];refine ZPO h fun _ Q h=>Zd (i_ExplainFact_ok Q)<|yA ?_;refine ZPO h fun _ R h=>Zd (s_IsFact_ok R) ?_;iterate 2 (cases h;exact yD)
 refine yB h (fun _ h=>?_) fun _ h=>?_;refine Zh h (fun i _ st=>IV [(3,yM (yW a.1)),(4,yM (yT a.2.1)),(5,.bp 0 0),(6,.p false [.row 1]),(8,.p false [.row 2]),(9,yM (.bool d.2)),(10,yL i)] [zD 53 (eFact a.2.2),.row 73 3 (A0 eMiss b.1) 2,.row 53 2 (A0 eFact d.1) 2] st) [] [144,256,384] yF yD ?_ ?_;rintro _ _ ⟨⟩ ⟨_,_,_⟩ _ l u S h g;simp only[go_sem,seval,Zb]at u;obtain ⟨⟨_,_,_,_,_,_,_⟩,_,T,_,hn⟩:=u;subst hn;have U:=WF.rowL S T;have:=ZC l;have:=ZE l;have:=Zk (ZD l) U;simp only[*,go_sem,seval];refine ZPO h fun _ V h=>Zd (s_FindRule_ok V)<|yA ?_;refine yB h (fun _ h=>?_) fun _ h=>?_;replace h:=Zr h g;cases h;exact yD;refine yB h (fun _ h=>?_) fun _ h=>?_;replace h:=Zr h g;cases h;exact yD;obtain ⟨_,_,_,_,h⟩:=ZcM h;simp only[*,go_sem,seval];refine yB h (fun _ h=>?_) fun _ h=>?_;replace h:=Zr h g;cases h;exact yD;obtain ⟨_,_,_,_,h⟩:=ZcM h;simp only[*,go_sem,seval]
 refine ZPO h fun _ W h=>Zd (s_FormatCond_ok W)<|yA ?_;refine yB h (fun _ h=>?_) fun _ h=>?_;refine ZPO h fun _ X h=>Zd (s_DeepestCond_ok X)<|yA ?_;refine yB h (fun _ h=>?_) fun _ h=>?_;replace h:=Zr h g;cases h;exact yD;exact yR h [0,1,2];replace h:=Zr h g;cases h;exact yD;rintro ⟨⟩ ⟨_,_,_⟩ v _ h;simp only[go_sem,seval,Zb]at v;obtain ⟨⟨_,_,_,_,_,_,_⟩,_,_,_,hn⟩:=v;subst hn;have:=ZB (b.1.length);simp only[*,go_sem,seval];refine ZPO h fun _ Y h=>Zd (i_ExplainFact_ok Y) ?_;iterate 2 (cases h;exact yD)
end
section
open Go.RowKit Go.Deep
def ZjE {α:Type}(P:Program) (t:TypeId) (c:Yh α) (wf:α->Prop):Prop:=
 ∀{H:Type} {enc:TypeId×Value->H} {w:World} {base:Nat} {spare:Nat->Bool} {held:Bool} {fuel:Nat} {cs:List Value} {x:DataW H×List MemPlace},
  DataW.trod enc P w base spare held fuel t cs=some x->∃d L,c.rep w cs d L/\wf d
theorem ZOJ {P:Program}{t:TypeId}(ht:P.underlying t=some (.int .u8)):ZjE P t ZPt (fun n=>0<=n/\n<=255):=by
 intro H enc w base spare held fuel cs x h;obtain ⟨n,rfl,_,hw⟩:=DataW.trod_int ht h;refine ⟨n,[],⟨rfl,rfl⟩,?_⟩;simp [Lit.wf,IntKind.min,IntKind.max,IntKind.signed,IntKind.bits]at hw;exact ⟨yE,yE⟩
theorem Zal {α:Type}{c:Yh α}{wf:α->Prop}{P:Program}{t e:TypeId}(ht:P.underlying t=some (.slice e)) (hc:P.cellsOf e=c.size) (ho:ZjE P e c wf):ZjE P t (Zw c) (fun ds=>∀d∈ds,wf d):=by
 intro H enc w base spare held fuel cs x h;rcases open_slice ht h with ⟨rfl,_⟩|⟨a,len,cap,m,n,D,Pl,rfl,hb,hl,hm,l,_,hx⟩
 .exact ⟨[],[],⟨none,0,rfl,Nat.le_refl _,Nat.zero_le _,Sli.nil _ _⟩,yG⟩
 .have hlm:len<=m:=by rw [l];split<;>omega
  have key:∀q,q<=len->∃(xs:List Value) (ds:List α) (L:List Nat),ds.length=q/\(∀j u,xs[j]?=some u->w.cell? (a.add j)=some u)/\c.reps w xs ds L/\∀d∈ds,wf d:=by
   intro q;induction q with
   |zero=>exact fun _=>⟨[],[],[],rfl,yG,⟨rfl,rfl⟩,yG⟩
   |succ q ih=>
    intro hq;obtain ⟨xs,ds,L,hd,f,hr,i⟩:=ih yE;obtain ⟨o,h1,h2⟩:=hx q yE;obtain ⟨d,Lq,k,p⟩:=ho h2;obtain ⟨_,hlen,v⟩:=World.cells?_some h1;refine ⟨xs++o,ds++[d],L++Lq,by simp [hd],fun j u hu=>?_,Zbv hr (ZcK k),?_⟩
    .have g:xs.length=q*c.size:=by rw [ZhJ hr,hd]
     rw [List.getElem?_append]at hu;split at hu
     .exact f j u hu
     .rename_i hj;have hj2:=(List.getElem?_eq_some_iff.1 hu).1;have:=v (j-xs.length) yE;rw [<-hu,<-this,Go.Deep.add_add,hc,<-g];congr 2
      omega
    .intro y hy;rcases List.mem_append.1 hy with hy|hy
     .exact i y hy
     .simp at hy;subst hy;exact p
  obtain ⟨xs,ds,L,hd,f,hr,i⟩:=key len (Nat.le_refl _);have g:=ZhJ hr;rcases Nat.eq_zero_or_pos len with h0|h0
  .have:ds=[]:=List.eq_nil_of_length_eq_zero yE;subst this;refine ⟨[],[],⟨some a,cap,by simp at hd;rw [<-hd];rfl,yG,hm,Sli.nil _ _⟩,yG⟩
  .obtain ⟨b,off,sp⟩:=a;have hp:0<xs.length:=by rw [g,hd];exact Nat.mul_pos h0 c.pos
   have z:sp=none:=by
    have h1:=f 0 _ (List.getElem?_eq_getElem hp);have e:(⟨b,off,sp⟩:Addr).add 0=⟨b,off,sp⟩:=by simp [Addr.add]
    rw [e]at h1;cases sp with
    |none=>rfl
    |some q=>
     simp only[World.cell?]at h1;split at h1<;>simp at h1
   subst z;refine ⟨ds,[b]++L,⟨some ⟨b,off,none⟩,cap,by rw [hd],yE,hm,xs,[b],L,rfl,⟨by rw [g],.inr ⟨yE,b,off,rfl,rfl,fun j u hu=>?_⟩⟩,hr⟩,i⟩;have:=f j u hu
   rwa [ZbY]at this
end
section
open Go.RowKit
theorem ZN9 (w:World) (hJ:J0 w) (A:Option Addr) (c:Nat) (a:List Int) (L:List Nat) (h:(Zw ZPt).rep w [.slice A a.length c] a L):
  Calls Tryz.prog 6 #[.slice A a.length c] w (fun e w'=>e=.returned (.bool true)/\Below w.heap.size w w'):=
 Sound.givesB (ZN3 (FnMissed_plain a)) hJ (vs:=[_]) ⟨arg_sl encByte _ h,trivial⟩
end
section
open Go.Lib
theorem ZoN {H:Type}{f:TypeId×Value->H}{P:Program}{w:World}{base:Nat}{sp:Nat->Bool}{c:Bool}{a:Nat}{t e:TypeId}{n:Nat}{cs:List Value}{ss:List (List UInt8)}{p:List MemPlace}
  (ht:P.underlying t=some (.array n e)) (he:P.underlying e=some .string) (g:P.cellsOf e=1) (j:P.cellsOf t=n)
  (h:DataW.trod f P w base sp c a t cs=some (.agg (ss.map fun s=>.lit (.string s)),p)):cs=ss.map fun s=>Value.string (ofL s):=by
 cases a with
 |zero=>simp [DataW.trod]at h
 |succ a=>
  simp only[DataW.trod,ht,g,j,Nat.mul_one]at h;split at h
  .rename_i hl;obtain ⟨xs,hm,hx⟩:=A4.1 h;have d:xs.map (·.1)=ss.map fun s=>(DataW.lit (.string s):DataW H):=by
    have:=congrArg Prod.fst hx;simpa using this
   have hxl:xs.length=n:=by simpa using mapM_length hm
   have hzl:ss.length=n:=by
    have:=congrArg List.length d;simp at this;omega
   apply List.ext_getElem?;intro i;by_cases hi:i<n
   .obtain ⟨b,hb,hf⟩:=mapM_at hm i i (by simp [hi]);obtain ⟨s,hc,rfl,_⟩:=DataW.trod_string he hf;have h1:cs[i]?=some (.string s):=by
     have:=congrArg (·[0]?) hc;simpa [List.getElem?_take,List.getElem?_drop]using this
    have h2:(xs.map (·.1))[i]?=some (DataW.lit (.string s.data.toList):DataW H):=by simp [hb]
    rw [d]at h2;simp only[List.getElem?_map,A4,DataW.lit.injEq,Lit.string.injEq]at h2;obtain ⟨s',k,rfl⟩:=h2;have e:ofL s.data.toList=s:=by unfold ofL;simp
    simp [h1,k,e]
   .rw [A5 yE,A5 (by simp;omega)]
  .cases h
theorem ZqK {P:Program}{W:World}{a:String}{ss:List (List UInt8)}{b:List (String×DataW Unit)}{g:Nat}{t e:TypeId}{n:Nat}
  (hg:P.globalNamed a=some g) (d:(P.globals[g]?).map (·.type)=some t) (ht:P.underlying t=some (.array n e)) (he:P.underlying e=some .string) (f:P.cellsOf e=1) (i:P.cellsOf t=n)
  (h:laidMet P ((a,.agg (ss.map fun s=>.lit (.string s)))::b) W):W.var? P a=some (ss.map fun s=>Value.string (ofL s)).toArray:=by
 obtain ⟨ps,⟨g',t',cs,fuel,p,q,j,k,c,hd,_,_⟩,_⟩:=h;obtain rfl:=A3 (hg.symm.trans j);obtain rfl:=A3 (d.symm.trans k);rw [c,<-ZoN ht he f i hd]
end
end Go.Proofs.YtlpkbfjcdaanmaaGreatDoor
