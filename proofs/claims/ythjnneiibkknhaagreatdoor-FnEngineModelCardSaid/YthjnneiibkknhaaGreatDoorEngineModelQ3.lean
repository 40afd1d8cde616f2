/- Texts of this proof, joined: F4, P14, R14, S14, F6, F7, K1, K3, U14, K4, K7, K9, K10, KB, KC, KD, KA, M13, P13, F8, S15, S16, S17, L13C, Q11, R11, S18. What each holds is said at its theorems. -/
import Derived.Test.YthjnneiibkknhaaGreatDoorEngineModelQ2
import Derived.Test.YthjnneiibkknhaaGreatDoorEngineModelQ1
open Array renaming range→BJ
open Bool renaming and_eq_true→A4,eq_iff_iff→AC,false_eq_true→AO,true_and→Ag,false_or→Ah,not_true→Av,or_eq_true→B9
open Int renaming le_trans→AU,le_refl→AW,toNat_natCast→Al,toNat→An,toNat_of_nonneg→Au
open List renaming mem_append→A5,mem_cons→A6,getElem?_eq_getElem→A9,length_cons→AA,mem_of_getElem?→AD,getElem?_eq_some_iff→AE,length_append→AF,mem_flatMap→AG,mem_filterMap→AH,mem_singleton→AI,all_eq_true→AJ,mem_map→AK,range→AL,length_map→AN,foldl_cons→AP,pairwise_cons→AR,getElem?_eq_none→AT,foldl_append→AX,countP_cons→AZ,getElem?_append_left→Ab,length_singleton→Ac,map_cons→Ad,mem_range→Ae,flatMap_append→Ai,any_eq_true→Ak,nil_append→Am,eq_nil_of_length_eq_zero→Ao,mem_filter→Ap,length_filter_le→Aq,flatMap_cons→Ar,ext_getElem?→As,countP_eq_zero→At,countP_le_length→Aw,nodup_cons→Ay,filter_cons_of_neg→Az,filter_cons_of_pos→B1,dropLast_concat_getLast→B2,getElem?_of_mem→B3,filterMap_cons→B4,map_append→B6,getElem?_set→B7,length_nil→BB,length_filterMap_le→BC,take_length→BE,pairwise_iff_getElem→BF,take_append_of_le_length→BG,getElem_of_mem→BH,mem_cons_of_mem→BI,pairwise_singleton→BK,mergeSort_perm→BL,filter_cons→BM,map_flatMap→BN,set_cons_succ→BO
open List.Pairwise renaming nil→Aj
open Nat renaming zero_add→AB,le_trans→AS,le_refl→Aa,zero_le→Ax,add_sub_cancel→B8
open Option renaming bind_some→A0,map_eq_some_iff→AY,isSome_some→BD
open Option.some renaming inj→AQ
open Prod renaming fst→B5
set_option linter.unusedSimpArgs false
set_option linter.unusedVariables false
set_option maxRecDepth 1000000
set_option maxHeartbeats 4000000
namespace Go.Proofs.YthjnneiibkknhaaGreatDoor
noncomputable section
def Zgr (b:List Zs) (i:Nat):Option ByteArray:=if i=0 then none else (b[i - 1]?).map (·.var)
theorem Zlb {b:List Zs}{body:Nat->Zs->Unit->Option (Unit ⊕ Bool)}{fin:Unit->Option Bool}(d:∀i x,b[i]?=some x->body i x ()=if (Zgp x&&Zjj (Zgr b i) x.var)=true then some (.inl ()) else some (.inr false)):
  ∀(l:List Zs) (i:Nat),b.drop i=l->Zm body fin l i ()=if YV (Zgr b i) l=true then fin () else some false
 | [],i,_=>by simp [Zm,YV]
 |x::l,i,h=>by
  have c:b[i]?=some x:=by rw [<-List.head?_drop,h];rfl
  have u:b.drop (i+1)=l:=by rw [<-List.tail_drop,h];rfl
  have j:Zgr b (i+1)=some x.var:=by unfold Zgr;rw [if_neg yE,B8,c];rfl
  by_cases a:(Zgp x&&Zjj (Zgr b i) x.var)=true
  .rw [ZQ (by rw [d i x c,if_pos a]),Zlb d l (i+1) u,j];simp only[YV,a,Ag]
  .rw [Z4 (by rw [d i x c,if_neg a])];simp only[YV,eq_false_of_ne_true a,Bool.false_and,AO,if_false]
theorem Zqq {b:List Zs}(j:b.length<=1048576) {i:Nat}{x:Zs}(d:b[i]?=some x):
  (if Yw x.var=true then (if ZS x.value=true then (if (decide (0<(i:Int)))=true then (atI b (IntKind.i64.wrap ((i:Int) - 1))).bind λa=>if (sLt a.var x.var)=true then some (.inl ()) else some (.inr false) else some (.inl ())) else some (.inr false)) else some (.inr false):Option (Unit ⊕ Bool))
   = if (Zgp x&&Zjj (Zgr b i) x.var)=true then some (.inl ()) else some (.inr false):=by
 have hi:=(AE.1 d).1;unfold Zgp;cases Yw x.var with
 |false=>simp
 |true=>
  cases ZS x.value with
  |false=>simp
  |true=>
   rw [if_pos rfl,if_pos rfl];by_cases c:i=0
   .subst c;rw [if_neg yG];simp [Zgr,Zjj]
   .have h:Zgr b i=some (b[i - 1]).var:=by unfold Zgr;rw [if_neg c,A9 yE];rfl
    rw [if_pos (by simp;omega),show (i:Int) - 1=((i - 1:Nat):Int) by omega,ZeY yE yE,Y3,A9 yE,A0,h];simp [Zjj]
theorem ZaD (b:List Zs):Qd b=some (Yb b):=by
 unfold Qd Yb;by_cases a:b.length<=6
 .rw [if_neg (by simp;omega),Zlb (b:=b) (λi x c=>by
   rw [Zd2,A0,X5];exact Zqq yE c) b 0 rfl,decide_eq_true a]
  show (if YV none b=true then some true else some false)=_
  cases YV none b<;>rfl
 .rw [if_pos (by simp;omega),decide_eq_false a];rfl
theorem ZaC (b:List Zs) (c:b.length<=1048576):X6 b=some (Yb b):=by
 unfold X6 Yb;rw [Zlb (b:=b) (λi x a=>by
   rw [ZaK,A0,QO];exact Zqq c a) b 0 rfl]
 show (if YV none b=true then some (decide ((b.length:Int)<=6)) else some false)=_
 have:decide ((b.length:Int)<=6)=decide (b.length<=6):=by rw [AC];simp;omega
 rw [this];cases YV none b<;>simp
def ZBY (b:List Zs) (t:ByteArray):ByteArray×Bool:=match Qk b t with|some v=>(v,true)|none=>(⟨#[]⟩,false)
def Zzn:Option ByteArray->ByteArray×Bool
 |some v=>(v,true)
 |none=>(⟨#[]⟩,false)
theorem ZcQ (b:List Zs) (t:ByteArray):ZBY b t=Zzn (Qk b t):=by unfold ZBY Zzn;cases Qk b t<;>rfl
theorem Znc {t:ByteArray}{body:Nat->Zs->Unit->Option (Unit ⊕ (ByteArray×Bool))}(c:∀i x,body i x ()=if x.var=t then some (.inr (x.value,true)) else some (.inl ())):
  ∀(b:List Zs) (i:Nat),Zm body (λ_=>some ((⟨#[]⟩),false)) b i ()=some (Zzn (Zah b t))
 | [],_=>rfl
 |x::b,i=>by
  by_cases a:x.var=t
  .rw [Z4 (by rw [c,if_pos a])];simp [Zah,a,Zzn]
  .rw [ZQ (by rw [c,if_neg a]),Znc c b (i+1)];simp [Zah,a]
theorem ZdL (b:List Zs) (t:ByteArray):ZbG b t=some (ZBY b t):=by
 unfold ZbG;rw [ZcQ,X5,A0];unfold Qk;by_cases d:ZS t=true
 .rw [if_pos d,if_pos d];rfl
 .rw [if_neg d,if_neg d,Zd2,A0];by_cases c:Yw t=true
  .rw [if_pos c,if_pos c,Znc];intro i x;by_cases a:x.var=t
   .rw [if_pos (ZP.2 a),if_pos a]
   .rw [if_neg (by rw [ZP];exact a),if_neg a]
  .rw [if_neg c,if_neg c];rfl
theorem ZdH (b:List Zs) (t:ByteArray):ZbK b t=some (ZBY b t):=by
 unfold ZbK;rw [ZcQ,QO,A0];unfold Qk;by_cases d:ZS t=true
 .rw [if_pos d,if_pos d];rfl
 .rw [if_neg d,if_neg d];by_cases c:Yw t=true
  .rw [if_pos c,Znc];intro i x;by_cases a:x.var=t
   .rw [if_pos (ZP.2 a),if_pos a,ZaK,A0,if_pos c]
   .rw [if_neg (by rw [ZP];exact a),if_neg a]
  .rw [if_neg c,Z1 (p:=λ_=>true) (r:=((⟨#[]⟩:ByteArray),false))]
   .simp [Zzn]
   .intro i x _;rw [ZaK,A0,if_neg c];split<;>rfl
theorem Zss {a v:ByteArray}:((sLt a v||sEq a v)=true)↔¬sLt v a=true:=by
 rw [B9,ZP];constructor
 .rintro (h|h)
  .rw [Zk8 h];simp
  .rw [h,Zjq];simp
 .intro h;by_cases e:a=v
  .exact .inr e
  .exact .inl (ZfQ (by simpa using h) (λc=>e c.symm))
theorem ZtZ {ρ:Type}{v w:ByteArray}{K:List Zs->Option ρ}{body:Nat->Zs->(List Zs×Bool)->Option ((List Zs×Bool) ⊕ ρ)}{fin:(List Zs×Bool)->Option ρ}
  (A:∀i x row,row.length<=1000->body i x (row,true)=some (.inl (row++[x],true)))
  (u:∀i x row,row.length<=1000->body i x (row,false)=if (sLt x.var v||sEq x.var v)=true then some (.inl (row++[x],false)) else some (.inl ((row++[{ var:=v,value:=w }])++[x],true)))
  (j:∀row,row.length<=1000->fin (row,true)=K row) (h:∀row,row.length<=1000->fin (row,false)=K (row++[{ var:=v,value:=w }])) (b:List Zs) (B:b.length<=100):Zm body fin b 0 ([],false)=K (Zge b v w):=by
 rw [Za9 (λl _ s=>K (s.1++(if s.2=true then l else Zge l v w))) (λl _ s=>s.1.length+2*l.length<=900) ?_ ?_ b 0 ([],false) (by simp;omega)]
 .simp
 .rintro i ⟨row,a⟩ d;simp only[BB]at d;cases a with
  |true=>rw [j row yE];simp
  |false=>rw [h row yE];simp [Zge]
 .rintro x l i ⟨row,a⟩ d;simp only[AA]at d;left
  cases a with
  |true=>exact ⟨_,A i x row yE,by simp;omega,yG⟩
  |false=>
   rw [u i x row yE];by_cases c:sLt v x.var=true
   .rw [if_neg (by rw [Zss];simpa using c)];exact ⟨_,rfl,by simp;omega,by simp [Zge,c]⟩
   .rw [if_pos (Zss.2 c)];exact ⟨_,rfl,by simp;omega,by simp [Zge,c]⟩
def ZlH:Option (List Zs)->List Zs×Bool
 |some b=>(b,true)
 |none=>([],false)
theorem Zif {b:List Zs}{v w:ByteArray}(h:¬(Yb b=true/\Yw v=true/\ZS w=true)):ZlH (ZhP b v w)=([],false):=by
 unfold ZhP;rw [if_neg h];rfl
theorem ZjQ {b:List Zs}{v w:ByteArray}(h:Yb b=true) (d:Yw v=true) (c:ZS w=true):ZhP b v w=match Zah b v with|some a=>if a=w then some b else none|none=>if b.length=6 then none else some (Zge b v w):=by
 unfold ZhP;exact if_pos ⟨h,d,c⟩
theorem ZaI {b:List Zs}(h:Yb b=true):b.length<=6:=by
 unfold Yb at h;rw [A4,decide_eq_true_iff]at h;exact h.1
theorem Zte (b:List Zs) (v w:ByteArray):Zhf b v w=some (ZlH (ZhP b v w)):=by
 unfold Zhf;rw [ZaD,A0];by_cases d:Yb b=true
 .rw [if_pos d,Zd2,A0];by_cases c:Yw v=true
  .rw [if_pos c,X5,A0];by_cases j:ZS w=true
   .have h6:=ZaI d;rw [if_pos j,ZdL,A0,ZcQ,Zjw c];cases hg:Zah b v with
    |some a=>
     have A:ZhP b v w=if a=w then some b else none:=by rw [ZjQ d c j,hg]
     rw [A];show (if true=true then (if sEq a w=true then _ else _) else _)=_
     rw [if_pos rfl];by_cases u:a=w
     .rw [if_pos (ZP.2 u),if_pos u];unfold QI;rw [Zi _ yE];rfl
     .rw [if_neg (by rw [ZP];exact u),if_neg u];rfl
    |none=>
     have A:ZhP b v w=if b.length=6 then none else some (Zge b v w):=by rw [ZjQ d c j,hg]
     rw [A];show (if false=true then _ else _)=_
     rw [if_neg yG];by_cases C:b.length=6
     .rw [if_pos (by simp;omega),if_pos C];rfl
     .rw [if_neg (by simp;omega),if_neg C];refine ZtZ (K:=λr=>some (r,true)) (λi x row B=>?_) (λi x row B=>?_) (λrow B=>?_) (λrow B=>?_) b yE
      .show (if true=true then _ else _)=_
       rw [if_pos rfl,Zi _ yE]
      .show (if false=true then _ else _)=_
       rw [if_neg yG];split
       .rw [Zi _ yE]
       .rw [Zi _ yE,Zi _ yE]
      .show (if true=true then _ else _)=_
       rw [if_pos rfl]
      .show (if false=true then _ else _)=_
       rw [if_neg yG,Zi _ yE]
   .rw [if_neg j,Zif (λh=>j h.2.2)]
  .rw [if_neg c,Zif (λh=>c h.2.1)]
 .rw [if_neg d,Zif (λh=>d h.1)]
theorem ZuO (b:List Zs) (v w:ByteArray) (c:b.length<=100):Zky b v w=some (Zge b v w):=by
 unfold Zky;refine ZtZ (K:=λr=>some r) (λi x row a=>?_) (λi x row a=>?_) (λrow a=>?_) (λrow a=>?_) b c
 .show (if true=true then _ else _)=_
  rw [if_pos rfl,Zi _ yE]
 .show (if false=true then _ else _)=_
  rw [if_neg yG];split
  .rw [Zi _ yE]
  .rw [Zi _ yE,Zi _ yE]
 .show (if true=true then _ else _)=_
  rw [if_pos rfl]
 .show (if false=true then _ else _)=_
  rw [if_neg yG,Zi _ yE]
theorem Zto (b:List Zs) (v w:ByteArray) (B:b.length<=1048576):ZhG b v w=some (ZlH (ZhP b v w)):=by
 unfold ZhG;rw [ZaC b B,A0];by_cases d:Yb b=true
 .rw [if_pos d,ZaK,A0];by_cases c:Yw v=true
  .rw [if_pos c,QO,A0];by_cases j:ZS w=true
   .have h6:=ZaI d;rw [if_pos j,ZdH,A0,ZcQ,Zjw c];cases hg:Zah b v with
    |some a=>
     have x:ZhP b v w=if a=w then some b else none:=by rw [ZjQ d c j,hg]
     rw [x];show (if true=true then (if sEq a w=true then _ else _) else _)=_
     rw [if_pos rfl];by_cases u:a=w
     .rw [if_pos (ZP.2 u),if_pos u];unfold Zc9;rw [Zi _ yE];rfl
     .rw [if_neg (by rw [ZP];exact u),if_neg u];rfl
    |none=>
     have x:ZhP b v w=if b.length=6 then none else some (Zge b v w):=by rw [ZjQ d c j,hg]
     rw [x];show (if false=true then _ else _)=_
     rw [if_neg yG];by_cases A:b.length=6
     .rw [if_pos (by simp;omega),if_pos A];rfl
     .rw [if_neg (by simp;omega),if_neg A,ZuO _ _ _ yE];rfl
   .rw [if_neg j,Zif (λh=>j h.2.2)]
  .rw [if_neg c,Zif (λh=>c h.2.1)]
 .rw [if_neg d,Zif (λh=>d h.1)]
theorem Zgi {fa:List ByteArray}{body:Nat->ByteArray->List Zs->Option (List Zs ⊕ (List Zs×Bool))}
  (c:∀i a w row,fa[i]?=some w->Yb row=true->body i a row=if ZS a=true then (if a=w then some (.inl row) else some (.inr ([],false))) else (match ZhP row a w with|some r=>some (.inl r)|none=>some (.inr ([],false)))):
  ∀(l:List ByteArray) (i:Nat) (row:List Zs),i+l.length=fa.length->Yb row=true->Zm body (λrow=>some (row,true)) l i row=some (ZlH (Zfh l (fa.drop i) row))
 | [],i,row,_,_=>by simp [Zm,Zfh,ZlH]
 |a::l,i,row,h,hr=>by
  simp only[AA]at h;have j:i<fa.length:=by omega
  have v:fa[i]?=some fa[i]:=A9 j;rw [List.drop_eq_getElem_cons j];simp only[Zfh];have e:=c i a _ row v hr;by_cases u:ZS a=true
  .rw [if_pos u]at e ⊢;by_cases d:a=fa[i]
   .rw [if_pos d]at e ⊢;rw [ZQ e];exact Zgi c l (i+1) row yE hr
   .rw [if_neg d]at e ⊢;rw [Z4 e];rfl
  .rw [if_neg u]at e ⊢;cases hx:ZhP row a fa[i]with
   |none=>
    rw [hx]at e;rw [Z4 e];rfl
   |some r=>
    rw [hx]at e;rw [ZQ e,A0];exact Zgi c l (i+1) r yE (ZwG hx).1
theorem Zg6 (p:Zv) (f:Zd) (b:List Zs):ZbF p f b=some (ZlH (ZbA p f b)):=by
 unfold ZbF ZbA Zhv;rw [Zb9,A0];cases h1:Z5 p with
 |false=>rfl
 |true=>
  rw [if_pos rfl,QK,A0];cases h2:Ya f with
  |false=>rfl
  |true=>
   rw [if_pos rfl,ZaD,A0];cases h3:Yb b with
   |false=>rfl
   |true=>
    rw [if_pos rfl];by_cases d:p.rel=f.rel
    .rw [if_pos (ZP.2 d),decide_eq_true d];by_cases h:p.args.length=f.args.length
     .have h6:=ZaI h3;rw [if_neg (by simp;omega),decide_eq_true h];unfold QI;rw [Zi _ yE,A0];rw [Zgi (fa:=f.args) (λi a w row j u=>?_) p.args 0 b yE h3]
      .rfl
      .rw [X5,A0,Y3,j,A0,A0];split
       .by_cases c:a=w
        .rw [if_pos (ZP.2 c),if_pos c]
        .rw [if_neg (by rw [ZP];exact c),if_neg c]
       .rw [Zte,A0];cases ZhP row a w<;>rfl
     .rw [if_pos (by simp;omega),decide_eq_false h];rfl
    .rw [if_neg (by rw [ZP];exact d),decide_eq_false d];rfl
theorem Zhp (p:Zv) (f:Zd) (b:List Zs) (v:b.length<=1048576):ZbP p f b=some (ZlH (ZbA p f b)):=by
 unfold ZbP ZbA Zhv;rw [ZaB,A0];cases h1:Z5 p with
 |false=>rfl
 |true=>
  rw [if_pos rfl,Zlp,A0];cases h2:Ya f with
  |false=>rfl
  |true=>
   rw [if_pos rfl,ZaC b v,A0];cases h3:Yb b with
   |false=>rfl
   |true=>
    rw [if_pos rfl];by_cases d:p.rel=f.rel
    .rw [if_pos (ZP.2 d),decide_eq_true d];by_cases h:p.args.length=f.args.length
     .have h6:=ZaI h3;rw [if_neg (by simp;omega),decide_eq_true h];unfold Zc9;rw [Zi _ yE,A0];rw [Zgi (fa:=f.args) (λi a w row j u=>?_) p.args 0 b yE h3]
      .rfl
      .have hr6:=ZaI u;rw [QO,A0,Y3,j,A0,A0];split
       .by_cases c:a=w
        .rw [if_pos (ZP.2 c),if_pos c]
        .rw [if_neg (by rw [ZP];exact c),if_neg c]
       .rw [Zto _ _ _ yE,A0];cases ZhP row a w<;>rfl
     .rw [if_pos (by simp;omega),decide_eq_false h];rfl
    .rw [if_neg (by rw [ZP];exact d),decide_eq_false d];rfl
def XT:Option Zd->Zd×Bool
 |some f=>(f,true)
 |none=>({ rel:=⟨#[]⟩,args:=[] },false)
theorem ZqA {b:List Zs} {rel:ByteArray} {body:Nat→ByteArray→List ByteArray→Option (List ByteArray ⊕ (Zd × Bool))} (c:∀i a row,row.length≤1048576→body i a row=match Qk b a with | some v=>some (.inl (row++[v])) | none=>some (.inr ({ rel:=⟨#[]⟩,args:=[] },false))) (l:List ByteArray) (h:l.length≤1000000):
  Zm body (λrow=>some ({ rel:=rel,args:=row },true)) l 0 []=some (XT ((Zf3 l b).map λl=>{ rel:=rel,args:=l })):=by
 rw [Za9 (λl _ row=>some (XT ((Zf3 l b).map λl=>{ rel:=rel,args:=row++l }))) (λl _ row=>row.length+l.length≤1048576) ?_ ?_ l 0 [] (by simp;omega)]
 ·simp
 ·intro i row _
  simp [Zf3,XT]
 ·intro a l i row d
  simp only[AA] at d;have e:=c i a row (by omega);cases hv:Qk b a with
  | none=>
   rw [hv] at e;exact .inr ⟨_,e,by simp [Zf3,hv,XT]⟩
  | some v=>
   rw [hv] at e;refine .inl ⟨_,e,by simp;omega,?_⟩;simp only[Zf3,hv,A0,Option.map_map];cases Zf3 l b<;>simp
theorem ZcK (p:Zv) (b:List Zs):Xi p b=some (XT (Xc p b)):=by
 unfold Xi Xc;rw [Zb9,A0];cases h1:Z5 p with
 |false=>rfl
 |true=>
  rw [if_pos rfl,ZaD,A0];cases h3:Yb b with
  |false=>rfl
  |true=>
   have d:p.args.length<=3:=by unfold Z5 at h1;simp at h1;exact h1.1.2
   rw [if_pos rfl,if_pos ⟨rfl,rfl⟩,ZqA (b:=b) (λi a row c=>?_) p.args yE];rw [ZdL,A0,ZcQ];cases Qk b a with
   |none=>rfl
   |some v=>
    show (if true=true then _ else _)=_
    rw [if_pos rfl,Zi _ yE];rfl
theorem ZiT (p:Zv) (b:List Zs) (c:b.length<=1048576):XO p b=some (XT (Xc p b)):=by
 unfold XO Xc;rw [ZaB,A0];cases h1:Z5 p with
 |false=>rfl
 |true=>
  rw [if_pos rfl,ZaC b c,A0];cases h3:Yb b with
  |false=>rfl
  |true=>
   have h:p.args.length<=3:=by unfold Z5 at h1;simp at h1;exact h1.1.2
   rw [if_pos rfl,if_pos ⟨rfl,rfl⟩,ZqA (b:=b) (λi a row d=>?_) p.args yE];rw [ZdH,A0,ZcQ];cases Qk b a with
   |none=>rfl
   |some v=>
    show (if true=true then _ else _)=_
    rw [if_pos rfl,Zi _ yE];rfl
theorem Zgs (o:Option (List Zs)):(ZlH o).2=o.isSome:=by cases o<;>rfl
theorem Zd8 (p:Zv) (b:List Zs) (F:List Zd) (h:F.length<=1048576) (d:∀f∈F,f.args.length<=1048576):X0 p b F=some (ZdR p b F):=by
 unfold X0 ZdR;rw [Ze5 (p:=λf=>(ZbA p f b).isSome)]
 .simp
 .intro j f s a c;rw [Zg6,A0,Zgs];split
  .rw [Z6 f (d f a),A0,Zi _ (by simp at c;omega)]
  .rfl
theorem ZeU (p:Zv) (b:List Zs) (F:List Zd) (d:b.length<=1048576) (u:F.length<=1048576) (h:∀f∈F,f.args.length<=1048576):X1 p b F=some (ZdR p b F):=by
 unfold X1 ZdR;rw [Ze5 (p:=λf=>(ZbA p f b).isSome)]
 .simp
 .intro j f s a c;rw [Zhp _ _ _ d,A0,Zgs];split
  .rw [Xx f (h f a),A0,Zi _ (by simp at c;omega)]
  .rfl
theorem Zn2 (x:Zp) (b:List Zs):Zdq x b=some (ZmH x b):=by
 unfold Zdq ZmH ZjJ;rw [ZhQ,A0];cases h1:Y4 x with
 |false=>rfl
 |true=>
  rw [if_pos rfl,A0];by_cases d:3<=x.kind
  .rw [if_pos (by simpa using d),ZaD,A0];cases h3:Yb b with
   |false=>simp
   |true=>
    rw [if_pos rfl,if_pos ⟨rfl,d,rfl⟩,ZdL,A0,ZdL,A0,ZcQ,ZcQ];cases Qk b x.left with
    |none=>rfl
    |some l=>
     cases Qk b x.right with
     |none=>rfl
     |some r=>
      show (if true=true then (if true=true then (if (x.kind==3)=true then some (sEq l r) else _) else _) else _)=some (ZtD x.kind l r)
      rw [if_pos rfl,if_pos rfl];unfold ZtD;by_cases c:x.kind=3
      .rw [if_pos (by simpa using c),if_pos c];rfl
      .rw [if_neg (by simpa using c),if_neg c];by_cases a:x.kind=4
       .rw [if_pos (by simpa using a),if_pos a];rfl
       .rw [if_neg (by simpa using a),if_neg a,ZcV,A0,ZcV,A0];show (if (Zd4 l).2=true then (if (Zd4 r).2=true then some (decide ((Zd4 l).1<(Zd4 r).1)) else some false) else some false)=_
        unfold Zd4 ZAj;cases Zaj l<;>cases Zaj r<;>simp
  .rw [if_neg (by simpa using d),if_neg (λh=>d h.2.1)]
theorem ZnL (x:Zp) (b:List Zs) (B:b.length<=1048576):Zc5 x b=some (ZmH x b):=by
 unfold Zc5 ZmH Zcc;rw [Zdm,A0];cases h1:Y4 x with
 |false=>rfl
 |true=>
  rw [if_pos rfl,A0];by_cases d:3<=x.kind
  .rw [if_pos (by simpa using d),ZaC b B,A0];cases h3:Yb b with
   |false=>simp
   |true=>
    rw [if_pos rfl,if_pos ⟨rfl,d,rfl⟩,ZdH,A0,ZdH,A0,ZcQ,ZcQ];cases Qk b x.left with
    |none=>rfl
    |some l=>
     cases Qk b x.right with
     |none=>rfl
     |some r=>
      show (if true=true then (if true=true then (if (x.kind==3)=true then some (sEq l r) else _) else _) else _)=some (ZtD x.kind l r)
      rw [if_pos rfl,if_pos rfl];unfold ZtD;by_cases c:x.kind=3
      .rw [if_pos (by simpa using c),if_pos c];rfl
      .rw [if_neg (by simpa using c),if_neg c];by_cases a:x.kind=4
       .rw [if_pos (by simpa using a),if_pos a];rfl
       .rw [if_neg (by simpa using a),if_neg a];unfold Zen;rw [Zbc,A0,A0];show (if (Zd4 l).2=true then ((Q3 r).bind λv=>some v.2).bind (λu=>if u=true then (XN l r).bind λj=>some (decide (j<0)) else some false) else some false)=_
        unfold ZAj;cases hl:Zaj l with
        |none=>simp [Zd4,hl]
        |some m=>
         rw [if_pos (by simp [Zd4,hl]),Zbc,A0,A0];cases hr:Zaj r with
         |none=>simp [Zd4,hr]
         |some n=>
          have w:decide (ZgU l r<0)=decide (m<n):=by
           have A:ZgU l r=Zl3 m n:=by unfold ZgU;rw [hl,hr]
           rw [A,AC,decide_eq_true_iff,decide_eq_true_iff];unfold Zl3;split
           .omega
           .split<;>omega
          rw [if_pos (by simp [Zd4,hr]),Ze9,A0,w]
  .rw [if_neg (by simpa using d),if_neg (λh=>d h.2.1)]
theorem Zng (x:Zp) (b:List Zs) (F:List Zd) (h:F.length<=1048576) (d:∀f∈F,f.args.length<=1048576):ZcZ x b F=some (Zeu x b F):=by
 unfold ZcZ Zeu;rw [ZhQ,A0];cases h1:Y4 x with
 |false=>rfl
 |true=>
  rw [if_pos rfl,ZaD,A0];cases h3:Yb b with
  |false=>rfl
  |true=>
   rw [if_pos rfl,if_pos (show true=true/\true=true from ⟨rfl,rfl⟩)];by_cases c:x.kind=1
   .rw [if_pos (by simpa using c),if_pos c,Zd8 _ _ _ h d,A0];congr 1
    rw [AC];simp
   .rw [if_neg (by simpa using c),if_neg c];by_cases a:x.kind=2
    .rw [if_pos (by simpa using a),if_pos a,Zd8 _ _ _ h d,A0,Zyi]
    .rw [if_neg (by simpa using a),if_neg a,Zn2];rfl
theorem ZmK (x:Zp) (b:List Zs) (F:List Zd) (d:b.length<=1048576) (j:F.length<=1048576) (h:∀f∈F,f.args.length<=1048576):Zdr x b F=some (Zeu x b F):=by
 unfold Zdr Zeu;rw [Zdm,A0];cases h1:Y4 x with
 |false=>rfl
 |true=>
  rw [if_pos rfl,ZaC b d,A0];cases h3:Yb b with
  |false=>rfl
  |true=>
   rw [if_pos rfl,if_pos (show true=true/\true=true from ⟨rfl,rfl⟩)];by_cases c:x.kind=1
   .rw [if_pos (by simpa using c),if_pos c,ZeU _ _ _ d j h,A0];congr 1
    rw [AC];simp
   .rw [if_neg (by simpa using c),if_neg c];by_cases a:x.kind=2
    .rw [if_pos (by simpa using a),if_pos a,ZeU _ _ _ d j h,A0,Zyi]
    .rw [if_neg (by simpa using a),if_neg a,ZnL _ _ d];rfl
theorem Xv {r:Zf}(h:YE r=true):r.cond.length<=4/\r.thn.length<=2:=by
 simp only[YE,A4,decide_eq_true_eq]at h;omega
def ZtP (r:Zf):Bool:=r.thn.all λa=>decide (a.kind=1)
def Zjk (r:Zf) (i:Nat) (x:Zp):Bool:=!decide (x.kind=2)||(YW x).all (YI (YP r i))
def Z3 (r:Zf):Bool:=YE r&&QG (Zjk r) r.cond 0&&ZtP r
theorem ZoU (a b:List ByteArray):ZeB a b=some (a.all (YI b)):=by
 unfold ZeB;rw [Z1 (p:=YI b) (r:=false)]
 .cases a.all (YI b)<;>rfl
 .intro i x _;rw [Y8,A0];cases YI b x<;>simp
theorem Zpr {fin:Unit->Option Bool}{l:List Zw}:Zm (σ:=Unit) (λ(_:Nat) (x:Zw) _=>if (x.kind != 1)=true then some (.inr false) else some (.inl ())) fin l 0 ()=if (l.all λa=>decide (a.kind=1))=true then fin () else some false:=by
 refine Z1 λi x _=>?_;by_cases h:x.kind=1
 .simp [h]
 .have:(x.kind != 1)=true:=by simpa using h
  simp [this,h]
theorem ZoA (r:Zf):Zeb r=some (ZtP r):=by
 unfold Zeb ZtP;rw [Zpr];cases r.thn.all λa=>decide (a.kind=1)<;>rfl
theorem Zns (r:Zf) (h:Xa r):Zc4 r=some (Z3 r):=by
 unfold Zc4 Z3;rw [ZhT r h,A0];cases hr:YE r with
 |false=>simp
 |true=>
  have h4:=(Xv hr).1;simp only[if_true,Ag];rw [Xf (p:=Zjk r) (r:=false),Zpr]
  .unfold ZtP;cases QG (Zjk r) r.cond 0<;>cases r.thn.all λa=>decide (a.kind=1)<;>simp
  .intro j x d;rw [AB,ZcP x (by have:=h.ca x (AD d);omega),ZeG r _ h h4,Al];simp only[A0,ZoU,Zjk];by_cases c:x.kind=2
   .simp only[c,beq_self_eq_true,if_true,decide_true,Av,Ah];cases (YW x).all (YI (YP r j))<;>simp
   .simp [c]
theorem ZmF (r:Zf) (h:Xa r):Zc7 r=some (Z3 r):=by
 unfold Zc7 Z3;rw [ZlI r h,A0,ZoA];cases hr:YE r with
 |false=>simp
 |true=>
  have h4:=(Xv hr).1;simp only[if_true,Ag,A0];rw [Xf (p:=Zjk r) (r:=false)]
  .cases QG (Zjk r) r.cond 0<;>cases ZtP r<;>simp
  .intro j x c;rw [AB,ZcS x (by have:=h.ca x (AD c);omega),Zd9 r _ h h4,Al];simp only[A0,Zjk];by_cases a:x.kind=2
   .simp only[a,bne_self_eq_false,AO,if_false,decide_true,Av,Ah];rw [Z1 (p:=YI (YP r j)) (r:=.inr false)]
    .cases (YW x).all (YI (YP r j))<;>simp
    .intro k v _;rw [ZaR,A0];cases YI (YP r j) v<;>simp
   .have:(x.kind != 2)=true:=by simpa using a
    simp [a,this]
section
section
variable {α σ ρ:Type} {body:Nat->α->σ->Option (σ ⊕ ρ)}
theorem Zqk (I:List α->σ->Prop) (Q:ρ->Prop):∀(l a:List α) (s:σ),I a s->(∀p x s,x∈l->p.length<a.length+l.length->I p s->(∃s',body p.length x s=some (.inl s')/\I (p++[x]) s')\/∃r,body p.length x s=some (.inr r)/\Q r)->
  (∃s',(∀fin:σ->Option ρ,Zm body fin l a.length s=fin s')/\I (a++l) s')\/∃r,(∀fin:σ->Option ρ,Zm body fin l a.length s=some r)/\Q r
 | [],a,s,h,_=>.inl ⟨s,λ_=>rfl,by simpa using h⟩
 |x::l,a,s,h,hs=>by
  rcases hs a x s yG yG h with ⟨s',e,d⟩|⟨r,e,d⟩
  .rcases Zqk I Q l (a++[x]) s' d λp y s m v w=>hs p y s (by simp [m]) (by simp at v ⊢;omega) w with ⟨u,j,c⟩|⟨r,j,c⟩
   .refine .inl ⟨u,λfin=>?_,by simpa using c⟩;rw [ZQ e];simpa using j fin
   .refine .inr ⟨r,λfin=>?_,c⟩;rw [ZQ e];simpa using j fin
  .exact .inr ⟨r,λfin=>Z4 e,d⟩
theorem Zcl (I:List α->σ->Prop) (Q:ρ->Prop) (l:List α) (s:σ) (h:I [] s) (a:∀p x s,x∈l->p.length<l.length->I p s->(∃s',body p.length x s=some (.inl s')/\I (p++[x]) s')\/∃r,body p.length x s=some (.inr r)/\Q r):
  (∃s',(∀fin:σ->Option ρ,Zm body fin l 0 s=fin s')/\I l s')\/∃r,(∀fin:σ->Option ρ,Zm body fin l 0 s=some r)/\Q r:=by
 have:=Zqk I Q l [] s h λp x s m c d=>a p x s m (by simpa using c) d;simpa using this
theorem ZdS (I:List α->σ->Prop) (l:List α) (s:σ) (h:I [] s) (a:∀p x s,x∈l->p.length<l.length->I p s->∃s',body p.length x s=some (.inl s')/\I (p++[x]) s'):∃s',(∀fin:σ->Option ρ,Zm body fin l 0 s=fin s')/\I l s':=by
 rcases Zcl I (λ_=>False) l s h λp x s m c d=>.inl (a p x s m c d) with h|⟨_,_,h⟩
 .exact h
 .exact h.elim
end
def XR (r:Zf):List ByteArray:=r.thn.filterMap λx=>if x.kind=1\/x.kind=2 then some x.pattern.rel else none
def Yu (r:Zf):List ByteArray:=r.cond.filterMap λx=>if x.kind=1\/x.kind=2 then some x.pattern.rel else none
theorem Zr6 (r:Zf):(XR r).length<=r.thn.length:=BC _ _
theorem ZmS (r:Zf):(Yu r).length<=r.cond.length:=BC _ _
theorem ZiJ (r:Zf) (h:r.thn.length<=1048576):Q0 r=some (ZV (XR r)):=by
 unfold Q0;rw [YL (g:=λx:Zw=>if x.kind=1\/x.kind=2 then some x.pattern.rel else none)]
 .have:=Zr6 r;simp only[Am];show (Yx (XR r)).bind _=_
  rw [Qv _ yE];rfl
 .intro j x s _ d;simp at d;by_cases c:x.kind=1
  .simp only[c,beq_self_eq_true,if_true];rw [Zi _ yE];rfl
  .by_cases a:x.kind=2
   .have:((2:Int)==1)=false:=by decide
    simp only[a,this,AO,if_false,beq_self_eq_true,if_true];rw [Zi _ yE];rfl
   .simp [c,a]
theorem Zq1 (r:Zf) (h:r.cond.length<=1048576):Zct r=some (ZV (Yu r)):=by
 unfold Zct;rw [YL (g:=λx:Zp=>if x.kind=1\/x.kind=2 then some x.pattern.rel else none)]
 .have:=ZmS r;simp only[Am];show (Yx (Yu r)).bind _=_
  rw [Qv _ yE];rfl
 .intro j x s _ d;simp at d;by_cases c:x.kind=1
  .simp only[c,beq_self_eq_true,if_true];rw [Zi _ yE];rfl
  .by_cases a:x.kind=2
   .have:((2:Int)==1)=false:=by decide
    simp only[a,this,AO,if_false,beq_self_eq_true,if_true];rw [Zi _ yE];rfl
   .simp [c,a]
theorem Zld {α:Type}(c:α->Int) (f:α->ByteArray):∀(l:List α) (a:List ByteArray),l.foldl (λs x=>if c x=1\/c x=2 then QW s (f x) else s) a=(l.filterMap λx=>if c x=1\/c x=2 then some (f x) else none).foldl QW a
 | [],_=>rfl
 |x::l,a=>by
  rw [AP,Zld c f l];by_cases h:c x=1\/c x=2<;>simp [h]
theorem Zi4 (r:Zf) (h:r.thn.length<=1048576):Zak r=some (ZV (XR r)):=by
 unfold Zak;rw [YZ (f:=λs (x:Zw)=>if x.kind=1\/x.kind=2 then QW s x.pattern.rel else s) (λj s=>s.length<=j) yG]
 .congr 1
  exact Zld (λx:Zw=>x.kind) (λx=>x.pattern.rel) r.thn []
 .intro j x s _ _ d u;have:=ZeS x.pattern.rel s;by_cases c:x.kind=1
  .simp only[c,beq_self_eq_true,if_true,true_or];rw [QZ _ _ yE];exact ⟨rfl,yE⟩
  .by_cases a:x.kind=2
   .have:((2:Int)==1)=false:=by decide
    simp only[a,this,AO,if_false,beq_self_eq_true,if_true,or_true];rw [QZ _ _ yE];exact ⟨rfl,yE⟩
   .simp [c,a];omega
theorem ZrQ (r:Zf) (h:r.cond.length<=1048576):Zcs r=some (ZV (Yu r)):=by
 unfold Zcs;rw [YZ (f:=λs (x:Zp)=>if x.kind=1\/x.kind=2 then QW s x.pattern.rel else s) (λj s=>s.length<=j) yG]
 .congr 1
  exact Zld (λx:Zp=>x.kind) (λx=>x.pattern.rel) r.cond []
 .intro j x s _ _ d u;have:=ZeS x.pattern.rel s;by_cases c:x.kind=1
  .simp only[c,beq_self_eq_true,if_true,true_or];rw [QZ _ _ yE];exact ⟨rfl,yE⟩
  .by_cases a:x.kind=2
   .have:((2:Int)==1)=false:=by decide
    simp only[a,this,AO,if_false,beq_self_eq_true,if_true,or_true];rw [QZ _ _ yE];exact ⟨rfl,yE⟩
   .simp [c,a];omega
def ZgS (R:List Zf) (x y:ByteArray):Prop:=∃r∈R,x∈XR r/\y∈Yu r
inductive XD (R:List Zf) (a:ByteArray):ByteArray->Prop
 |one {y:ByteArray}:ZgS R a y->XD R a y
 |next {x y:ByteArray}:XD R a x->ZgS R x y->XD R a y
theorem XD.step {R:List Zf}{a x y:ByteArray}(c:x=a\/XD R a x) (h:ZgS R x y):XD R a y:=by
 rcases c with rfl|c
 .exact .one h
 .exact .next c h
structure Zb2 (R:List Zf):Prop where
 s:∀r∈R,Xa r
 n:(R.flatMap Yu).length<=1048576
theorem ZhN {m:List (ByteArray×Bool)}{k y:ByteArray}:XU (Zc8 m k true) y false=if y=k then true else XU m y false:=by
 unfold XU;induction m with
 |nil=>
  by_cases h:y=k<;>simp [Zc8,ZdK,h]
 |cons p r ih=>
  simp only[Zc8];by_cases h:k=p.1
  .subst h;rw [if_pos rfl];by_cases a:y=p.1
   .simp [ZdK,a]
   .simp [ZdK,a]
  .rw [if_neg h];by_cases a:y=p.1
   .subst a;have:¬p.1=k:=λe=>h e.symm;simp [ZdK,this]
   .simp only[ZdK,if_neg a];exact ih
def Zds (m:List (ByteArray×Bool)) (y:ByteArray):Prop:=XU m y false=true
def Zhe (U:List ByteArray) (m:List (ByteArray×Bool)):Nat:=U.countP λy=>!XU m y false
theorem ZfR {α:Type}{p q:α->Bool}:∀{l:List α},(∀x∈l,p x=true->q x=true)->∀y∈l,p y=false->q y=true->l.countP p+1<=l.countP q
 |x::l,h,y,c,h1,h2=>by
  rw [AZ,AZ];have d:l.countP p<=l.countP q:=List.countP_mono_left λz a=>h z (by simp [a]);have hx:=h x yG;rcases A6.1 c with rfl|c
  .simp [h1,h2];omega
  .have ih:=ZfR (p:=p) (q:=q) (l:=l) (λz a=>h z (by simp [a])) y c h1 h2;cases hp:p x with
   |true=>simp [hx hp];omega
   |false=>cases q x<;>simp<;>omega
structure Zuf (U:List ByteArray) (P:ByteArray->Prop) (s0 s:List (ByteArray×Bool)×List ByteArray):Prop where
 mono:∀y,Zds s0.1 y->Zds s.1 y
 fresh:∀y,Zds s.1 y->Zds s0.1 y\/(P y/\y∈s.2)
 sub:∀y∈s0.2,y∈s.2
 row:∀y∈s.2,y∈s0.2\/Zds s.1 y
 cnt:Zhe U s.1+s.2.length<=Zhe U s0.1+s0.2.length
theorem Zuf.refl (U:List ByteArray) (P:ByteArray->Prop) (s:List (ByteArray×Bool)×List ByteArray):Zuf U P s s:=⟨λ_ h=>h,λ_ h=>.inl h,λ_ h=>h,λ_ h=>.inl h,Aa _⟩
theorem Zuf.push {U:List ByteArray}{P:ByteArray->Prop}{j:List (ByteArray×Bool)×List ByteArray}{m:List (ByteArray×Bool)}{row:List ByteArray}(h:Zuf U P j (m,row)) {y:ByteArray}(u:XU m y false=false) (w:y∈U) (x:P y):Zuf U P j (Zc8 m y true,row++[y]):=by
 have d:∀z,Zds (Zc8 m y true) z↔z=y\/Zds m z:=λz=>by
  unfold Zds;rw [ZhN];by_cases e:z=y<;>simp [e]
 refine ⟨λz c=>(d z).2 (.inr (h.mono z c)),λz c=>?_,λz c=>A5.2 (.inl (h.sub z c)),λz c=>?_,?_⟩
 .rcases (d z).1 c with rfl|c
  .exact .inr ⟨x,yG⟩
  .exact (h.fresh z c).imp id λ⟨a,b⟩=>⟨a,A5.2 (.inl b)⟩
 .rcases A5.1 c with c|c
  .exact (h.row z c).imp id λv=>(d z).2 (.inr v)
  .exact .inr ((d z).2 (.inl (by simpa using c)))
 .have h1:=h.cnt;have A:Zhe U (Zc8 m y true)+1<=Zhe U m:=ZfR (λz _ c=>by
   rw [ZhN]at c;by_cases e:z=y
   .simp [e]at c
   .simpa [e]using c) y w (by rw [ZhN];simp) (by simp [u])
  show _+(row++[y]).length<=_
  rw [AF];simp only at h1 ⊢;simp;omega
theorem Yg {σ ρ:Type}{body:σ->Option (σ ⊕ ρ)}{s s':σ}(h:body s=some (.inl s')):Ys body s=Ys body s':=by rw [Zj3,h]
theorem ZZ {σ ρ:Type}{body:σ->Option (σ ⊕ ρ)}{s:σ}{r:ρ}(h:body s=some (.inr r)):Ys body s=some r:=by rw [Zj3,h]
theorem ZoK {R:List Zf}(hR:Zb2 R) (a:ByteArray):∃m,Zd0 R a=some m/\∀y,Zds m y↔XD R a y:=by
 have hU:∀r∈R,∀y∈Yu r,y∈R.flatMap Yu:=λr N y M=>AG.2 ⟨r,N,M⟩;have aa:∀(n:Nat) (m:List (ByteArray×Bool)) (row:List ByteArray),Zhe (R.flatMap Yu) m+row.length<=n->n<=1048577->(∀y,Zds m y->XD R a y)->(∀y∈row,y=a\/Zds m y)->(∀z,(z=a\/Zds m z)->z∈row\/∀y,ZgS R z y->Zds m y)->
   ∃S,Ys (σ:=(List (ByteArray×Bool))×(List ByteArray)) (λs=>
   match s with
   |(mp_42,row_43)=>
   if (decide (0<(row_43.length:Int)))=true then
    chk (0<=0/\0<(row_43.length:Int)) <|
    (row_43[(An 0)]?).bind λC=>
    chk (0<=1/\1<=(row_43.length:Int)) <|
    Zm (σ:=(List (ByteArray×Bool))×(List ByteArray))
     (λ(D:Nat) (d:Zf) s=>
      match s with
      |(mp_57,row_58)=>
      (Q0 d).bind λj=>
      (Xz j C).bind λk=>
      if k=true then
       (Zct d).bind λl=>
       Zm (σ:=(List (ByteArray×Bool))×(List ByteArray))
        (λ(t:Nat) (b:ByteArray) s=>
         match s with
         |(mp_80,row_81)=>
         if (XU mp_80 b false)=true then
          some (.inl (mp_80,row_81))
         else
          chk (row_81.length+1<=1073741824) <|
          some (.inl ((Zc8 mp_80 b true),(row_81++[b]))))
        (λs=>
         match s with
         |(mp_80,row_81)=>
         some (.inl (mp_80,row_81)))
        l 0 (mp_57,row_58)
      else
       some (.inl (mp_57,row_58)))
     (λs=>
      match s with
      |(mp_57,row_58)=>
      some (.inl (mp_57,row_58)))
     R 0 (mp_42,(List.drop (An 1) row_43))
   else
    some (.inr mp_42)) (m,row)=some S/\∀y,Zds S y↔XD R a y:=by
  intro n;induction n with
  |zero=>
   intro m row hn _ T V P;have hr:row=[]:=Ao yE;subst hr;refine ⟨m,by rw [Zj3];rfl,λy=>⟨T y,λG=>?_⟩⟩;induction G with
   |one h=>exact ((P _ (.inl rfl)).resolve_left yG) _ h
   |next _ h ih=>exact ((P _ (.inr ih)).resolve_left yG) _ h
  |succ n ih=>
   intro m row hn hN T V P;cases row with
   |nil=>
    refine ⟨m,by rw [Zj3];rfl,λy=>⟨T y,λG=>?_⟩⟩;induction G with
    |one h=>exact ((P _ (.inl rfl)).resolve_left yG) _ h
    |next _ h ih=>exact ((P _ (.inr ih)).resolve_left yG) _ h
   |cons x c=>
    have hx:x=a\/XD R a x:=(V x yG).imp id (T x);have ac:Zhe (R.flatMap Yu) m+c.length<=n:=by simp at hn;omega
    obtain ⟨s',e,J,U⟩:=ZdS (ρ:=((List (ByteArray×Bool))×(List ByteArray)) ⊕ (List (ByteArray×Bool))) (body:=λ(D:Nat) (d:Zf) (s:(List (ByteArray×Bool))×(List ByteArray))=>
      match s with
      |(mp_57,row_58)=>
      (Q0 d).bind λj=>
      (Xz j x).bind λk=>
      if k=true then
       (Zct d).bind λl=>
       Zm (σ:=(List (ByteArray×Bool))×(List ByteArray))
        (λ(t:Nat) (b:ByteArray) s=>
         match s with
         |(mp_80,row_81)=>
         if (XU mp_80 b false)=true then
          some (.inl (mp_80,row_81))
         else
          chk (row_81.length+1<=1073741824) <|
          some (.inl ((Zc8 mp_80 b true),(row_81++[b]))))
        (λs=>
         match s with
         |(mp_80,row_81)=>
         some (.inl (mp_80,row_81)))
        l 0 (mp_57,row_58)
      else
       some (.inl (mp_57,row_58))) (λo s=>Zuf (R.flatMap Yu) (XD R a) (m,c) s/\∀r∈o,x∈XR r->∀y∈Yu r,Zds s.1 y) R (m,c) ⟨Zuf.refl _ _ _,yG⟩ λp r s N hp hI=>by
     obtain ⟨W,u⟩:=s;obtain ⟨J,U⟩:=hI;have v:=hR.s r N;show ∃s',(Q0 r).bind _=_/\_
     rw [ZiJ r v.tl];simp only[A0];rw [ZaR];simp only[A0];by_cases O:x∈XR r
     .have hh:YI (ZV (XR r)) x=true:=by rw [Qz,ZW];exact O
      rw [if_pos hh,Zq1 r v.cl];simp only[A0];obtain ⟨s2,e2,E,w⟩:=ZdS (ρ:=((List (ByteArray×Bool))×(List ByteArray)) ⊕ (((List (ByteArray×Bool))×(List ByteArray)) ⊕ (List (ByteArray×Bool)))) (body:=λ(t:Nat) (b:ByteArray) (s:(List (ByteArray×Bool))×(List ByteArray))=>
         match s with
         |(mp_80,row_81)=>
         if (XU mp_80 b false)=true then
          some (.inl (mp_80,row_81))
         else
          chk (row_81.length+1<=1073741824) <|
          some (.inl ((Zc8 mp_80 b true),(row_81++[b])))) (λo s=>Zuf (R.flatMap Yu) (XD R a) (m,c) s/\(∀y,Zds W y->Zds s.1 y)/\∀y∈o,Zds s.1 y) (ZV (Yu r)) (W,u) ⟨J,λ_ h=>h,yG⟩ λp y s M hp hI=>by
       obtain ⟨K,g⟩:=s;obtain ⟨g2,g3,g4⟩:=hI;have A:y∈Yu r:=ZW.1 M;by_cases hs:XU K y false=true
       .refine ⟨(K,g),by simp only[hs,if_true],g2,g3,λz H=>?_⟩;rcases A5.1 H with H|H
        .exact g4 z H
        .rw [AI.1 H];exact hs
       .have hf:XU K y false=false:=by simpa using hs
        have hc:=g2.cnt;have hG:=g2.push hf (hU r N y A) (XD.step hx ⟨r,N,O,A⟩);have f:∀z,Zds K z->Zds (Zc8 K y true) z:=λz F=>by
         unfold Zds at *;rw [ZhN];by_cases e:z=y<;>simp [e,F]
        refine ⟨(Zc8 K y true,g++[y]),?_,hG,λz F=>f z (g3 z F),λz H=>?_⟩
        .simp only[hf,AO,if_false];rw [Zi _ (by simp only at hc;omega)]
        .rcases A5.1 H with H|H
         .exact f z (g4 z H)
         .rw [AI.1 H];unfold Zds;rw [ZhN];simp
      refine ⟨s2,by rw [e2],E,λq I L y M=>?_⟩;rcases A5.1 I with I|I
      .exact w.1 y (U q I L y M)
      .rw [AI.1 I]at M;exact w.2 y (ZW.2 M)
     .have hh:YI (ZV (XR r)) x=false:=by
       cases L:YI (ZV (XR r)) x with
       |false=>rfl
       |true=>rw [Qz,ZW]at L;exact absurd L O
      refine ⟨(W,u),by rw [if_neg (by rw [hh];simp)],J,λq I L=>?_⟩;rcases A5.1 I with I|I
      .exact U q I L
      .rw [AI.1 I]at L;exact absurd L O
    obtain ⟨S,i⟩:=s';obtain ⟨K,r1,r2⟩:=ih S i (by have:=J.cnt;simp only at this;omega) yE
     (λy G=>(J.fresh y G).elim (T y) λh=>h.1)
     (λy G=>by
      rcases J.row y G with h|h
      .exact (V y (by simp [show y∈c from h])).imp id (J.mono y)
      .exact .inr h)
     (λz F=>by
      have B:(z=a\/Zds m z)->z∈i\/∀y,ZgS R z y->Zds S y:=λF=>by
       rcases P z F with h|h
       .rcases A6.1 h with rfl|h
        .exact .inr λy ⟨r,N,O,G⟩=>U r N O y G
        .exact .inl (J.sub z h)
       .exact .inr λy G=>J.mono y (h y G)
      rcases F with F|F
      .exact B (.inl F)
      .rcases J.fresh z F with h|⟨_,h⟩
       .exact B (.inr h)
       .exact .inl h)
    refine ⟨K,(Yg ?_).trans r1,r2⟩;show (if decide (0<(((x::c).length:Nat):Int))=true then _ else _)=_
    rw [if_pos (decide_eq_true (by simp only[AA];omega)),Zi _ (by simp only[AA];omega)];show chk _ (Zm _ _ R 0 (m,c))=_
    rw [Zi _ (by simp only[AA];omega)];exact e _
 unfold Zd0;refine aa (Zhe (R.flatMap Yu) []+1) [] [a] yG ?_ (λy G=>by simp [Zds,XU,ZdK]at G) (λy G=>.inl (by simpa using G)) (λz F=>.inl ?_)
 .have:=hR.n;have V:Zhe (R.flatMap Yu) []<=(R.flatMap Yu).length:=Aw;omega
 .rcases F with rfl|F
  .simp
  .simp [Zds,XU,ZdK]at F
def Zk9 (U row:List ByteArray):Nat:=U.countP λy=>!YI row y
theorem Zqi {row:List ByteArray}{y z:ByteArray}:YI (row++[y]) z=true↔YI row z=true\/z=y:=by
 rw [Qz,Qz,A5,AI]
theorem Ztq {U row:List ByteArray}{y:ByteArray}(d:y∈U) (c:YI row y=false):Zk9 U (row++[y])+1<=Zk9 U row:=
 ZfR (λz _ a=>by
  cases h:YI row z with
  |false=>rfl
  |true=>have:=Zqi (y:=y).2 (.inl h);rw [this]at a;simp at a) y d (by have:=Zqi (row:=row) (y:=y) (z:=y).2 (.inr rfl);rw [this];rfl) (by rw [c];rfl)
open Classical
theorem Zma {R:List Zf}(hR:Zb2 R) (a b:ByteArray):ZbU R a b=some (decide (XD R a b)):=by
 have hU:∀r∈R,∀y∈Yu r,y∈R.flatMap Yu:=λr mr y my=>AG.2 ⟨r,mr,my⟩;unfold ZbU;have key:∀(n u:Nat) (row:List ByteArray),Zk9 (R.flatMap Yu) row+row.length<=n+u->n+u<=1048577->u<=row.length->(∀y∈row,y=a\/XD R a y)->a∈row->(∀i x,i<u->row[i]?=some x->∀y,ZgS R x y->y∈row/\y≠b)->
   Ys (σ:=(List ByteArray)×Int)
  (λs=>
   match s with
   |(row_55,u_56)=>
   if (decide (u_56<(row_55.length:Int)))=true then
    Zm (σ:=(List ByteArray))
     (λ(J:Nat) (k:Zf) d=>
      (Zak k).bind λv=>
      chk (0<=u_56/\u_56<(d.length:Int)) <|
      (d[(An u_56)]?).bind λw=>
      (ZX v w).bind λA=>
      if A=true then
       (Zcs k).bind λl=>
       (ZX l b).bind λB=>
       if B=true then
        some (.inr (.inr true))
       else
        Zm (σ:=(List ByteArray))
         (λ(o:Nat) (f:ByteArray) c=>
          (ZX c f).bind λj=>
          if j=true then
           some (.inl c)
          else
           chk (c.length+1<=1073741824) <|
           some (.inl (c++[f])))
         (λc=>
          some (.inl c))
         l 0 d
      else
       some (.inl d))
     (λd=>
      some (.inl (d,(IntKind.i64.wrap (u_56+1)))))
     R 0 row_55
   else
    some (.inr false))
  (row,(u:Int))=some (decide (XD R a b)):=by
  intro n;have fin:∀(u:Nat) (row:List ByteArray),u=row.length->a∈row->(∀i x,i<u->row[i]?=some x->∀y,ZgS R x y->y∈row/\y≠b)->¬XD R a b:=λu row hu ha hc hb=>by
   have all:∀y,XD R a y->y∈row/\y≠b:=λy hy=>by
    have one:∀x,x∈row->∀y,ZgS R x y->y∈row/\y≠b:=λx mx y h=>by
     obtain ⟨i,hi⟩:=List.mem_iff_getElem?.1 mx;exact hc i x (by rw [hu];exact (AE.1 hi).1) hi y h
    induction hy with
    |one h=>exact one a ha _ h
    |next _ h ih=>exact one _ ih.1 _ h
   exact (all b hb).2 rfl
  have t:∀(u:Nat) (row:List ByteArray),u=row.length->a∈row->(∀i x,i<u->row[i]?=some x->∀y,ZgS R x y->y∈row/\y≠b)->decide (XD R a b)=false:=λu row h1 h2 h3=>decide_eq_false (fin u row h1 h2 h3);induction n with
  |zero=>
   intro u row hn _ hu h1 ha hc;have C:u=row.length:=by omega
   rw [t u row C ha hc];refine ZZ ?_;show (if decide ((u:Int)<(row.length:Int))=true then _ else _)=_
   rw [if_neg (by rw [decide_eq_true_iff];omega)]
  |succ n ih=>
   intro u row hn hN hu h1 ha hc;by_cases D:u<row.length
   .have hx:row[u]?=some row[u]:=A9 D;generalize row[u]=x at hx
    have F:x=a\/XD R a x:=h1 x (AD hx);rcases Zcl (ρ:=((List ByteArray)×Int) ⊕ Bool) (body:=λ(J:Nat) (k:Zf) (d:List ByteArray)=>
      (Zak k).bind λv=>
      chk (0<=(u:Int)/\(u:Int)<(d.length:Int)) <|
      (d[(An (u:Int))]?).bind λw=>
      (ZX v w).bind λA=>
      if A=true then
       (Zcs k).bind λl=>
       (ZX l b).bind λB=>
       if B=true then
        some (.inr (.inr true))
       else
        Zm (σ:=(List ByteArray))
         (λ(o:Nat) (f:ByteArray) c=>
          (ZX c f).bind λj=>
          if j=true then
           some (.inl c)
          else
           chk (c.length+1<=1073741824) <|
           some (.inl (c++[f])))
         (λc=>
          some (.inl c))
         l 0 d
      else
       some (.inl d)) (λE r2=>(∃q,r2=row++q)/\Zk9 (R.flatMap Yu) r2+r2.length<=n+1+u/\(∀y∈r2,y=a\/XD R a y)/\∀r∈E,x∈XR r->∀y∈Yu r,y∈r2/\y≠b) (λz=>z=.inr true/\XD R a b) R row ⟨⟨[],yG⟩,hn,h1,yG⟩ λp r r2 mr hp hI=>by
     obtain ⟨⟨q,rfl⟩,g1,g2,g3⟩:=hI;have G:=hR.s r mr;have K:(row++q)[u]?=some x:=by rw [Ab D];exact hx
     rw [Zi4 r G.tl,A0,Zi _ (by simp;omega),Al,K,A0,Y8,A0];by_cases hw:x∈XR r
     .have hh:YI (ZV (XR r)) x=true:=by rw [Qz,ZW];exact hw
      rw [if_pos hh,ZrQ r G.cl,A0,Y8,A0];by_cases hb:b∈Yu r
      .have hh:YI (ZV (Yu r)) b=true:=by rw [Qz,ZW];exact hb
       rw [if_pos hh];exact .inr ⟨_,rfl,rfl,XD.step F ⟨r,mr,hw,hb⟩⟩
      .have hh:¬YI (ZV (Yu r)) b=true:=by rw [Qz,ZW];exact hb
       rw [if_neg hh];obtain ⟨r3,e3,⟨q3,H⟩,k1,k2,k3⟩:=ZdS (ρ:=(List ByteArray) ⊕ (((List ByteArray)×Int) ⊕ Bool)) (body:=λ(o:Nat) (f:ByteArray) (c:List ByteArray)=>
          (ZX c f).bind λj=>
          if j=true then
           some (.inl c)
          else
           chk (c.length+1<=1073741824) <|
           some (.inl (c++[f]))) (λE r3=>(∃q',r3=(row++q)++q')/\Zk9 (R.flatMap Yu) r3+r3.length<=n+1+u/\(∀y∈r3,y=a\/XD R a y)/\∀y∈E,y∈r3) (ZV (Yu r)) (row++q) ⟨⟨[],yG⟩,g1,g2,yG⟩ λp y r3 my hp hI=>by
        obtain ⟨⟨q',rfl⟩,k1,k2,k3⟩:=hI;have I:y∈Yu r:=ZW.1 my;rw [Y8,A0];by_cases hh:YI (row++q++q') y=true
        .rw [if_pos hh];refine ⟨_,rfl,⟨q',rfl⟩,k1,k2,λz mz=>?_⟩;rcases A5.1 mz with mz|mz
         .exact k3 z mz
         .rw [AI.1 mz];exact Qz.1 hh
        .have hf:YI (row++q++q') y=false:=by simpa using hh
         have hab:=Ztq (hU r mr y I) hf;rw [if_neg hh,Zi _ yE];refine ⟨_,rfl,⟨q'++[y],yG⟩,by rw [AF];simp only[Ac];omega,λz mz=>?_,λz mz=>?_⟩
         .rcases A5.1 mz with mz|mz
          .exact k2 z mz
          .rw [AI.1 mz];exact .inr (XD.step F ⟨r,mr,hw,I⟩)
         .rcases A5.1 mz with mz|mz
          .exact A5.2 (.inl (k3 z mz))
          .exact A5.2 (.inr mz)
       refine .inl ⟨r3,e3 _,⟨q++q3,by rw [H];simp⟩,k1,k2,λr' g m y my=>?_⟩;rcases A5.1 g with g|g
       .have:=g3 r' g m y my;exact ⟨by rw [H];exact A5.2 (.inl this.1),this.2⟩
       .rw [AI.1 g]at my;exact ⟨k3 y (ZW.2 my),λe=>hb (e ▸ my)⟩
     .have hh:¬YI (ZV (XR r)) x=true:=by rw [Qz,ZW];exact hw
      rw [if_neg hh];refine .inl ⟨_,rfl,⟨q,rfl⟩,g1,g2,λr' g m=>?_⟩;rcases A5.1 g with g|g
      .exact g3 r' g m
      .rw [AI.1 g]at m;exact absurd m hw
    with ⟨r2,e,⟨q,rfl⟩,k1,k2,k3⟩|⟨z,e,rfl,hb⟩
    .refine (Yg ?_).trans (ih (u+1) (row++q) yE yE (by rw [AF];omega) k2 (A5.2 (.inl ha)) λi y hi hy z hz=>?_)
     .show (if decide ((u:Int)<(row.length:Int))=true then _ else _)=_
      rw [if_pos (decide_eq_true yE),e,Y2 yE yE];rfl
     .by_cases L:i<u
      .rw [Ab yE]at hy;have:=hc i y L hy z hz;exact ⟨A5.2 (.inl this.1),this.2⟩
      .have:i=u:=by omega
       subst this;rw [Ab D,hx]at hy;obtain rfl:=AQ hy;obtain ⟨r,mr,hw,hr⟩:=hz;exact k3 r mr hw z hr
    .rw [decide_eq_true hb];refine ZZ ?_;show (if decide ((u:Int)<(row.length:Int))=true then _ else _)=_
     rw [if_pos (decide_eq_true yE),e]
   .have C:u=row.length:=by omega
    rw [t u row C ha hc];refine ZZ ?_;show (if decide ((u:Int)<(row.length:Int))=true then _ else _)=_
    rw [if_neg (by rw [decide_eq_true_iff];omega)]
 refine key 1048577 0 [a] ?_ yE yG (λy hy=>.inl (by simpa using hy)) yG (λi x hi=>by omega);have h1:=hR.n;have h2:Zk9 (R.flatMap Yu) [a]<=(R.flatMap Yu).length:=Aw;simp only[Ac];omega
end
section
theorem Zx5 (l:List Zf) (n:ByteArray):∃z,XG l n=some z:=by
 unfold XG;rcases Zcl (ρ:=Int) (body:=λ(c:Nat) (a:Zf) (_:Unit)=>
   if (sEq a.name n)=true then
    some (.inr (c:Int))
   else
    some (.inl ())) (λ_ _=>True) (λ_=>True) l () trivial (λp x s d j _=>by
  cases h:sEq x.name n with
  |true=>exact .inr ⟨_,by rw [if_pos rfl],trivial⟩
  |false=>exact .inl ⟨(),by rw [if_neg yG],trivial⟩) with ⟨s,e,_⟩|⟨z,e,_⟩
 .exact ⟨-1,e _⟩
 .exact ⟨z,e _⟩
def Zda (l:List Zf) (n:ByteArray):Int:=(XG l n).getD 0
theorem Q9 (l:List Zf) (n:ByteArray):XG l n=some (Zda l n):=by
 obtain ⟨z,h⟩:=Zx5 l n;unfold Zda;rw [h];rfl
theorem ZoZ (l:List Zf) (n:ByteArray):Zgn l n=some (Zda l n):=Q9 l n
def Zdv (R:List Zf) (j:Nat) (r:Zf):Bool:=YE r&&(Zda R r.name==(j:Int))
def ZN (R:List Zf):Bool:=decide (R.length<=6)&&QG (Zdv R) R 0
theorem ZcX {R:List Zf}(h:∀r∈R,Xa r):Zau R=some (ZN R):=by
 unfold Zau ZN;by_cases c:R.length<=6
 .rw [if_neg (by simp;omega),decide_eq_true c,Ag,Xf (p:=Zdv R) (r:=false)]
  .cases QG (Zdv R) R 0<;>rfl
  .intro j r d;rw [ZlI r (h r (AD d)),A0,Q9];unfold Zdv;simp only[A0,AB];cases YE r with
   |false=>rfl
   |true=>
    by_cases a:Zda R r.name=(j:Int)
    .simp [a]
    .have e:(Zda R r.name==(j:Int))=false:=by simpa using a
     simp [e,a]
 .rw [if_pos (by simp;omega),decide_eq_false c];rfl
theorem ZoV {R:List Zf}(h:∀r∈R,Xa r):ZeI R=some (ZN R):=by
 unfold ZeI ZN;rw [Xf (p:=Zdv R) (r:=false)]
 .have:decide ((R.length:Int)<=6)=decide (R.length<=6):=by rw [AC];simp;omega
  rw [this];cases QG (Zdv R) R 0<;>simp
 .intro j r c;rw [ZhT r (h r (AD c)),A0,ZoZ];unfold Zdv;simp only[A0,AB];cases YE r with
  |false=>rfl
  |true=>
   by_cases a:Zda R r.name=(j:Int)
   .simp [a]
   .have e:(Zda R r.name==(j:Int))=false:=by simpa using a
    simp [e,a]
open Classical
def ZjV (R:List Zf) (rel w:ByteArray):Bool:=!sEq w rel&&!decide (XD R rel w)
def Zg5 (R:List Zf) (r:Zf) (x:Zp):Bool:=!(x.kind==2)||(ZV (XR r)).all (ZjV R x.pattern.rel)
def Xq (R:List Zf) (r:Zf):Bool:=Z3 r&&r.cond.all (Zg5 R r)
theorem ZgM {R:List Zf}(d:Zb2 R):Zb4 R=some (ZN R&&R.all (Xq R)):=by
 unfold Zb4;rw [ZcX d.s,A0];cases ZN R with
 |false=>rfl
 |true=>
  rw [if_pos rfl,Z1 (p:=Xq R) (r:=false)]
  .cases R.all (Xq R)<;>rfl
  .intro i r h;have a:=d.s r h;rw [ZmF r a,A0];unfold Xq;cases Z3 r with
   |false=>rfl
   |true=>
    rw [if_pos rfl,Z1 (p:=Zg5 R r) (r:=.inr false)]
    .cases r.cond.all (Zg5 R r)<;>rfl
    .intro i x u;unfold Zg5;by_cases c:x.kind=2
     .obtain ⟨m,e,j⟩:=ZoK d x.pattern.rel;rw [if_neg (by simp [c]),e,A0,ZiJ r a.tl,A0,Z1 (p:=ZjV R x.pattern.rel) (r:=.inr (.inr false))]
      .rw [show (!(x.kind==2))=false by simp [c],Ah];cases (ZV (XR r)).all (ZjV R x.pattern.rel)<;>rfl
      .intro i w v;unfold ZjV;have:XU m w false=decide (XD R x.pattern.rel w):=by
        rw [AC,decide_eq_true_iff];exact j w
       rw [this];cases sEq w x.pattern.rel<;>cases decide (XD R x.pattern.rel w)<;>rfl
     .rw [if_pos (by simp [c]),show (!(x.kind==2))=true by simp [c]];rfl
theorem ZwR {α ρ:Type}{r:ρ}:∀(l:List α),Zm (σ:=Unit) (λ(_:Nat) (_:α) _=>some (.inr r)) (λ_=>some r) l 0 ()=some r
 | []=>rfl
 |_::_=>rfl
theorem Zz2 (x y:ByteArray):sEq x y=sEq y x:=by
 rw [AC,ZP,ZP];exact eq_comm
theorem ZgR {R:List Zf}(d:Zb2 R):ZbR R=some (ZN R&&R.all (Xq R)):=by
 unfold ZbR;rw [Z1 (p:=Xq R) (r:=false)]
 .rw [ZoV d.s,A0];cases R.all (Xq R)<;>simp
 .intro i r h;have a:=d.s r h;rw [Zns r a,A0];unfold Xq;cases Z3 r with
  |false=>rfl
  |true=>
   rw [if_pos rfl,Zi4 r a.tl,A0,Z1 (p:=Zg5 R r) (r:=.inr false)]
   .cases r.cond.all (Zg5 R r)<;>rfl
   .intro i x u;unfold Zg5;by_cases c:x.kind=2
    .rw [Z1 (p:=ZjV R x.pattern.rel) (r:=.inr (.inr false))]
     .rw [show (!(x.kind==2))=false by simp [c],Ah];cases (ZV (XR r)).all (ZjV R x.pattern.rel)<;>rfl
     .intro i w v;rw [if_pos (by simp [c]),Zma d,Zz2];unfold ZjV;cases sEq w x.pattern.rel<;>cases decide (XD R x.pattern.rel w)<;>rfl
    .have j:(x.kind==2)=false:=by simp [c]
     simp only[j,AO,if_false];rw [ZwR];rfl
end
section
open Classical
theorem ZsI (a b:Zd):ZhI a b=some (decide (a=b)):=Yv a b
def Zdz (F:List Zd) (i:Nat) (x:Zd):Bool:=Ya x&&(if i=0 then true else match F[i - 1]? with|some y=>decide (Zci y x<0)|none=>true)
def Z2 (F:List Zd):Bool:=decide (F.length<=24)&&QG (Zdz F) F 0
theorem Zm1 {α:Type}{p:Nat->α->Bool}{q:α->Bool}(h:∀i x,p i x=true->q x=true):∀{l:List α}{i:Nat},QG p l i=true->∀x∈l,q x=true
 | [],_,_=>by simp
 |y::l,i,ha=>by
  simp only[QG,A4]at ha;intro x a;rcases A6.1 a with rfl|a
  .exact h i _ ha.1
  .exact Zm1 h ha.2 x a
theorem Xs {F:List Zd}(h:Z2 F=true):F.length<=24/\∀f∈F,Ya f=true:=by
 unfold Z2 at h;rw [A4,decide_eq_true_iff]at h;refine ⟨h.1,Zm1 (λi x a=>?_) h.2⟩;unfold Zdz at a;rw [A4]at a;exact a.1
theorem YD {f:Zd}(h:Ya f=true):f.args.length<=3:=by
 unfold Ya at h;simp only[A4,decide_eq_true_iff]at h;exact h.1.2
theorem Zqr {F:List Zd}(u:F.length<=1048576) {i:Nat}{x:Zd}(h:F[i]?=some x):
  (if Ya x=true then (if (decide (0<(i:Int)))=true then (atI F (IntKind.i64.wrap ((i:Int) - 1))).bind λa=>(some (Zci a x)).bind λb=>if (decide (0<=b))=true then some (.inr false) else some (.inl ()) else some (.inl ())) else some (.inr false):Option (Unit ⊕ Bool))
   = some (bif Zdz F i x then .inl () else .inr false):=by
 have hi:=(AE.1 h).1;unfold Zdz;cases Ya x with
 |false=>rfl
 |true=>
  rw [if_pos rfl];by_cases d:i=0
  .subst d;rw [if_neg yG];simp
  .have j:F[i - 1]?=some F[i - 1]:=A9 yE;rw [if_pos (by simp;omega),show (i:Int) - 1=((i - 1:Nat):Int) by omega,ZeY yE yE,Y3,j,A0,A0,if_neg d];by_cases c:Zci F[i - 1] x<0
   .rw [if_neg (by simpa using c)];simp [c]
   .rw [if_pos (by simpa using c)];simp [c]
theorem Zfq (F:List Zd):Zbt F=some (Z2 F):=by
 unfold Zbt Z2;by_cases h:F.length<=24
 .rw [if_neg (by simp;omega),decide_eq_true h,Xf (p:=Zdz F) (r:=false)]
  .cases QG (Zdz F) F 0<;>rfl
  .intro j x a;rw [AB,QK,A0];simp only[Xd];exact Zqr yE a
 .rw [if_pos (by simp;omega),decide_eq_false h];rfl
theorem ZiN (F:List Zd) (c:F.length<=1048576):Zec F=some (Z2 F):=by
 unfold Zec Z2;rw [Xf (p:=Zdz F) (r:=false)]
 .have:decide ((F.length:Int)<=24)=decide (F.length<=24):=by rw [AC];simp;omega
  rw [this];cases QG (Zdz F) F 0<;>simp
 .intro j x a;rw [AB,Zlp,A0];simp only[ZeX];exact Zqr c a
theorem Zel (l:List Zd) (d:l.length<=1048576) (h:∀f∈l,f.args.length<=1048576):ZaO l=some l:=by
 unfold ZaO;rw [QB (g:=λy=>y)]
 .simp
 .intro j y s a c;rw [Z6 y (h y a),A0,Zi _ (by simp at c;omega)]
theorem Zfg (l:List Zd) (d:l.length<=1048576) (h:∀f∈l,f.args.length<=1048576):Zbv l=some l:=by
 unfold Zbv;rw [QB (g:=λy=>y)]
 .simp
 .intro j y s a c;rw [Xx y (h y a),A0,Zi _ (by simp at c;omega)]
structure ZyF (F:List Zd) (t:Zt):Prop where
 bind:t.binding.length<=6
 len:t.facts.length<=4
 args:∀f∈t.facts,f.args.length<=3
theorem Zi2.s {p:List Zp}{F:List Zd}{t:Zt}(h:Zi2 p F t) (d:p.length<=4) (c:∀f∈F,f.args.length<=3):ZyF F t:=
 ⟨ZaI h.bind,by have:=h.len;omega,λf a=>c f (h.sub f a)⟩
theorem ZpR {ρ:Type}{x:Zp}{F:List Zd}{body:Nat->Zt->List Zt->Option (List Zt ⊕ ρ)}{fin:List Zt->Option ρ}(j:F.length<=24) (c:List Zt) (d:c.length<=331776)
  (h:∀i t row,t∈c->row.length<=10000000->body i t row=some (.inl (row++Zc1 x F t))):Zm body fin c 0 []=fin (Zdj x F c):=by
 have a:Zdj x F []=[]:=rfl;rw [<-a,ZaZ (λp=>Zdj x F p) c];intro p t q e;have hl:=Zny x F j p;have u:p.length<=c.length:=by rw [e];simp
 rw [h _ _ _ (by rw [e];simp) yE];unfold Zdj;rw [Ai];simp
theorem Zfk (l:List Zp) (F:List Zd) (D:l.length<=4) (h:F.length<=24) (d:∀f∈F,f.args.length<=3):Zap l F=some (Zy l F):=by
 unfold Zap;have A:Zy [] F=[({ facts:=[],binding:=[] }:Zt)]:=rfl;rw [<-A,ZaZ (λp=>Zy p F) l];intro p x q e;have w:p.length+(q.length+1)=l.length:=by rw [e,AF,AA]
 rw [ZaQ];refine ZpR (fin:=λr=>(some (Sum.inl r):Option (List Zt ⊕ List Zt))) h (Zy p F) (Zbw F h p yE) (λi t row u C=>?_);have ht:=(XA F p t u).s yE d;unfold Zc1;by_cases a:x.kind=1
 .rw [if_neg (by simpa using a),if_pos a,YL (g:=λf=>(ZbA x.pattern f t.binding).map λb=>({ facts:=t.facts++[f],binding:=b }:Zt))];intro j f s c B;rw [Zg6,A0,Zgs];cases hm:ZbA x.pattern f t.binding with
  |none=>simp
  |some b=>
   simp only[BD,if_true];rw [Zel _ (by have:=ht.len;omega) (λg v=>by have:=ht.args g v;omega),A0,Z6 f (by have:=d f c;omega),A0,Zi _ (by have:=ht.len;omega),Zi _ yE];rfl
 .rw [if_pos (by simpa using a),if_neg a,Zng _ _ _ yE (λf c=>by have:=d f c;omega),A0];split
  .rw [Zi _ yE]
  .simp
theorem Zts {F:List Zd}{t:Zt}(a:ZyF F t):Zhw t=some t:=by
 unfold Zhw Zc9;rw [Zfg _ (by have:=a.len;omega) (λg c=>by have:=a.args g c;omega),A0,Zi _ (by have:=a.bind;omega)];rfl
theorem Ztm (c:List Zt) (x:Zp) (F:List Zd) (a:c.length<=331776) (A:F.length<=24) (u:∀f∈F,f.args.length<=3) (ht:∀t∈c,ZyF F t):ZhB c x F=some (Zdj x F c):=by
 unfold ZhB;refine ZpR (fin:=λr=>some r) A c a (λi t row v C=>?_);have ht:=ht t v;have htb:=ht.bind;unfold Zc1;by_cases d:x.kind=1
 .rw [if_neg (by simpa using d),if_pos d,YL (g:=λf=>(ZbA x.pattern f t.binding).map λb=>({ facts:=t.facts++[f],binding:=b }:Zt))];intro j f s h B;rw [Zhp _ _ _ yE,A0,Zgs];cases hm:ZbA x.pattern f t.binding with
  |none=>simp
  |some b=>
   simp only[BD,if_true];rw [Zfg _ (by have:=ht.len;omega) (λg w=>by have:=ht.args g w;omega),A0,Xx f (by have:=u f h;omega),A0,Zi _ (by have:=ht.len;omega),Zi _ yE];rfl
 .rw [if_pos (by simpa using d),if_neg d,ZmK _ _ _ yE yE (λf h=>by have:=u f h;omega),A0];split
  .rw [Zts ht,A0,Zi _ yE]
  .simp
theorem Zi3 (l:List Zp) (F:List Zd) (u:l.length<=4) (a:F.length<=24) (c:∀f∈F,f.args.length<=3):Zbx l F=some (Zy l F):=by
 unfold Zbx;have j:Zy [] F=[({ facts:=[],binding:=[] }:Zt)]:=rfl;rw [<-j,ZaZ (λp=>Zy p F) l];intro p x q e;have h:p.length+(q.length+1)=l.length:=by rw [e,AF,AA]
 rw [ZaQ,Ztm _ _ _ (Zbw F a p yE) a c (λt d=>(XA F p t d).s yE c)];rfl
def mkM (r:Zf) (t:Zt):Xb:={ rule:=r.name,facts:=t.facts,binding:=t.binding }
theorem Zne (r:Zf) (F:List Zd) (a:r.cond.length<=4) (c:F.length<=24) (h:∀f∈F,f.args.length<=3):Zc0 r F=some ((Zy r.cond F).map (mkM r)):=by
 unfold Zc0;have hn:=Zbw F c r.cond a;rw [Zfk _ _ a c h];rw [A0,QB (g:=mkM r)]
 .simp
 .intro j t s u d;rw [Zi _ (by simp at d;omega)];rfl
theorem ZbT {R:List Zf}(h:ZN R=true):R.length<=6/\∀r∈R,YE r=true:=by
 unfold ZN at h;rw [A4,decide_eq_true_iff]at h;refine ⟨h.1,Zm1 (λi x a=>?_) h.2⟩;unfold Zdv at a;rw [A4]at a;exact a.1
theorem Zqp {r:Zf}(h:YE r=true):∀a∈r.thn,a.kind=1->Z5 a.pattern=true/\∀v∈a.pattern.args,Yw v=true->v∈YU r.cond:=by
 intro a j w;unfold YE at h;simp only[A4]at h;have ha:=AJ.1 h.1.2 a j;rw [A4]at ha;obtain ⟨c,x⟩:=ha;unfold X2 at c;rw [if_pos (.inl w)]at c;refine ⟨c,λv d u=>?_⟩;have:=AJ.1 x v (Zcy.2 ⟨d,u⟩);rw [Qz]at this;unfold YP at this;rw [ZW,BE]at this;exact this
end
section
open Classical
theorem ZdQ {α:Type}:∀{l m:List α},l.Nodup->(∀x∈l,x∈m)->l.length<=m.length
 | [],_,_,_=>Ax _
 |x::l,m,h,hs=>by
  rw [Ay]at h;have c:x∈m:=hs x yG;have h2:=ZdQ (m:=m.erase x) h.2 (λy a=>(List.mem_erase_of_ne (λe=>h.1 (by rw [<-e];exact a))).2 (hs y (by simp [a])));rw [List.length_erase_of_mem c]at h2;have:=List.length_pos_of_mem c;simp only[AA];omega
theorem Zvs {α:Type}{l m:List α}(j:l.Nodup) (d:∀x∈l,x∈m) (u:m.length<=l.length):∀x∈m,x∈l:=λx c=>by
 refine Classical.byContradiction λh=>?_;have:=ZdQ (l:=x::l) (m:=m) (Ay.2 ⟨h,j⟩) (λy a=>by
  rcases A6.1 a with rfl|a
  .exact c
  .exact d y a)
 simp only[AA]at this;omega
theorem Zka (x:Zd):¬Zci x x<0:=by rw [(ZdF.eq x x).2 rfl];omega
theorem Zcm {l:List Zd}(h:ZgV l):l.Nodup:=List.Pairwise.imp (λ{a b} c e=>by subst e;exact Zka a c) h
theorem ZhD:∀{a b:List Zd},ZgV a->ZgV b->(∀x,x∈a↔x∈b)->a=b
 | [],[],_,_,_=>rfl
 | [],y::b,_,_,h=>by have:=(h y).2 yG;simp at this
 |x::a,[],_,_,h=>by have:=(h x).1 yG;simp at this
 |x::a,y::b,ha,hb,h=>by
  unfold ZgV at ha hb;rw [AR]at ha hb;have e:x=y:=by
   rcases A6.1 ((h x).1 yG) with e|u
   .exact e
   .rcases A6.1 ((h y).2 yG) with e|j
    .exact e.symm
    .exact absurd (ZdF.tr _ _ _ (ha.1 y j) (hb.1 x u)) (Zka x)
  subst e;rw [ZhD ha.2 hb.2 λz=>?_];constructor
  .intro d;rcases A6.1 ((h z).1 (by simp [d])) with e|c
   .subst e;exact absurd (ha.1 z d) (Zka z)
   .exact c
  .intro d;rcases A6.1 ((h z).2 (by simp [d])) with e|c
   .subst e;exact absurd (hb.1 z d) (Zka z)
   .exact c
theorem ZjK {f:Zd}:∀{l:List Zd},f∉l->(Zdy l f).length=l.length+1
 | [],_=>rfl
 |x::l,h=>by
  simp only[A6,not_or]at h;simp only[Zdy];split
  .rw [AA,ZjK h.2];rfl
  .rw [if_neg (λe=>h.1 ((ZdF.eq _ _).1 e).symm)];rfl
def Qc (r:Zf):List Zp:=r.cond.filter λx=>x.kind != 2
theorem Zqe {r:Zf}:∀x∈Qc r,¬x.kind=2:=λx a=>by
 have:=(Ap.1 a).2;simpa using this
theorem ZeH (r:Zf):(Qc r).length<=r.cond.length:=Aq _ _
theorem Zua (l:List Zp):YU (l.filter λx=>x.kind != 2)=YU l:=by
 induction l with
 |nil=>rfl
 |cons x l ih=>
  by_cases a:x.kind=2
  .rw [Az (by simpa using a),ih];simp [YU,a]
  .rw [B1 (by simpa using a)];unfold YU at ih ⊢;rw [Ar,Ar,ih]
theorem Zcx (r:Zf) (h:r.cond.length<=1048576):Y1 r=some (Qc r):=by
 unfold Y1 Qc;rw [Ze5 (p:=λx:Zp=>x.kind != 2)]
 .simp
 .intro j x s c a;split
  .rw [Zi _ (by simp at a;omega)]
  .rfl
theorem ZfW (r:Zf) (h:r.cond.length<=1048576):Qf r=some (Qc r):=Zcx r h
theorem Ze8 {F G:List Zd}(h:∀f∈F,f∈G):∀{l:List Zp},(∀x∈l,¬x.kind=2)->∀t∈Zy l F,t∈Zy l G:=by
 have:∀n (l:List Zp),l.length=n->(∀x∈l,¬x.kind=2)->∀t∈Zy l F,t∈Zy l G:=by
  intro n;induction n with
  |zero=>intro l c _ t a;rw [Ao c]at a ⊢;exact a
  |succ n ih=>
   intro l c d;obtain ⟨p,x,rfl⟩:∃p x,l=p++[x]:=⟨l.dropLast,l.getLast (by intro e;simp [e]at c),(B2 _).symm⟩
   intro t a;rw [ZaQ]at a ⊢;obtain ⟨s,v,a⟩:=AG.1 a;refine AG.2 ⟨s,ih p (by simpa using c) (λy u=>d y (by simp [u])) s v,?_⟩;unfold Zc1 at a ⊢;by_cases j:x.kind=1
   .rw [if_pos j]at a ⊢;obtain ⟨f,w,e⟩:=AH.1 a;exact AH.2 ⟨f,h f w,e⟩
   .have h2:=d x yG;have e:Zeu x s.binding G=Zeu x s.binding F:=by unfold Zeu;simp only[if_neg j,if_neg h2]
    rw [if_neg j]at a ⊢;rw [e];exact a
 intro l d;exact this _ l rfl d
theorem QP {F:List Zd}(h:Z2 F=true):ZgV F:=by
 unfold Z2 at h;rw [A4]at h;have c:∀i y x,F[i]?=some y->F[i+1]?=some x->Zci y x<0:=λi y x v w=>by
  have:=Zij h.2 (i+1) x w;unfold Zdz at this;rw [A4,AB,if_neg yE,B8,v]at this;simpa using this.2
 have u:∀(l:List Zd),(∀i y x,l[i]?=some y->l[i+1]?=some x->Zci y x<0)->ZgV l:=by
  intro l;induction l with
  |nil=>intro _;exact Aj
  |cons a l ih=>
   intro A;have hp:=ih (λi y x v w=>A (i+1) y x (by simpa using v) (by simpa using w));unfold ZgV at hp ⊢;rw [AR];refine ⟨λx j=>?_,hp⟩;cases l with
   |nil=>simp at j
   |cons b l=>
    have d:=A 0 a b rfl rfl;rcases A6.1 j with rfl|j
    .exact d
    .rw [AR]at hp;exact ZdF.tr _ _ _ d (hp.1 x j)
 exact u F c
def Yh (a:Zw) (t:Zt):Zd:=(XT (Xc a.pattern t.binding)).1
def ZjP (R:List Zf) (G:List Zd):Prop:=∀r∈R,∀t∈Zy (Qc r) G,∀a∈r.thn,Yh a t∈G
structure Cl (R:List Zf) (base G:List Zd):Prop where
 asc:ZgV G
 base:∀f∈base,f∈G
 closed:ZjP R G
structure ZfH (R:List Zf) (base F:List Zd):Prop where
 asc:ZgV F
 ok:∀f∈F,Ya f=true
 inc:∀f∈base,f∈F
 low:∀G,Cl R base G->∀f∈F,f∈G
def Zpa (R:List Zf) (base:List Zd):Prop:=∀G,Cl R base G->25<=G.length
theorem ZfH.over {R:List Zf}{base F:List Zd}(h:ZfH R base F) (a:25<=F.length):Zpa R base:=λG c=>AS a (ZdQ (Zcm h.asc) (h.low G c))
theorem ZfH.add {R:List Zf}{c F:List Zd}(h:ZfH R c F) {f:Zd}(u:Ya f=true) (a:∀G,Cl R c G->f∈G):ZfH R c (Zdy F f) where
 asc:=Zoj h.asc
 ok:=λg d=>by
  rcases XI.1 d with rfl|d
  .exact u
  .exact h.ok g d
 inc:=λg d=>XI.2 (.inr (h.inc g d))
 low:=λG j g d=>by
  rcases XI.1 d with rfl|d
  .exact a G j
  .exact h.low G j g d
theorem ZhU {b:List Zs}(j:Yb b=true):∀{p l:List ByteArray},Zf3 p b=some l->l.all ZS=true/\l.length=p.length
 | [],l,h=>by
  simp only[Zf3,Option.some.injEq]at h;subst h;simp
 |a::p,l,h=>by
  simp only[Zf3]at h;obtain ⟨v,d,h⟩:=Option.bind_eq_some_iff.1 h;obtain ⟨C,c,rfl⟩:=AY.1 h;obtain ⟨B,A⟩:=ZhU j c;have u:ZS v=true:=by
   unfold Qk at d;split at d
   .rename_i u;obtain rfl:=AQ d;exact u
   .split at d
    .obtain ⟨x,w,_,rfl⟩:=Zx9 d;unfold Yb at j;rw [A4]at j;have:=(Zyh j.2 x w).1;unfold Zgp at this;rw [A4]at this;exact this.2
    .simp at d
  simp [u,B,A]
theorem ZvO {r:Zf}{F:List Zd}{t:Zt}(d:Z3 r=true) (x:t∈Zy (Qc r) F) {a:Zw}(h:a∈r.thn):Ya (Yh a t)=true:=by
 unfold Z3 at d;simp only[A4]at d;have A:a.kind=1:=by
  have:=AJ.1 d.2 a h;simpa using this
 have c:=XA F _ t x;obtain ⟨j,C⟩:=Zqp d.1.1 a h A;have hp:=j;unfold Z5 at hp;simp only[A4,decide_eq_true_iff]at hp;obtain ⟨l,e,_⟩:=Zju (b:=t.binding) hp.2 (λv u w=>c.vars v (by
  unfold Qc;rw [Zua];exact C v u w))
 obtain ⟨B,D⟩:=ZhU c.bind e;have:Xc a.pattern t.binding=some { rel:=a.pattern.rel,args:=l }:=by
  unfold Xc;rw [if_pos ⟨j,c.bind⟩,e];rfl
 unfold Yh;rw [this];show Ya { rel:=a.pattern.rel,args:=l }=true
 unfold Ya;simp only[A4,decide_eq_true_iff];exact ⟨⟨hp.1.1,yE⟩,B⟩
theorem ZfH.derived {R:List Zf}{c F:List Zd}(h:ZfH R c F) {r:Zf}(u:r∈R) {t:Zt}(j:t∈Zy (Qc r) F) {a:Zw}(v:a∈r.thn):∀G,Cl R c G->Yh a t∈G:=
 λG d=>d.closed r u t (Ze8 (h.low G d) Zqe t j) a v
def Res (R:List Zf) (base:List Zd) (x:List Zd×Bool):Prop:=
 (x.2=true/\ZfH R base x.1/\x.1.length<=24/\ZjP R x.1)\/(x.2=false/\x.1=[]/\Zpa R base)
theorem Res.uniq {R:List Zf}{h:List Zd}{x y:List Zd×Bool}(E:Res R h x) (D:Res R h y):x=y:=by
 obtain ⟨F,b⟩:=x;obtain ⟨G,c⟩:=y;rcases E with ⟨A,d,w,C⟩|⟨A,d,w⟩<;>rcases D with ⟨u,a,j,B⟩|⟨u,a,j⟩<;>simp only at A d w u a j<;>subst A<;>subst u
 .have e:F=G:=ZhD d.asc a.asc λf=>⟨λv=>d.low G ⟨a.asc,a.inc,B⟩ f v,λv=>a.low F ⟨d.asc,d.inc,C⟩ f v⟩
  rw [e]
 .have:=j F ⟨d.asc,d.inc,C⟩;omega
 .have:=w G ⟨a.asc,a.inc,B⟩;omega
 .rw [d,a]
structure Zkn (R:List Zf) (base row0:List Zd) (s:List Zd×Bool):Prop where
 good:ZfH R base s.1
 len:s.1.length<=24
 sub:∀f∈row0,f∈s.1
 grow:s.2=true->row0.length<s.1.length
 same:s.2=false->s.1=row0
theorem Zxc {ρ:Type}{R:List Zf}{w c:List Zd}{r:Zf}(I:r∈R) (K:Z3 r=true) {d:List Zd}(M:ZfH R w d) {t:Zt}(F:t∈Zy (Qc r) d) {q:ρ}
  {body:Nat->Zw->(List Zd×Bool)->Option ((List Zd×Bool) ⊕ ρ)}
  (L:∀i a s,body i a s=(Yo s.1 (Yh a t)).bind λj=>if (decide (0<=j))=true then some (.inl s) else if (decide (24<=(s.1.length:Int)))=true then some (.inr q) else (Qw s.1 (Yh a t)).bind λk=>some (.inl (k,true)))
  (s:List Zd×Bool) (h:Zkn R w c s):
  (∃s',(∀fin:(List Zd×Bool)->Option ρ,Zm body fin r.thn 0 s=fin s')/\Zkn R w c s'/\(s'.2=false->s.2=false/\∀a∈r.thn,Yh a t∈c))\/((∀fin:(List Zd×Bool)->Option ρ,Zm body fin r.thn 0 s=some q)/\Zpa R w):=by
 rcases Zcl (body:=body) (λp s'=>Zkn R w c s'/\(s'.2=false->s.2=false/\∀a∈p,Yh a t∈c)) (λx=>x=q/\Zpa R w) r.thn s ⟨h,λA=>⟨A,yG⟩⟩ (λp a s' G P N=>by
  obtain ⟨B,H⟩:=N;rw [L];obtain ⟨z,J,o⟩:=ZoI s'.1 (Yh a t);rw [J,A0];have g:=ZvO K F G;have u:=M.derived I F G;by_cases C:Yh a t∈s'.1
  .left
   have v:¬z<0:=λh=>o.1 h C;rw [if_pos (by simp;omega)];refine ⟨s',rfl,B,λA=>⟨(H A).1,λb D=>?_⟩⟩;rcases A5.1 D with D|D
   .exact (H A).2 b D
   .simp at D;subst D;rw [<-B.same A];exact C
  .have v:=o.2 C;rw [if_neg (by simp;omega)];by_cases O:24<=s'.1.length
   .right
    rw [if_pos (by simp;omega)];refine ⟨q,rfl,rfl,(B.good.add g u).over ?_⟩;rw [ZjK C];omega
   .left
    rw [if_neg (by simp;omega),Zq0 _ _ C yE (λf E=>by have:=YD (B.good.ok f E);omega) (by have:=YD g;omega),A0];refine ⟨_,rfl,⟨B.good.add g u,by rw [ZjK C];omega,λf E=>XI.2 (.inr (B.sub f E)),λ_=>?_,λh=>by simp at h⟩,λh=>by simp at h⟩;rw [ZjK C];have:=ZdQ (l:=c) (m:=s'.1);cases A:s'.2 with
    |true=>have:=B.grow A;omega
    |false=>rw [B.same A];omega) with ⟨s',e,h'⟩|⟨x,e,rfl,h'⟩
 .exact .inl ⟨s',e,h'⟩
 .exact .inr ⟨e,h'⟩
theorem ZxS {ρ:Type}{R:List Zf}{v b:List Zd}{r:Zf}(I:r∈R) (L:Z3 r=true) {q:ρ}
  {ab:Zt->Nat->Zw->(List Zd×Bool)->Option ((List Zd×Bool) ⊕ ((List Zd×Bool) ⊕ ρ))} {body:Nat->Zt->(List Zd×Bool)->Option ((List Zd×Bool) ⊕ ρ)}
  (f:∀t i a s,ab t i a s=(Yo s.1 (Yh a t)).bind λc=>if (decide (0<=c))=true then some (.inl s) else if (decide (24<=(s.1.length:Int)))=true then some (.inr (.inr q)) else (Qw s.1 (Yh a t)).bind λd=>some (.inl (d,true)))
  (N:∀i t s,body i t s=Zm (ab t) (λs=>some (.inl s)) r.thn 0 s)
  (s:List Zd×Bool) (h:Zkn R v b s):
  (∃s',(∀fin:(List Zd×Bool)->Option ρ,Zm body fin (Zy (Qc r) s.1) 0 s=fin s')/\Zkn R v b s'/\(s'.2=false->s.2=false/\∀t∈Zy (Qc r) b,∀a∈r.thn,Yh a t∈b))\/((∀fin:(List Zd×Bool)->Option ρ,Zm body fin (Zy (Qc r) s.1) 0 s=some q)/\Zpa R v):=by
 rcases Zcl (body:=body) (λp s'=>Zkn R v b s'/\(s'.2=false->s.2=false/\∀t∈p,∀a∈r.thn,Yh a t∈b)) (λx=>x=q/\Zpa R v) (Zy (Qc r) s.1) s ⟨h,λA=>⟨A,yG⟩⟩ (λp t s' H P O=>by
  obtain ⟨D,E⟩:=O;rw [N];rcases Zxc I L h.good H (f t) s' D with ⟨G,F,g,j⟩|⟨F,M⟩
  .left
   refine ⟨G,F _,g,λA=>?_⟩;obtain ⟨C,B⟩:=j A;obtain ⟨K,J⟩:=E C;refine ⟨K,λu w=>?_⟩;rcases A5.1 w with w|w
   .exact J u w
   .simp at w;subst w;exact B
  .exact .inr ⟨q,F _,rfl,M⟩) with ⟨s',e,D,E⟩|⟨x,e,rfl,h'⟩
 .refine .inl ⟨s',e,D,λA=>?_⟩;obtain ⟨C,B⟩:=E A;exact ⟨C,by rw [h.same C]at B;exact B⟩
 .exact .inr ⟨e,h'⟩
theorem ZEq {ρ:Type}{R:List Zf}{v b:List Zd}(L:∀r∈R,Z3 r=true) (N:ZfH R v b) (g:b.length<=24) {q:ρ}
  {ab:Zt->Nat->Zw->(List Zd×Bool)->Option ((List Zd×Bool) ⊕ ((List Zd×Bool) ⊕ ((List Zd×Bool) ⊕ ρ)))} {tb:Zf->Nat->Zt->(List Zd×Bool)->Option ((List Zd×Bool) ⊕ ((List Zd×Bool) ⊕ ρ))} {body:Nat->Zf->(List Zd×Bool)->Option ((List Zd×Bool) ⊕ ρ)}
  (j:∀t i a s,ab t i a s=(Yo s.1 (Yh a t)).bind λc=>if (decide (0<=c))=true then some (.inl s) else if (decide (24<=(s.1.length:Int)))=true then some (.inr (.inr (.inr q))) else (Qw s.1 (Yh a t)).bind λd=>some (.inl (d,true)))
  (k:∀r i t s,tb r i t s=Zm (ab t) (λs=>some (.inl s)) r.thn 0 s)
  (K:∀i r s,r∈R->s.1.length<=24->(∀f∈s.1,Ya f=true)->body i r s=Zm (tb r) (λs=>some (.inl s)) (Zy (Qc r) s.1) 0 s):
  (∃s',(∀fin:(List Zd×Bool)->Option ρ,Zm body fin R 0 (b,false)=fin s')/\Zkn R v b s'/\(s'.2=false->ZjP R b))\/((∀fin:(List Zd×Bool)->Option ρ,Zm body fin R 0 (b,false)=some q)/\Zpa R v):=by
 rcases Zcl (body:=body) (λp s'=>Zkn R v b s'/\(s'.2=false->∀r∈p,∀t∈Zy (Qc r) b,∀a∈r.thn,Yh a t∈b)) (λx=>x=q/\Zpa R v) R (b,false) ⟨⟨N,g,λf F=>F,λh=>by simp at h,λ_=>rfl⟩,yG⟩ (λp r s' B O M=>by
  obtain ⟨A,C⟩:=M;rw [K _ _ _ B A.len A.good.ok];rcases ZxS (q:=.inr q) B (L r B) (j) (k r) s' A with ⟨E,D,l,m⟩|⟨D,J⟩
  .left
   refine ⟨E,D _,l,λI=>?_⟩;obtain ⟨H,G⟩:=m I;intro u w;rcases A5.1 w with w|w
   .exact C H u w
   .simp at w;subst w;exact G
  .exact .inr ⟨q,D _,rfl,J⟩) with ⟨s',e,A,C⟩|⟨x,e,rfl,h'⟩
 .exact .inl ⟨s',e,A,C⟩
 .exact .inr ⟨e,h'⟩
theorem ZAZ {R:List Zf}{h:List Zd}{body:(List Zd×Bool)->Option ((List Zd×Bool) ⊕ (List Zd×Bool))}(b:∀row,body (row,false)=some (.inr (row,true)))
  (c:∀row,ZfH R h row->row.length<=24->(∃s',body (row,true)=some (.inl s')/\Zkn R h row s'/\(s'.2=false->ZjP R row))\/(body (row,true)=some (.inr ([],false))/\Zpa R h)) (a:ZfH R h h) (d:h.length<=24):∃x,Ys body (h,true)=some x/\Res R h x:=by
 have v:∀n row,ZfH R h row->row.length<=24->25<=row.length+n->∃x,Ys body (row,true)=some x/\Res R h x:=by
  intro n;induction n with
  |zero=>intro row _ F E;omega
  |succ n ih=>
   intro row B A D;rcases c row B A with ⟨⟨f,u⟩,e,j,C⟩|⟨e,w⟩
   .rw [Yg e];cases u with
    |true=>
     have:=j.grow rfl;exact ih f j.good j.len (by simp only at this;omega)
    |false=>
     have hs:=j.same rfl;simp only at hs;subst hs;exact ⟨_,ZZ (b _),.inl ⟨rfl,j.good,j.len,C rfl⟩⟩
   .exact ⟨_,ZZ e,.inr ⟨rfl,rfl,w⟩⟩
 exact v 25 h a d yE
theorem ZiA {R:List Zf}(C:Zb2 R) (base:List Zd):(¬(ZN R&&R.all (Xq R))=true\/¬Z2 base=true->Yy R base=some ([],false))/\((ZN R&&R.all (Xq R))=true->Z2 base=true->∃x,Yy R base=some x/\Res R base x):=by
 constructor
 .intro h;unfold Yy;rw [ZgM C,A0];split
  .rename_i A;rw [Zfq,A0,if_neg (h.resolve_left (λh=>h A))]
  .rfl
 .intro A B;have D:∀r∈R,Z3 r=true:=λr w=>by
   rw [A4]at A;have:=AJ.1 A.2 r w;unfold Xq at this;rw [A4]at this;exact this.1
  have j:∀r∈R,r.cond.length<=4:=λr w=>by
   have:=D r w;unfold Z3 at this;simp only[A4]at this;exact (Xv this.1.1).1
  obtain ⟨k,l⟩:=Xs B;have g:ZfH R base base:=⟨QP B,l,λf v=>v,λG K f v=>K.base f v⟩
  unfold Yy;rw [ZgM C,A0,if_pos A,Zfq,A0,if_pos B,Zel _ yE (λf v=>by have:=YD (l f v);omega),A0];refine ZAZ (λrow=>rfl) (λrow I H=>?_) g k;have m:=ZEq (ρ:=(List Zd×Bool) ⊕ (List Zd×Bool)) (q:=.inr ([],false)) D I H
   (ab:=λt _ a s=>(Yo s.1 (Yh a t)).bind λb=>if (decide (0<=b))=true then some (.inl s) else if (decide (24<=(s.1.length:Int)))=true then some (.inr (.inr (.inr (.inr ([],false))))) else (Qw s.1 (Yh a t)).bind λc=>some (.inl (c,true)))
   (tb:=λr _ t s=>Zm (λ_ a s=>(Yo s.1 (Yh a t)).bind λb=>if (decide (0<=b))=true then some (.inl s) else if (decide (24<=(s.1.length:Int)))=true then some (.inr (.inr (.inr (.inr ([],false))))) else (Qw s.1 (Yh a t)).bind λc=>some (.inl (c,true))) (λs=>some (.inl s)) r.thn 0 s)
   (body:=λ_ r s=>(Y1 r).bind λo=>(Zap o s.1).bind λp=>Zm (λ_ t s=>Zm (λ_ a s=>(Xi a.pattern t.binding).bind λd=>(Yo s.1 d.1).bind λb=>if (decide (0<=b))=true then some (.inl s) else if (decide (24<=(s.1.length:Int)))=true then some (.inr (.inr (.inr (.inr ([],false))))) else (Qw s.1 d.1).bind λc=>some (.inl (c,true))) (λs=>some (.inl s)) r.thn 0 s) (λs=>some (.inl s)) p 0 s)
   (λ_ _ _ _=>rfl) (λ_ _ _ _=>rfl) (λi r s w E u=>by
    show (Y1 r).bind _=_
    rw [Zcx r (by have:=j r w;omega),A0,Zfk _ _ (by have:=ZeH r;have:=j r w;omega) E (λf v=>YD (u f v)),A0];simp only[ZcK,A0];rfl)
  rcases m with ⟨s',e,J,L⟩|⟨e,F⟩
  .exact .inl ⟨s',e (λs=>some (.inl s)),J,L⟩
  .exact .inr ⟨e (λs=>some (.inl s)),F⟩
structure ZmQ (R:List Zf) (base l:List Zd) (row:List Zd):Prop where
 good:ZfH R base row
 sub:∀f∈l,f∈row
theorem ZE8 {ρ:Type}{R:List Zf}{j l:List Zd}{r:Zf}(E:r∈R) (G:Z3 r=true) (I:ZfH R j l) {t:Zt}(C:t∈Zy (Qc r) l) {N:Nat}(M:N<=1000000) (F:r.thn.length<=2)
  {body:Nat->Zw->List Zd->Option (List Zd ⊕ ρ)} (H:∀i a row,body i a row=(Xe row (Yh a t)).bind λv=>some (.inl v)) (row:List Zd) (h:ZmQ R j l row) (d:row.length<=N):
  ∃c,(∀fin:List Zd->Option ρ,Zm body fin r.thn 0 row=fin c)/\ZmQ R j l c/\c.length<=N+2/\(∀f∈row,f∈c)/\∀a∈r.thn,Yh a t∈c:=by
 obtain ⟨c,e,x,K,B,A⟩:=ZdS (body:=body) (λp c=>ZmQ R j l c/\c.length<=N+p.length/\(∀f∈row,f∈c)/\∀a∈p,Yh a t∈c) r.thn row ⟨h,by simpa using d,λf u=>u,yG⟩ (λp a c D L J=>by
  obtain ⟨x,K,B,A⟩:=J;have g:=ZvO G C D;rw [H,ZnH _ _ yE (λf u=>by have:=YD (x.good.ok f u);omega) (by have:=YD g;omega),A0];refine ⟨_,rfl,⟨x.good.add g (I.derived E C D),λf u=>XI.2 (.inr (x.sub f u))⟩,?_,λf u=>XI.2 (.inr (B f u)),λb w=>?_⟩
  .have:=Zj6 (Yh a t) c;simp only[AF,Ac];omega
  .rcases A5.1 w with w|w
   .exact XI.2 (.inr (A b w))
   .simp at w;subst w;exact XI.2 (.inl rfl))
 exact ⟨c,e,x,yE,B,A⟩
theorem ZER {ρ:Type}{R:List Zf}{w l:List Zd}{r:Zf}(I:r∈R) (L:Z3 r=true) (P:ZfH R w l) (c:l.length<=24) (M:r.cond.length<=4) (j:r.thn.length<=2)
  {body:Nat->Zt->List Zd->Option (List Zd ⊕ ρ)} (O:∀i t row,t∈Zy (Qc r) l->body i t row=Zm (λ(_:Nat) (a:Zw) row=>(Xe row (Yh a t)).bind λv=>(some (.inl v):Option (List Zd ⊕ (List Zd ⊕ ρ)))) (λrow=>some (.inl row)) r.thn 0 row) (row:List Zd) (h:ZmQ R w l row) (d:row.length<=24):
  ∃b,(∀fin:List Zd->Option ρ,Zm body fin (Zy (Qc r) l) 0 row=fin b)/\ZmQ R w l b/\(∀f∈row,f∈b)/\∀t∈Zy (Qc r) l,∀a∈r.thn,Yh a t∈b:=by
 have hn:=Zbw l c (Qc r) (by have:=ZeH r;omega);obtain ⟨b,e,D,H,C,B⟩:=ZdS (body:=body) (λp b=>ZmQ R w l b/\b.length<=24+2*p.length/\(∀f∈row,f∈b)/\∀t∈p,∀a∈r.thn,Yh a t∈b) (Zy (Qc r) l) row ⟨h,by simpa using d,λf A=>A,yG⟩ (λp t b E V S=>by
  obtain ⟨D,H,C,B⟩:=S;rw [O _ _ _ E];obtain ⟨g,T,K,U,G,J⟩:=ZE8 (ρ:=List Zd ⊕ ρ) (body:=λ(_:Nat) (a:Zw) row=>(Xe row (Yh a t)).bind λv=>some (.inl v)) I L P E (N:=24+2*p.length) yE j (λ_ _ _=>rfl) b D H;refine ⟨g,T _,K,by simp only[AF,Ac];omega,λf A=>G f (C f A),λu x a F=>?_⟩;rcases A5.1 x with x|x
  .exact G _ (B u x a F)
  .simp at x;subst x;exact J a F)
 exact ⟨b,e,D,C,B⟩
theorem Ziy {R:List Zf}(O:Zb2 R) (base:List Zd) (g:base.length<=1048576):(¬(ZN R&&R.all (Xq R))=true\/¬Z2 base=true->s_PossibleFacts R base=some ([],false))/\((ZN R&&R.all (Xq R))=true->Z2 base=true->∃x,s_PossibleFacts R base=some x/\Res R base x):=by
 constructor
 .intro h;unfold s_PossibleFacts;rw [ZgR O,A0];split
  .rename_i I;rw [ZiN _ g,A0,if_neg (h.resolve_left (λh=>h I))]
  .rfl
 .intro I M;have P:∀r∈R,Z3 r=true:=λr C=>by
   rw [A4]at I;have:=AJ.1 I.2 r C;unfold Xq at this;rw [A4]at this;exact this.1
  have y:∀r∈R,r.cond.length<=4/\r.thn.length<=2:=λr C=>by
   have:=P r C;unfold Z3 at this;simp only[A4]at this;exact Xv this.1.1
  obtain ⟨m,o⟩:=Xs M;have j:ZfH R base base:=⟨QP M,o,λf D=>D,λG hG f D=>hG.base f D⟩
  unfold s_PossibleFacts;rw [ZgR O,A0,if_pos I,ZiN _ g,A0,if_pos M,Zfg _ yE (λf D=>by have:=YD (o f D);omega),A0];refine ZAZ (λrow=>rfl) (λl H K=>?_) j m;rcases Zcl (σ:=List Zd) (ρ:=(List Zd×Bool) ⊕ (List Zd×Bool)) (body:=λ(_:Nat) (r:Zf) row=>(Qf r).bind λq=>(Zbx q l).bind λv=>Zm (λ_ t row=>Zm (λ_ a row=>(XO a.pattern t.binding).bind λb=>(Xe row b.1).bind λc=>some (.inl c)) (λrow=>some (.inl row)) r.thn 0 row) (λrow=>if (decide (24<(row.length:Int)))=true then some (.inr (.inr ([],false))) else some (.inl row)) v 0 row)
   (λp row=>ZmQ R base l row/\row.length<=24/\∀r∈p,∀t∈Zy (Qc r) l,∀a∈r.thn,Yh a t∈row) (λx=>x=.inr ([],false)/\Zpa R base) R l ⟨⟨H,λf D=>D⟩,K,yG⟩ (λp r row C hp hI=>by
    obtain ⟨W,V,U⟩:=hI;obtain ⟨z,A⟩:=y r C;obtain ⟨w,e,N,T,S⟩:=ZER (ρ:=List Zd ⊕ ((List Zd×Bool) ⊕ (List Zd×Bool))) (body:=λ(_:Nat) (t:Zt) row=>Zm (λ_ a row=>(XO a.pattern t.binding).bind λb=>(Xe row b.1).bind λc=>some (.inl c)) (λrow=>some (.inl row)) r.thn 0 row) C (P r C) H K z A (λi t row F=>by
     have hb6:=ZaI (XA l _ t F).bind;have e1:∀p,XO p t.binding=some (XT (Xc p t.binding)):=λp=>ZiT p t.binding yE;simp only[e1,A0];rfl) row W V
    simp only[ZfW r yE,A0,Zi3 (Qc r) l (by have:=ZeH r;omega) K (λf D=>YD (H.ok f D)),e];by_cases aa:24<w.length
    .rw [if_pos (by simp;omega)];exact .inr ⟨_,rfl,rfl,N.good.over yE⟩
    .rw [if_neg (by simp;omega)];refine .inl ⟨_,rfl,N,yE,λu E t F a J=>?_⟩;rcases A5.1 E with E|E
     .exact T _ (U u E t F a J)
     .simp at E;subst E;exact S t F a J) with ⟨row,e,hP,hlen,hC⟩|⟨x,e,rfl,ho⟩
  .left
   refine ⟨_,e (λrow=>some (.inl (row,decide ((l.length:Int)<(row.length:Int))))),?_⟩;by_cases k:l.length<row.length
   .have L:decide ((l.length:Int)<(row.length:Int))=true:=by simpa using k
    rw [L];exact ⟨⟨hP.good,hlen,hP.sub,λ_=>k,λh=>by simp at h⟩,λh=>by simp at h⟩
   .have L:decide ((l.length:Int)<(row.length:Int))=false:=by simpa using k
    have d:=Zvs (Zcm H.asc) hP.sub yE;have B:row=l:=ZhD hP.good.asc H.asc λf=>⟨d f,hP.sub f⟩
    rw [L];exact ⟨⟨hP.good,hlen,hP.sub,λh=>by simp at h,λ_=>B⟩,λ_ r C t F a J=>d _ (hC r C t F a J)⟩
  .exact .inr ⟨e (λrow=>some (.inl (row,decide ((l.length:Int)<(row.length:Int))))),ho⟩
theorem Zja {R:List Zf}(v:Zb2 R) (c:List Zd) (a:c.length<=1048576):∃x,s_PossibleFacts R c=some x/\Yy R c=some x/\(x=([],false)\/(ZN R&&R.all (Xq R))=true/\Z2 c=true/\Res R c x):=by
 obtain ⟨j,A⟩:=Ziy v c a;obtain ⟨u,B⟩:=ZiA v c;by_cases h:(ZN R&&R.all (Xq R))=true
 .by_cases d:Z2 c=true
  .obtain ⟨x,C,r1⟩:=A h d;obtain ⟨y,w,r2⟩:=B h d;rw [<-r1.uniq r2]at w;exact ⟨x,C,w,.inr ⟨h,d,r1⟩⟩
  .exact ⟨_,j (.inr d),u (.inr d),.inl rfl⟩
 .exact ⟨_,j (.inl h),u (.inl h),.inl rfl⟩
end
section
open Classical
theorem ZAn {α:Type}{p:Nat->α->Bool}{b:List α}(d:∀i x,p i x=true↔b[i]?=some x):∀(a:List α),a.length=b.length->(QG p a 0=true↔a=b):=by
 intro a u;constructor
 .intro j;apply As;intro i;by_cases h:i<a.length
  .have hx:=A9 h;have:=Zij j i _ hx;rw [AB,d]at this;rw [hx,this]
  .rw [AT yE,AT yE]
 .rintro rfl;have:∀(l c:List α),a=c++l->QG p l c.length=true:=by
   intro l;induction l with
   |nil=>intro c _;rfl
   |cons x l ih=>
    intro c e;simp only[QG,A4];refine ⟨(d _ _).2 (by rw [e];simp),?_⟩;have:=ih (c++[x]) (by rw [e];simp);simpa using this
  exact this a [] rfl
end
section
open Classical
theorem ZHB {α:Type}{a b:List α}{body:Nat->α->Unit->Option (Unit ⊕ Bool)}{fin:Unit->Option Bool}(h:a.length=b.length) (v:∀i x y,a[i]?=some x->b[i]?=some y->body i x ()=some (bif decide (x=y) then .inl () else .inr false)):Zm body fin a 0 ()=if a=b then fin () else some false:=by
 rw [Xf (p:=λi x=>decide (b[i]?=some x)) (r:=false)]
 .have:=ZAn (p:=λi x=>decide (b[i]?=some x)) (b:=b) (λi x=>by rw [decide_eq_true_iff]) a h;by_cases e:a=b
  .rw [if_pos (this.2 e),if_pos e]
  .rw [if_neg λu=>e (this.1 u),if_neg e]
 .intro j x d;have hj:=(AE.1 d).1;have c:b[j]?=some b[j]:=A9 yE;rw [AB,v j x b[j] d c,c];congr 2
  rw [AC,decide_eq_true_iff,decide_eq_true_iff];exact ⟨λe=>by rw [e],λe=>(AQ e).symm⟩
theorem ZHh {α:Type}{a b:List α}{body:Nat->α->Unit->Option (Unit ⊕ Bool)}(h:a.length=b.length) (c:∀i x y,a[i]?=some x->b[i]?=some y->body i x ()=some (bif decide (x=y) then .inl () else .inr false)):Zm body (λ_=>some true) a 0 ()=some (decide (a=b)):=by
 rw [ZHB h c];by_cases e:a=b
 .rw [if_pos e,decide_eq_true e]
 .rw [if_neg e,decide_eq_false e]
theorem ZGQ {α:Type}{a b:List α}(h:¬a.length=b.length):(((a.length:Int)) != (b.length:Int))=true:=by simp;omega
theorem ZG2 {α:Type}{a b:List α}(h:a.length=b.length):¬(((a.length:Int)) != (b.length:Int))=true:=by simp;omega
theorem ZlE (a b:List Int):Qg a b=some (decide (a=b)):=by
 unfold Qg;by_cases h:a.length=b.length
 .rw [if_neg (ZG2 h),ZHh h λi x y d c=>by
   rw [Y3,c,A0];by_cases e:x=y
   .rw [if_neg (by simp [e])];simp [e]
   .rw [if_pos (by simp [e])];simp [e]]
  exact congrArg some (decide_eq_decide.2 Iff.rfl)
 .rw [if_pos (ZGQ h)];have:¬a=b:=λe=>h (by rw [e]);simp [this]
end
section
theorem ZfZ (p:Zv) (h:p.args.length<=1048576):Q8 p=some p:=by
 unfold Q8;rw [Zex _ yE];rfl
theorem Zo3 (x:Zp) (h:x.pattern.args.length<=1048576):Zed x=some x:=by
 unfold Zed;rw [ZfZ _ h];rfl
theorem Zmt (l:List Zp) (d:l.length<=1048576) (h:∀x∈l,x.pattern.args.length<=1048576):Zdp l=some l:=by
 unfold Zdp;rw [QB (g:=λy=>y)]
 .simp
 .intro j y s a c;rw [Zo3 y (h y a),A0,Zi _ (by simp at c;omega)]
theorem ZoR (r:Zf) (h:Xa r):Zd5 r=some r:=by
 unfold Zd5;rw [Zmt _ h.1 h.3,A0,QB (g:=λy=>y)]
 .simp
 .intro j y s a c;have hl:=h.2;rw [ZfZ _ (h.4 y a),A0,Zi _ (by simp at c;omega)]
open Classical
end
section
open Classical
theorem Zkh (R:List Zf) (d:R.length<=1048576) (h:∀r∈R,Xa r):ZbC R=some R:=by
 unfold ZbC;rw [QB (g:=λr=>r)]
 .simp
 .intro j y s a c;rw [ZoR y (h y a),A0,Zi _ (by simp at c;omega)]
end
section
open Classical
theorem ZeJ {α:Type}{q:Nat->α->Prop}{body:Nat->α->Unit->Option (Unit ⊕ Bool)}{fin:Unit->Option Bool}:∀(l:List α) (i:Nat),(∀(j:Nat) (x:α),l[j]?=some x->(q (i+j) x->body (i+j) x ()=some (.inl ()))/\(¬q (i+j) x->body (i+j) x ()=some (.inr false)))->
  Zm body fin l i ()=if (∀j x,l[j]?=some x->q (i+j) x) then fin () else some false
 | [],i,_=>by rw [if_pos (λj x h=>by simp at h)];rfl
 |x::l,i,h=>by
  have h0:=h 0 x yG;rw [Nat.add_zero]at h0;by_cases e:q i x
  .rw [ZQ (s':=()) (h0.1 e),ZeJ (q:=q) l (i+1) λj y a=>by
    have:=h (j+1) y (by simpa using a);rw [show i+1+j=i+(j+1) by omega];exact this]
   by_cases c:∀j y,l[j]?=some y->q (i+1+j) y
   .rw [if_pos c,if_pos λj y a=>?_];cases j with
    |zero=>simp at a;subst a;exact e
    |succ j=>rw [show i+(j+1)=i+1+j by omega];exact c j y (by simpa using a)
   .rw [if_neg c,if_neg λd=>c λj y a=>by
     have:=d (j+1) y (by simpa using a);rw [show i+1+j=i+(j+1) by omega];exact this]
  .rw [Z4 (h0.2 e),if_neg λd=>e (by simpa using d 0 x yG)]
end
section
open Classical
theorem ZxR {α ρ:Type}{l:List α}{i:Nat}(D:i<=l.length) {q:α->Prop}{body:Int->Option (Int ⊕ ρ)}{r1 r2:ρ}
  (a:∀(u:Nat) (x:α),u<i->l[u]?=some x->(q x->body (u:Int)=some (.inr r1))/\(¬q x->body (u:Int)=some (.inl (((u+1:Nat)):Int))))
  (c:body (i:Int)=some (.inr r2)):Ys body 0=some (if ∃y∈l.take i,q y then r1 else r2):=by
 have j:∀(m u:Nat),u+m=i->(∀y∈l.take u,¬q y)->Ys body (u:Int)=some (if ∃y∈l.take i,q y then r1 else r2):=by
  intro m;induction m with
  |zero=>
   intro u A b;have e:u=i:=by omega
   subst e;rw [ZZ c,if_neg λ⟨y,d,w⟩=>b y d w]
  |succ m ih=>
   intro u A b;have v:l[u]?=some l[u]:=A9 yE;obtain ⟨C,B⟩:=a u _ yE v;by_cases h:q l[u]
   .rw [ZZ (C h),if_pos ⟨l[u],List.mem_take_iff_getElem.2 ⟨u,yE,rfl⟩,h⟩]
   .rw [Yg (B h)];refine ih (u+1) yE λy d=>?_;rw [List.take_add_one,v,A5]at d;rcases d with d|d
    .exact b y d
    .simp at d;subst d;exact h
 exact j i 0 yE yG
theorem Zx3 {m:List (Int×Bool)}{k y:Int}:XU (Zc8 m k true) y false=if y=k then true else XU m y false:=by
 unfold XU;induction m with
 |nil=>
  by_cases h:y=k<;>simp [Zc8,ZdK,h]
 |cons p r ih=>
  simp only[Zc8];by_cases h:k=p.1
  .subst h;rw [if_pos rfl];by_cases a:y=p.1
   .simp [ZdK,a]
   .simp [ZdK,a]
  .rw [if_neg h];by_cases a:y=p.1
   .subst a;have:¬p.1=k:=λe=>h e.symm;simp [ZdK,this]
   .simp only[ZdK,if_neg a];exact ih
theorem Zgu (l:List Zr) (d:l.length<=1048576) (h:∀x∈l,x.fact.args.length<=1048576):ZaY l=some (l.map (·.fact)):=by
 unfold ZaY;rw [QB (g:=(·.fact))]
 .simp
 .intro j x s a c;rw [Z6 _ (h x a),A0,Zi _ (by simp at c;omega)]
def Zrw (l:List Zr) (i:Nat) (x:Zr):Prop:=(1<=x.time/\x.time<=200)/\∀y∈l.take i,y.time≠x.time
def Zuk (l:List Zr):Bool:=if (∀(j:Nat) (x:Zr),l[j]?=some x->Zrw l j x) then Z2 (l.map (·.fact)) else false
theorem ZiQ (l:List Zr) (M:l.length<=1048576) (h:∀x∈l,x.fact.args.length<=1048576):Zcr l=some (Zuk l):=by
 unfold Zcr Zuk;have F:∀(r a:List Zr) (v:List (Int×Bool)),l=a++r->(∀k,XU v k false=true↔∃y∈a,y.time=k)->
   Zm (σ:=(List (Int×Bool)))
  (λ(P:Nat) (B:Zr) b=>
   if (decide (B.time<1))=true then
    some (.inr false)
   else
    if (decide (200<B.time))=true then
     some (.inr false)
    else
     if (XU b B.time false)=true then
      some (.inr false)
     else
      some (.inl (Zc8 b B.time true)))
  (λb=>
   (ZaY l).bind λK=>
   (Zbt K).bind λg=>
   some g)
  r a.length v=if (∀(j:Nat) (x:Zr),r[j]?=some x->Zrw l (a.length+j) x) then some (Z2 (l.map (·.fact))) else some false:=by
  intro r;induction r with
  |nil=>
   intro a v _ _;rw [if_pos λj x L=>by simp at L];show (ZaY l).bind _=_
   rw [Zgu l M h,A0,Zfq];rfl
  |cons x r ih=>
   intro a v e d;have c:l.take a.length=a:=by rw [e];simp
   by_cases C:Zrw l a.length x
   .have i:=C;obtain ⟨⟨O,N⟩,H⟩:=i;rw [c]at H;have f:¬XU v x.time false=true:=λA=>by
     obtain ⟨y,u,e⟩:=(d _).1 A;exact H y u e
    rw [ZQ (s':=Zc8 v x.time true) (by rw [if_neg (by simp;omega),if_neg (by simp;omega),if_neg f])];have:=ih (a++[x]) (Zc8 v x.time true) (by rw [e];simp) λk=>by
     rw [Zx3];by_cases G:k=x.time
     .subst G;simp
     .rw [if_neg G,d];constructor
      .rintro ⟨y,u,D⟩;exact ⟨y,by simp [u],D⟩
      .rintro ⟨y,u,D⟩;rcases A5.1 u with u|u
       .exact ⟨y,u,D⟩
       .exfalso;rw [AI]at u;exact G (by rw [<-D,u])
    rw [AF,Ac]at this;rw [this];by_cases E:∀(j:Nat) (y:Zr),r[j]?=some y->Zrw l (a.length+1+j) y
    .rw [if_pos E,if_pos λj y w=>?_];cases j with
     |zero=>simp at w;subst w;exact C
     |succ j=>rw [show a.length+(j+1)=a.length+1+j by omega];exact E j y (by simpa using w)
    .rw [if_neg E,if_neg λA=>E λj y w=>by
      have:=A (j+1) y (by simpa using w);rw [show a.length+1+j=a.length+(j+1) by omega];exact this]
   .rw [if_neg λA=>C (by simpa using A 0 x yG)];refine Z4 ?_;by_cases J:x.time<1
    .rw [if_pos (by simpa using J)]
    rw [if_neg (by simpa using J)];by_cases I:200<x.time
    .rw [if_pos (by simpa using I)]
    rw [if_neg (by simpa using I),if_pos];refine (d _).2 (Classical.byContradiction λf=>C ⟨⟨yE,yE⟩,λy u e=>f ⟨y,?_,e⟩⟩);rw [c]at u;exact u
 have:=F l [] [] rfl (λk=>by simp [XU,ZdK]);simp only[BB,AB]at this;rw [this];split<;>rfl
theorem ZyA {R:List Zf}{n:ByteArray}(h:¬Zda R n<0):∃r,atI R (Zda R n)=some r:=by
 have u:∀(l:List Zf) (i:Nat),∃z,Zm (σ:=Unit) (ρ:=Int) (λ(A:Nat) (w:Zf) _=>if (sEq w.name n)=true then some (.inr (A:Int)) else some (.inl ())) (λ_=>some (-1)) l i ()=some z/\(z<0\/∃(j:Nat) (r:Zf),z=((i+j:Nat):Int)/\l[j]?=some r):=by
  intro l;induction l with
  |nil=>intro i;exact ⟨-1,rfl,.inl yE⟩
  |cons x l ih=>
   intro i;by_cases v:sEq x.name n=true
   .exact ⟨_,Z4 (by rw [if_pos v]),.inr ⟨0,x,yG,rfl⟩⟩
   .obtain ⟨z,e,a⟩:=ih (i+1);refine ⟨z,(ZQ (s':=()) (by rw [if_neg v])).trans e,a.imp id ?_⟩;rintro ⟨j,r,d,c⟩;exact ⟨j+1,r,by rw [d];congr 1;omega,by simpa using c⟩
 obtain ⟨z,e,a⟩:=u R 0;have c:XG R n=some z:=e;rw [Q9]at c;obtain rfl:=AQ c;rcases a with a|⟨j,r,d,B⟩
 .exact absurd a h
 .rw [AB]at d;rw [d,Y3];exact ⟨r,B⟩
def ZFz (r:Zf):Int:=r.cond.foldl (λs x=>if (x.kind==1)=true then IntKind.i64.wrap (s+1) else s) 0
theorem ZzZ {ρ:Type}(r:Zf) {fin:Int->Option ρ}:Zm (σ:=Int) (λ(_:Nat) (x:Zp) a=>if (x.kind==1)=true then some (.inl (IntKind.i64.wrap (a+1))) else some (.inl a)) fin r.cond 0 0=fin (ZFz r):=by
 refine Zeh (f:=λ(s:Int) (x:Zp)=>if (x.kind==1)=true then IntKind.i64.wrap (s+1) else s) λj x s _=>?_;by_cases h:(x.kind==1)=true
 .rw [if_pos h,if_pos h]
 .rw [if_neg h,if_neg h]
def ZlX (e:Zo) (f:ZK):Bool:=decide (∃r,¬Zda e.rules f.rule<0/\atI e.rules (Zda e.rules f.rule)=some r/\(f.times.length:Int)=ZFz r/\∀(j:Nat) (t:Int),f.times[j]?=some t->1<=t/\t<=e.clock)
theorem Zl5 (e:Zo) (f:ZK):ZbX e f=some (ZlX e f):=by
 unfold ZbX ZlX;rw [Q9,A0];by_cases d:Zda e.rules f.rule<0
 .rw [if_pos (decide_eq_true d),decide_eq_false λ⟨r,h,_⟩=>h d]
 rw [if_neg (by simpa using d)];obtain ⟨r,u⟩:=ZyA d;rw [u,A0,ZzZ,ZeJ (q:=λ_ t=>1<=t/\t<=e.clock) f.times 0 λj t A=>by
  refine ⟨λv=>?_,λv=>?_⟩
  .rw [if_neg (by simp;omega),if_neg (by simp;omega)]
  .by_cases a:t<1
   .rw [if_pos (by simpa using a)]
   .rw [if_neg (by simpa using a),if_pos (by simp;omega)]]
 by_cases a:∀(j:Nat) (t:Int),f.times[j]?=some t->1<=t/\t<=e.clock
 .rw [if_pos a];congr 1
  rw [AC,beq_iff_eq,decide_eq_true_iff];constructor
  .intro c;exact ⟨r,d,rfl,c,a⟩
  .rintro ⟨x,_,w,c,_⟩;obtain rfl:=AQ w;exact c
 .rw [if_neg a,decide_eq_false λ⟨_,_,_,_,c⟩=>a c]
def Zik (a b:ZK):Prop:=a.rule=b.rule/\a.times=b.times
theorem ZlZ (a b:ZK):∃c,Zb6 a b=some c/\(c=true↔Zik a b):=by
 unfold Zb6 Zik;by_cases h:a.rule=b.rule
 .rw [if_pos (ZP.2 h),ZlE,A0];refine ⟨_,rfl,?_⟩;rw [decide_eq_true_iff];exact ⟨λe=>⟨h,e⟩,λe=>e.2⟩
 .rw [if_neg (by rw [ZP];exact h)];exact ⟨false,rfl,by simp [h]⟩
theorem ZBs (x:Yp):∃b,Qr x=some b:=by
 unfold Qr;simp only[QK,QN,A0]
 repeat' split
 all_goals exact ⟨_,rfl⟩
end
section
open Classical
def evB (x:Yp):Bool:=(Qr x).getD false
theorem ZGe (x:Yp):Qr x=some (evB x):=by
 obtain ⟨b,h⟩:=ZBs x;unfold evB;rw [h];rfl
def ZxL (e:Zo) (i:Nat) (x:ZK):Prop:=ZlX e x=true/\¬∃y∈e.fired.take i,Zik y x
def ZBg (e:Zo):Bool:=
 if ZN e.rules=true then if Zuk e.memory=true then if 0<=e.clock/\e.clock<=200 then if e.fired.length<=40 then if e.log.length<=500 then if (∀(j:Nat) (x:Zr),e.memory[j]?=some x->x.time<=e.clock) then if (∀(j:Nat) (x:ZK),e.fired[j]?=some x->ZxL e j x) then if (∀(j:Nat) (x:Yp),e.log[j]?=some x->evB x=true) then true else false else false else false else false else false else false else false else false
structure SmE (e:Zo):Prop where
 rs:∀r∈e.rules,Xa r
 ml:e.memory.length<=1048576
 ma:∀x∈e.memory,x.fact.args.length<=1048576
theorem ZoG (e:Zo) (h:SmE e):QX e=some (ZBg e):=by
 unfold QX ZBg;rw [ZcX h.rs,A0];by_cases D:ZN e.rules=true
 rotate_left
 .rw [if_neg D,if_neg D]
 rw [if_pos D,if_pos D,ZiQ _ h.ml h.ma,A0];by_cases C:Zuk e.memory=true
 rotate_left
 .rw [if_neg C,if_neg C]
 rw [if_pos C,if_pos C];by_cases G:0<=e.clock/\e.clock<=200
 rotate_left
 .rw [if_neg G];by_cases a:e.clock<0
  .rw [if_pos (by simpa using a)]
  .rw [if_neg (by simpa using a),if_pos (by simp;omega)]
 rw [if_pos G,if_neg (by simp;omega),if_neg (by simp;omega)];by_cases F:e.fired.length<=40
 rotate_left
 .rw [if_neg F,if_pos (by simp;omega)]
 rw [if_pos F,if_neg (by simp;omega)];by_cases E:e.log.length<=500
 rotate_left
 .rw [if_neg E,if_pos (by simp;omega)]
 rw [if_pos E,if_neg (by simp;omega),ZeJ (q:=λ_ x=>x.time<=e.clock) e.memory 0 λj x _=>by
  refine ⟨λv=>by rw [if_neg (by simpa using v)],λv=>by rw [if_pos (by simpa using v)]⟩]
 by_cases B:∀(j:Nat) (x:Zr),e.memory[j]?=some x->x.time<=e.clock
 rotate_left
 .rw [if_neg B,if_neg B]
 rw [if_pos B,if_pos B,ZeJ (q:=ZxL e) e.fired 0 λj x I=>by
  have hj:=(AE.1 I).1;rw [AB,Zl5,A0];by_cases w:ZlX e x=true
  rotate_left
  .rw [if_neg w];exact ⟨λv=>absurd v.1 w,λ_=>rfl⟩
  rw [if_pos w,ZxR (l:=e.fired) (i:=j) yE (q:=λy=>Zik y x) (r1:=.inr false) (r2:=.inl ()) (λu y J H=>by
    obtain ⟨c,K,b⟩:=ZlZ y x;rw [if_pos (by simpa using J),Y3,H,A0,K,A0];refine ⟨λe=>if_pos (b.2 e),λe=>?_⟩;rw [if_neg λh=>e (b.1 h),Y2 yE yE];rfl) (by rw [if_neg yG])]
  exact ⟨λv=>by rw [if_neg v.2],λv=>by rw [if_pos (Classical.byContradiction λd=>v ⟨w,d⟩)]⟩]
 simp only[AB];by_cases A:∀(j:Nat) (x:ZK),e.fired[j]?=some x->ZxL e j x
 rotate_left
 .rw [if_neg A,if_neg A]
 rw [if_pos A,if_pos A,ZeJ (q:=λ_ x=>evB x=true) e.log 0 λj x _=>by
  rw [ZGe,A0];exact ⟨λv=>if_pos v,λv=>if_neg v⟩]
 split<;>rfl
end
section
open Classical
def Zfo (s:Zr):List Zr->List Zr
 | []=>[s]
 |x::l=>if 0<Zci x.fact s.fact then s::x::l else x::Zfo s l
theorem Ztt (s:Zr):∀l:List Zr,ZuS (λx=>Yn x s.fact) s l=some (Zfo s l)
 | []=>rfl
 |x::l=>by
  simp only[ZuS,Zfo];rw [Xd,A0];by_cases h:0<Zci x.fact s.fact
  .rw [if_pos h,if_pos h]
  .rw [if_neg h,if_neg h,Ztt s l];rfl
theorem Zk2 (s:Zr):∀l:List Zr,(Zfo s l).Perm (s::l)
 | []=>List.Perm.refl _
 |x::l=>by
  simp only[Zfo];split
  .exact List.Perm.refl _
  .exact ((Zk2 s l).cons x).trans (List.Perm.swap s x l)
theorem Zjh (s:Zr):∀l:List Zr,s.fact∉l.map (·.fact)->(Zfo s l).map (·.fact)=Zdy (l.map (·.fact)) s.fact
 | [],_=>rfl
 |x::l,h=>by
  simp only[Ad,A6,not_or]at h;have c:¬Zci x.fact s.fact=0:=λe=>h.1 ((ZdF.eq _ _).1 e).symm;simp only[Zfo,Zdy,Ad];by_cases a:0<Zci x.fact s.fact
  .rw [if_pos a,if_neg yE,if_neg c];rfl
  .rw [if_neg a,if_pos yE,Ad,Zjh s l h.2]
theorem ZhA {F:List Zd}(j:F.length<=24) (v:∀f∈F,Ya f=true) (w:ZgV F):Z2 F=true:=by
 unfold Z2;rw [A4,decide_eq_true_iff];refine ⟨j,?_⟩;have c:∀(l:List Zd) (i:Nat),(∀k x,l[k]?=some x->Zdz F (i+k) x=true)->QG (Zdz F) l i=true:=by
  intro l;induction l with
  |nil=>intro i _;rfl
  |cons y l ih=>
   intro i h;simp only[QG,A4];refine ⟨h 0 y rfl,ih (i+1) λk x a=>?_⟩;have:=h (k+1) x (by simpa using a)
   rwa [show i+(k+1)=i+1+k by omega]at this
 refine c F 0 λk x a=>?_;unfold Zdz;rw [AB,A4];refine ⟨v x (AD a),?_⟩;by_cases d:k=0
 .rw [if_pos d]
 .rw [if_neg d];obtain ⟨u,rfl⟩:=AE.1 a;rw [A9 yE];exact decide_eq_true (BF.1 w (k - 1) k yE u yE)
theorem Zrz {F:List Zd}{f:Zd}(h:Z2 F=true) (c:Ya f=true) (j:F.length<24):Z2 (Zdy F f)=true:=by
 obtain ⟨_,d⟩:=Xs h;refine ZhA (AS (Zj6 f F) yE) (λg a=>?_) (Zoj (QP h));rcases XI.1 a with rfl|a
 .exact c
 .exact d g a
theorem Zmf {F:List Zd}(h:Z2 F=true) (p:Zd->Bool):Z2 (F.filter p)=true:=by
 obtain ⟨d,c⟩:=Xs h;exact ZhA (AS (Aq _ _) d) (λg a=>c g (Ap.1 a).1) (List.Pairwise.filter p (QP h))
structure EB (R:List Zf) (c l f:Nat) (e:Zo):Prop where
 ru:e.rules=R
 fa:Z2 (e.memory.map (·.fact))=true
 tn:(e.memory.map (·.time)).Nodup
 tb:∀x∈e.memory,1<=x.time/\x.time<=e.clock
 ck:0<=e.clock/\e.clock<=c
 ml:(e.memory.length:Int)<=e.clock
 fl:e.fired.length<=f
 ll:e.log.length<=l
 fd:∀(j:Nat) (x:ZK),e.fired[j]?=some x->ZxL e j x
 lg:∀x∈e.log,evB x=true
theorem ZnP {e a:Zo}(u:a.rules=e.rules) (v:e.clock<=a.clock) {x:ZK}(h:ZlX e x=true):ZlX a x=true:=by
 unfold ZlX at h ⊢;rw [decide_eq_true_iff]at h ⊢;obtain ⟨r,B,A,w,d⟩:=h;rw [u];exact ⟨r,B,A,w,λj t c=>⟨(d j t c).1,AU (d j t c).2 v⟩⟩
theorem Zod {e a:Zo}(u:a.rules=e.rules) (v:e.clock<=a.clock) (d:a.fired=e.fired) (h:∀(j:Nat) (x:ZK),e.fired[j]?=some x->ZxL e j x):∀(j:Nat) (x:ZK),a.fired[j]?=some x->ZxL a j x:=λj x c=>by
 rw [d]at c;obtain ⟨A,w⟩:=h j x c;exact ⟨ZnP u v A,by rw [d];exact w⟩
section
variable {R:List Zf} {c l f:Nat} {e:Zo} {x:Zd} {kind:Int} {rule:ByteArray}
theorem EB.add (h:EB R c l f e) (v:Ya x=true) (u:x∉e.memory.map (·.fact)) (b:e.memory.length<24) (D:kind=1\/kind=4) (w:evB { kind:=kind,rule:=rule,fact:=x }=true):
  EB R (c+1) (l+1) f { rules:=e.rules,memory:=Zfo { fact:=x,time:=e.clock+1 } e.memory,clock:=e.clock+1,fired:=e.fired,halted:=e.halted,log:=e.log++[{ kind:=kind,rule:=rule,fact:=x }] }:=by
 have hp:=Zk2 { fact:=x,time:=e.clock+1 } e.memory;have d:=Zjh { fact:=x,time:=e.clock+1 } e.memory u;have a:=hp.length_eq;have g:=Zrz h.fa v (by rw [AN];exact b);obtain ⟨C,B⟩:=h.ck;have i:=h.ll;refine ⟨h.ru,by rw [d];exact g,?_,λy j=>?_,⟨by simp only;omega,by simp only;omega⟩,?_,h.fl,by simp;exact i,Zod (e:=e) rfl (by simp only;omega) rfl h.fd,λy j=>?_⟩
 .refine (hp.map (·.time)).nodup_iff.2 ?_;rw [Ad,Ay];refine ⟨λm=>?_,h.tn⟩;obtain ⟨y,j,A⟩:=AK.1 m;have:=(h.tb y j).2;simp only at A;omega
 .rcases A6.1 (hp.mem_iff.1 j) with rfl|j
  .simp only;omega
  .have:=h.tb y j;simp only;omega
 .have:=h.ml;simp only;rw [a,AA];omega
 .rcases A5.1 j with j|j
  .exact h.lg y j
  .simp at j;subst j;exact w
theorem ZqM (M:List Zr) (x:Zd):(M.filter λy=>decide (y.fact≠x)).map (·.fact)=(M.map (·.fact)).filter λg=>decide (g≠x):=by
 rw [List.filter_map];rfl
theorem EB.drop (h:EB R c l f e) (v:x∈e.memory.map (·.fact)) (w:kind=2\/kind=5) (u:evB { kind:=kind,rule:=rule,fact:=x }=true):
  EB R c (l+1) f { rules:=e.rules,memory:=e.memory.filter λy=>decide (y.fact≠x),clock:=e.clock,fired:=e.fired,halted:=e.halted,log:=e.log++[{ kind:=kind,rule:=rule,fact:=x }] }:=by
 have b:=ZqM e.memory x;have d:=Zmf h.fa λg=>decide (g≠x);have a:(e.memory.filter λy=>decide (y.fact≠x)).Sublist e.memory:=List.filter_sublist;have i:=h.ll;refine ⟨h.ru,by rw [b];exact d,(a.map (·.time)).nodup h.tn,λy j=>h.tb y (a.subset j),h.ck,?_,h.fl,by simp;exact i,Zod (e:=e) rfl (AW _) rfl h.fd,λy j=>?_⟩
 .have:=h.ml;have:=a.length_le;simp only;omega
 .rcases A5.1 j with j|j
  .exact h.lg y j
  .simp at j;subst j;exact u
theorem EB.write (h:EB R c l f e) (u:kind=3\/kind=6) (j:evB { kind:=kind,rule:=rule,fact:=x }=true) (b:Bool):
  EB R c (l+1) f { rules:=e.rules,memory:=e.memory,clock:=e.clock,fired:=e.fired,halted:=b,log:=e.log++[{ kind:=kind,rule:=rule,fact:=x }] }:=by
 have a:=h.ll;refine ⟨h.ru,h.fa,h.tn,h.tb,h.ck,h.ml,h.fl,by simp;exact a,Zod (e:=e) rfl (AW _) rfl h.fd,λy d=>?_⟩
 .rcases A5.1 d with d|d
  .exact h.lg y d
  .simp at d;subst d;exact j
theorem EB.fire (h:EB R c l f e) {y:ZK}(x:ZlX e y=true) (A:¬∃z∈e.fired,Zik z y):
  EB R c l (f+1) { rules:=e.rules,memory:=e.memory,clock:=e.clock,fired:=e.fired++[y],halted:=e.halted,log:=e.log }:=by
 have a:=h.fl;refine ⟨h.ru,h.fa,h.tn,h.tb,h.ck,h.ml,by simp;exact a,h.ll,λj z d=>?_,h.lg⟩;simp only at d;rcases Nat.lt_or_ge j e.fired.length with u|u
 .rw [Ab u]at d;obtain ⟨w,v⟩:=h.fd j z d;refine ⟨ZnP (e:=e) rfl (AW _) w,?_⟩;simp only;rw [BG yE];exact v
 .rw [List.getElem?_append_right u]at d;have b:j - e.fired.length=0:=by
   have:=(AE.1 d).1;simp at this;omega
  rw [b]at d;obtain rfl:y=z:=by simpa using d
  obtain rfl:j=e.fired.length:=by omega
  refine ⟨ZnP (e:=e) rfl (AW _) x,?_⟩;simp only;rw [BG (Aa _),BE];exact A
theorem EB.more (h:EB R c l f e) {j a d:Nat}(w:c<=j) (v:l<=a) (u:f<=d):EB R j a d e:=by
 have:=h.ck;have:=h.ll;have:=h.fl;exact ⟨h.ru,h.fa,h.tn,h.tb,yE,h.ml,yE,yE,h.fd,h.lg⟩
theorem EB.mem (h:EB R c l f e) (A:c<=200):Zuk e.memory=true:=by
 unfold Zuk;rw [if_pos λj y d=>?_]
 .exact h.fa
 .have my:=AD d;have:=h.tb y my;have:=h.ck;refine ⟨yE,λz v u=>?_⟩;obtain ⟨i,x,rfl⟩:=BH v;rw [List.length_take]at x;obtain ⟨w,rfl⟩:=AE.1 d;rw [List.getElem_take]at u;have a:=BF.1 h.tn i j (by simp;omega) (by simpa using w) yE;simp at a;exact a u
theorem EB.eng (h:EB R c l f e) (u:ZN R=true) (d:c<=200) (w:f<=40) (v:l<=500):ZBg e=true:=by
 have:=h.ck;have:=h.fl;have:=h.ll;unfold ZBg;rw [if_pos (by rw [h.ru];exact u),if_pos (h.mem d),if_pos yE,if_pos yE,if_pos yE,if_pos λj y a=>(h.tb y (AD a)).2,if_pos h.fd,if_pos λj y a=>h.lg y (AD a)]
end
end
section
open Classical
theorem Zjo {α ρ:Type}{body:Nat->α->Unit->Option (Unit ⊕ ρ)}{fin:Unit->Option ρ}(c:∃z,fin ()=some z):∀(l:List α) (i:Nat),(∀j x,l[j]?=some x->∃y,body (i+j) x ()=some y)->∃z,Zm body fin l i ()=some z
 | [],i,_=>c
 |x::l,i,h=>by
  obtain ⟨y,a⟩:=h 0 x rfl;rw [Nat.add_zero]at a;cases y with
  |inl u=>
   rw [ZQ (s':=()) a];exact Zjo c l (i+1) λj y d=>by
    have:=h (j+1) y (by simpa using d)
    rwa [show i+(j+1)=i+1+j by omega]at this
  |inr r=>exact ⟨r,Z4 a⟩
theorem Zdo {α β:Type}{o:Option α}{f:α->β}(h:∃z,o=some z):∃z,(o.bind λv=>some (f v))=some z:=by
 obtain ⟨z,rfl⟩:=h;exact ⟨_,rfl⟩
theorem Zcv (a b:Int):∃z,ZU a b=some z:=by
 unfold ZU
 repeat' split
 all_goals exact ⟨_,rfl⟩
theorem Zlw (a b:List Zd):∃z,Y0 a b=some z:=by
 unfold Y0;refine Zjo (Zdo (Zcv _ _)) a 0 λj x c=>?_;rw [AB];by_cases h:j<b.length
 .rw [if_pos (by simpa using h),Y3,A9 h,A0,Xd,A0];split<;>exact ⟨_,rfl⟩
 .rw [if_neg (by simpa using h)];exact Zdo (Zcv _ _)
theorem Zwo {l:List Int}(h:l.length<=1048576):QU l=some l:=by
 unfold QU;rw [Zi _ yE]
theorem Zv7 {l:List Int}(h:l.length<=12):ZdP l=some (ZlG l):=by
 unfold ZdP;rw [Zwo yE,A0,if_pos h]
theorem Zvy {x y:ZF}(c:x.times.length<=12) (a:y.times.length<=12):∃z,Yc x y=some z:=by
 unfold Yc;split
 .exact Zdo (Zcv _ _)
 .rw [Zv7 c,A0,Zv7 a,A0];refine Zjo ?_ _ 0 λj u d=>?_
  .repeat' split
   all_goals first|exact Zdo (Zcv _ _)|exact Zdo (Zlw _ _)
  .rw [AB];by_cases h:j<(ZlG y.times).length
   .rw [if_pos (by simpa using h),Zi _ yE,A9 h,A0];split
    .exact Zdo (Zcv _ _)
    .exact ⟨_,rfl⟩
   .rw [if_neg (by simpa using h)]
    repeat' split
    all_goals first|exact Zdo (Zcv _ _)|exact Zdo (Zlw _ _)
theorem ZcH (l:List Zr) (f:Zd):Xg l f=some (decide (f∈l.map (·.fact))):=by
 unfold Xg;rw [Zbf (p:=λx=>decide (x.fact=f)) λi x a=>by
  rw [Yv,A0];by_cases h:x.fact=f
  .rw [if_pos (decide_eq_true h),decide_eq_true h];rfl
  .rw [if_neg (by simpa using h),decide_eq_false h];rfl]
 by_cases h:f∈l.map (·.fact)
 .obtain ⟨x,a,e⟩:=AK.1 h;rw [decide_eq_true h,if_pos (Ak.2 ⟨x,a,decide_eq_true e⟩)]
 .rw [decide_eq_false h,if_neg λc=>?_];obtain ⟨x,a,e⟩:=Ak.1 c;exact h (AK.2 ⟨x,a,of_decide_eq_true e⟩)
def Xl:List Zr->Zd->Int
 | [],_=>0
 |x::l,f=>if x.fact=f then x.time else Xl l f
theorem Zit {f:Zd}:∀{l:List Zr},f∈l.map (·.fact)->∃x∈l,x.fact=f/\Xl l f=x.time
 |x::l,h=>by
  by_cases e:x.fact=f
  .exact ⟨x,yG,e,if_pos e⟩
  .rw [Ad,A6]at h;obtain ⟨y,a,j,d⟩:=Zit (h.resolve_left λc=>e c.symm);exact ⟨y,by simp [a],j,(if_neg e).trans d⟩
theorem Zs9 (f:Zd) (l:List Zr):ZhX l f=some (Xl l f):=by
 unfold ZhX;have a:∀(l:List Zr) (i:Nat),Zm (σ:=Unit) (λ(j:Nat) (c:Zr) _=>(Xh c.fact f).bind λd=>if d=true then some (.inr c.time) else some (.inl ())) (λ_=>some 0) l i ()=some (Xl l f):=by
  intro l;induction l with
  |nil=>intro i;rfl
  |cons x l ih=>
   intro i;unfold Xl;by_cases h:x.fact=f
   .rw [Z4 (r:=x.time),if_pos h];rw [Yv,A0,if_pos (decide_eq_true h)]
   .rw [ZQ (s':=()),ih,if_neg h];rw [Yv,A0,if_neg (by simpa using h)]
 exact a l 0
theorem ZrL (M:List Zr) (F:List Zd) (h:F.length<=1048576):Zfs M F=some (F.map (Xl M)):=by
 unfold Zfs;rw [QB (g:=Xl M)]
 .simp
 .intro j x s c a;rw [Zs9,A0,Zi _ (by simp at a;omega)]
theorem ZuK (r:Zf):∃z,Zba r=some z:=by
 unfold Zba;rw [Zeh (f:=λ(n:Int) (x:Zp)=>x.pattern.args.foldl (λn a=>if ZS a=true then IntKind.i64.wrap (n+1) else n) n)]
 .exact ⟨_,rfl⟩
 .intro j x s c;rw [Zeh (f:=λn a=>if ZS a=true then IntKind.i64.wrap (n+1) else n)];intro j a s d;rw [X5,A0];split<;>rfl
theorem Ziv {R:List Zf}(a:ZN R=true) {k:Nat}{r:Zf}(c:R[k]?=some r):YE r=true/\Zda R r.name=(k:Int):=by
 unfold ZN at a;rw [A4]at a;have:=Zij a.2 k r c;unfold Zdv at this;rw [A4,beq_iff_eq,AB]at this;exact this
theorem ZCQ {m:Xb}(c:m.facts.length<=1048576) (a:∀f∈m.facts,f.args.length<=1048576) (d:m.binding.length<=1048576):ZbL m=some m:=by
 unfold ZbL;rw [Zel _ c a,A0];unfold QI;rw [Zi _ yE];rfl
def ZC4 (R:List Zf) (M:List Zr) (x:ZF):Prop:=∃(k:Nat) (r:Zf) (t:Zt),R[k]?=some r/\t∈Zy r.cond (M.map (·.fact))/\x.mtch=mkM r t/\x.times=t.facts.map (Xl M)/\x.ordr=(k:Int)
theorem Zyn {R:List Zf}{M:List Zr}(B:ZN R=true) (C:Z2 (M.map (·.fact))=true) {r:Zf}(u:r∈R) {t:Zt}(j:t∈Zy r.cond (M.map (·.fact))):∃x,Zcq R M (mkM r t)=some (x,true)/\ZC4 R M x/\x.mtch=mkM r t/\x.times=t.facts.map (Xl M):=by
 obtain ⟨k,d⟩:=B3 u;obtain ⟨w,A⟩:=Ziv B d;obtain ⟨D,b⟩:=Xs C;have a:=(Xv w).1;have tk:=XA _ _ t j;have ts:=tk.s a λf c=>YD (b f c);obtain ⟨z,v⟩:=ZuK r;unfold Zcq;rw [show (mkM r t).rule=r.name from rfl,Q9,A0,A,if_neg yG,Z1 (p:=λf=>decide (f∈M.map (·.fact))) (r:=(({ mtch:=({ rule:=(⟨#[]⟩),facts:=[],binding:=[] }:Xb),priority:=0,times:=[],specific:=0,ordr:=0 }:ZF),false)) λi f c=>by
  rw [ZcH,A0];by_cases h:f∈M.map (·.fact)
  .rw [decide_eq_true h];rfl
  .rw [decide_eq_false h];rfl]
 rw [if_pos (show ((mkM r t).facts.all λf=>decide (f∈M.map (·.fact)))=true from AJ.2 λf c=>decide_eq_true (tk.sub f c)),ZCQ (by have:=ts.len;show t.facts.length<=_;omega) (λf c=>by have:=ts.args f c;omega) (by have:=ts.bind;show t.binding.length<=_;omega),A0,Y3,d,A0,ZrL _ _ (by have:=ts.len;show t.facts.length<=_;omega),A0,v,A0];exact ⟨_,rfl,⟨k,r,t,d,j,rfl,rfl,rfl⟩,rfl,rfl⟩
def Zuj (fired:List ZK) (x:ZF):Prop:=∃y∈fired,y.rule=x.mtch.rule/\y.times=x.times
theorem ZoD (l:List ZK) (x:ZF):ZcA l x=some (decide (Zuj l x)):=by
 unfold ZcA;rw [Zbf (p:=λy=>decide (y.rule=x.mtch.rule/\y.times=x.times)) λi y a=>by
  by_cases d:y.rule=x.mtch.rule
  .rw [if_pos (ZP.2 d),ZlE,A0];by_cases c:y.times=x.times
   .rw [if_pos (decide_eq_true c),decide_eq_true ⟨d,c⟩];rfl
   .rw [if_neg (by simpa using c),decide_eq_false λh=>c h.2];rfl
  .rw [if_neg (by rw [ZP];exact d),decide_eq_false λh=>d h.1];rfl]
 by_cases h:Zuj l x
 .obtain ⟨y,a,e⟩:=id h;rw [decide_eq_true h,if_pos (Ak.2 ⟨y,a,decide_eq_true e⟩)]
 .rw [decide_eq_false h,if_neg λj=>?_];obtain ⟨y,a,e⟩:=Ak.1 j;exact h ⟨y,a,of_decide_eq_true e⟩
def Zlk (R:List Zf) (F:List Zd):List Xb:=R.flatMap λr=>(Zy r.cond F).map (mkM r)
theorem ZnR {F:List Zd}(a:F.length<=24):∀{R:List Zf},(∀r∈R,r.cond.length<=4)->(Zlk R F).length<=331776*R.length
 | [],_=>Aa _
 |r::R,h=>by
  have ih:=ZnR a λq c=>h q (BI _ c);have h1:=Zbw F a r.cond (h r yG);unfold Zlk at *;rw [Ar,AF,AN,AA];omega
theorem ZwY (R:List Zf) (r:Zf) (F:List Zd):Zlk (R++[r]) F=Zlk R F++(Zy r.cond F).map (mkM r):=by
 unfold Zlk;rw [Ai];simp
theorem Zt5 {R:List Zf}{F:List Zd}{m:Xb}:m∈Zlk R F↔∃r∈R,∃t∈Zy r.cond F,mkM r t=m:=by
 unfold Zlk;simp only[AG,AK]
theorem Zmd {R:List Zf}{F:List Zd}(w:R.length<=6) (a:∀r∈R,r.cond.length<=4) (c:F.length<=24) (u:∀f∈F,f.args.length<=3):Zcf R F=some (Zlk R F):=by
 unfold Zcf;refine ZaZ (λp=>Zlk p F) R λp r q e=>?_;have v:p.length<R.length:=by rw [e];simp
 have d:r∈R:=by rw [e];simp
 have h1:=ZnR c (R:=p) λh j=>a h (by rw [e];simp [j]);have h2:=Zbw F c r.cond (a r d);rw [Zne r F (a r d) c u,A0,Zi _ (by rw [AN];omega),ZwY]
theorem ZIy {x:ZF}(h:x.mtch.facts.length<=1048576) (d:∀f∈x.mtch.facts,f.args.length<=1048576) (c:x.mtch.binding.length<=1048576) (a:x.times.length<=1048576):QR x=some x:=by
 unfold QR;rw [ZCQ h d c,A0,Zwo a];rfl
theorem ZBm {l:List ZF}(G:l.length<=1048576) (H:∀x∈l,QR x=some x) (B:∀x∈l,x.times.length<=12):∃r,Zbd l=some r/\r.length=l.length/\∀x,x∈r↔x∈l:=by
 have b:Zbb l=some l:=by
  unfold Zbb;rw [QB (g:=λx=>x)]
  .simp
  .intro j x s c F;rw [H x c,A0,Zi _ (by simp at F;omega)]
 unfold Zbd;rw [b,A0,if_pos ⟨G,λx c y D=>by obtain ⟨z,E⟩:=Zvy (B x c) (B y D);rw [E];rfl⟩];obtain ⟨C,A⟩:=Zn0 (ltC l) l.length (BJ l.length);refine ⟨_,rfl,?_,λx=>⟨λc=>?_,λc=>?_⟩⟩
 .have a:∀k∈(ZhF (ltC l) l.length (BJ l.length)).toList,k<l.length:=λk v=>by
   have:=A.mem_iff.1 v;simpa using this
  have w:∀d:List Nat,(∀k∈d,k<l.length)->(d.filterMap λi=>l[i]?).length=d.length:=by
   intro d;induction d with
   |nil=>intro _;rfl
   |cons k d ih=>
    intro h;rw [B4,A9 (h k yG)];simp [ih λk v=>h k (by simp [v])]
  rw [w _ a,Array.length_toList,C];simp
 .obtain ⟨k,_,u⟩:=AH.1 c;exact AD u
 .obtain ⟨k,u⟩:=B3 c;have a:=(AE.1 u).1;exact AH.2 ⟨k,A.mem_iff.2 (by simpa using a),u⟩
theorem ZsY {R:List Zf}{M:List Zr}(a:List ZK) (N:ZN R=true) (h3:R.length<=3) (hS:∀r∈R,Xa r) (E:Zuk M=true):∃L,i_FreshChoices R M a=some L/\L.length<=(Zlk R (M.map (·.fact))).length/\(∀x∈L,ZC4 R M x/\¬Zuj a x)/\∀m∈Zlk R (M.map (·.fact)),(∃x∈L,x.mtch=m)\/∃y∈a,y.rule=m.rule/\y.times=m.facts.map (Xl M):=by
 have hF:Z2 (M.map (·.fact))=true:=by
  unfold Zuk at E;split at E
  .exact E
  .simp at E
 obtain ⟨c,u⟩:=Xs hF;have aa:M.length<=24:=by simpa using c
 have O:∀f∈M.map (·.fact),f.args.length<=3:=λf K=>YD (u f K);have g:∀x∈M,x.fact.args.length<=1048576:=λx C=>by have:=O _ (AK.2 ⟨x,C,rfl⟩);omega
 have hr:=(ZbT N).2;have d:∀r∈R,r.cond.length<=4:=λr I=>(Xv (hr r I)).1;have hml:=ZnR c d;unfold i_FreshChoices;rw [ZcX hS,A0,if_pos N,ZiQ M yE g,A0,if_pos E,Zgu M yE g,A0,Zmd yE d c O,A0];obtain ⟨L,e,i1,i2,i3⟩:=ZdS (body:=λ(ac:Nat) (v:Xb) (b:List ZF)=>(Zcq R M v).bind λi=>(ZcA a i.1).bind λw=>if w=true then (some (Sum.inl b):Option (List ZF ⊕ List ZF)) else chk (b.length+1<=1073741824) <| some (Sum.inl (b++[i.1]))) (ρ:=List ZF) (λp (s:List ZF)=>s.length<=p.length/\(∀x∈s,ZC4 R M x/\¬Zuj a x)/\∀m∈p,(∃x∈s,x.mtch=m)\/∃y∈a,y.rule=m.rule/\y.times=m.facts.map (Xl M)) (Zlk R (M.map (·.fact))) [] ⟨Aa _,yG,yG⟩ λp m s J hp ⟨j1,W,V⟩=>by
  obtain ⟨r,I,t,H,rfl⟩:=Zt5.1 J;obtain ⟨x,hx,A,j,B⟩:=Zyn N hF I H;rw [hx,A0,ZoD,A0];by_cases F:Zuj a x
  .refine ⟨s,by rw [if_pos (decide_eq_true F)],by rw [AF];omega,W,λq h=>?_⟩;rcases A5.1 h with h|h
   .exact V q h
   .simp at h;subst h;obtain ⟨y,D,y1,y2⟩:=F;exact .inr ⟨y,D,by rw [y1,j],by rw [y2,B];rfl⟩
  .refine ⟨s++[x],by rw [if_neg (by simpa using F),Zi _ yE],by simp;omega,λy D=>?_,λq h=>?_⟩
   .rcases A5.1 D with D|D
    .exact W y D
    .simp at D;subst D;exact ⟨A,F⟩
   .rcases A5.1 h with h|h
    .exact (V q h).imp (λ⟨z,G,P⟩=>⟨z,by simp [G],P⟩) yi
    .simp at h;subst h;exact .inl ⟨x,yG,j⟩
 have o:∀x∈L,QR x=some x/\x.times.length<=12:=λx C=>by
  obtain ⟨⟨k,r,t,hk,H,T,e2,e3⟩,_⟩:=i2 x C;have ts:=(XA _ _ t H).s (d r (AD hk)) O;have t4:=ts.len;have tb:=ts.bind;have hl:x.times.length<=4:=by rw [e2,AN];exact t4
  refine ⟨ZIy ?_ ?_ ?_ yE,yE⟩
  .rw [T];show t.facts.length<=_;omega
  .rw [T];exact λf K=>by have:=ts.args f K;omega
  .rw [T];show t.binding.length<=_;omega
 obtain ⟨S,s1,s2,U⟩:=ZBm (l:=L) yE (λx C=>(o x C).1) λx C=>(o x C).2;refine ⟨S,?_,yE,λx C=>i2 x ((U x).1 C),λm J=>(i3 m J).imp (λ⟨z,G,P⟩=>⟨z,(U z).2 G,P⟩) yi⟩;rw [e,s1];rfl
end
section
open Classical
theorem ZBQ {k:Int}{f:Zd}(a:k=1\/k=2) (h:Ya f=true):evB { kind:=k,rule:=⟨#[]⟩,fact:=f }=true:=by
 unfold evB Qr;rcases a with rfl|rfl<;>simp [QK,QN,h,ZP]
theorem ZvV {k:Int}{n:ByteArray}{f:Zd}(c:k=4\/k=5) (a:Qa n=true) (h:Ya f=true):evB { kind:=k,rule:=n,fact:=f }=true:=by
 unfold evB Qr;rcases c with rfl|rfl<;>simp [QK,QN,h,a]
theorem ZwI {k:Int}{n:ByteArray}(c:k=3\/k=6) (a:Qa n=true):evB { kind:=k,rule:=n,fact:={ rel:=⟨#[]⟩,args:=[] } }=true:=by
 unfold evB Qr;rcases c with rfl|rfl<;>simp [QK,QN,a,ZP]
theorem ZA8 {x:Yp}(h:evB x=true):x.fact.args.length<=3:=by
 have hi:=ZGe x;rw [h]at hi;unfold Qr at hi;simp only[QK,QN,A0]at hi
 repeat' split at hi
 all_goals first
  |exact YD (AQ hi)
  |(have:=AQ hi;rw [beq_iff_eq]at this;omega)
  |(simp at hi;done)
def ZoW (l:List Zp):Nat:=(l.filter λx=>x.kind==1).length
theorem Zr0:∀(l:List Zp) (s:Int),0<=s->s+l.length<=100->l.foldl (λs x=>if (x.kind==1)=true then IntKind.i64.wrap (s+1) else s) s=s+ZoW l
 | [],s,_,_=>by simp [ZoW]
 |x::l,s,h0,h1=>by
  simp only[AA]at h1;rw [AP];by_cases h:(x.kind==1)=true
  .rw [if_pos h,Y2 yE yE,Zr0 l (s+1) yE yE];unfold ZoW;rw [B1 (p:=λx:Zp=>x.kind==1) h,AA];omega
  .rw [if_neg h,Zr0 l s h0 yE];unfold ZoW;rw [Az (p:=λx:Zp=>x.kind==1) h]
theorem ZvQ {r:Zf}(h:r.cond.length<=4):ZFz r=ZoW r.cond:=by
 have:=Zr0 r.cond 0 yE yE;rw [Int.zero_add]at this;exact this
theorem ZCi (l:List Zp):ZoW l<=l.length:=Aq _ _
theorem Zu7 (F:List Zd):∀(l:List Zp) (c:List Zt) (n:Nat),(∀t∈c,t.facts.length=n)->∀t∈l.foldl (λc x=>Zdj x F c) c,t.facts.length=n+ZoW l
 | [],c,n,h,t,mt=>h t mt
 |x::l,c,n,h,t,mt=>by
  rw [AP]at mt;by_cases d:x.kind=1
  .have:=Zu7 F l (Zdj x F c) (n+1) (λs v=>by
    obtain ⟨u,j,a⟩:=AG.1 v;unfold Zc1 at a;rw [if_pos d]at a;obtain ⟨f,_,e⟩:=AH.1 a;obtain ⟨b,_,rfl⟩:=AY.1 e;simp [h u j]) t mt
   unfold ZoW at this ⊢;rw [B1 (p:=λx:Zp=>x.kind==1) (by simpa using d),AA];omega
  .have:=Zu7 F l (Zdj x F c) n (λs v=>by
    obtain ⟨u,j,a⟩:=AG.1 v;unfold Zc1 at a;rw [if_neg d]at a;split at a
    .simp at a;subst a;exact h _ j
    .simp at a) t mt
   unfold ZoW at this ⊢;rw [Az (p:=λx:Zp=>x.kind==1) (by simpa using d)];exact this
theorem ZBW {F:List Zd}{l:List Zp}{t:Zt}(a:t∈Zy l F):t.facts.length=ZoW l:=by
 have:=Zu7 F l [Zs0] 0 (by simp [Zs0]) t a;omega
theorem ZjO (e:Zo) (k:Int) (n:ByteArray) {x:Zd}(a:x.args.length<=1048576) (c:e.log.length<=1000):Yq e k n x=some { rules:=e.rules,memory:=e.memory,clock:=e.clock,fired:=e.fired,halted:=e.halted,log:=e.log++[{ kind:=k,rule:=n,fact:=x }] }:=by
 unfold Yq;rw [Z6 x a,A0,Zi _ yE]
theorem Zzw (e:Zo) (k:Int) (n:ByteArray) {x:Zd}(a:x.args.length<=1048576) (c:e.log.length<=1000) (j:e.memory.length<=1000) (d:0<=e.clock/\e.clock<=1000):Xp e x k n=some { rules:=e.rules,memory:=Zfo { fact:=x,time:=e.clock+1 } e.memory,clock:=e.clock+1,fired:=e.fired,halted:=e.halted,log:=e.log++[{ kind:=k,rule:=n,fact:=x }] }:=by
 have h:ZuS (λy=>Yn y x) ({ fact:=x,time:=e.clock+1 }:Zr) e.memory=some (Zfo { fact:=x,time:=e.clock+1 } e.memory):=Ztt { fact:=x,time:=e.clock+1 } e.memory;unfold Xp;rw [if_pos ⟨yE,a,d.1,yE⟩,h,A0];exact ZjO _ _ _ a c
theorem ZCl (e:Zo) (k:Int) (n:ByteArray) {x:Zd}(a:x.args.length<=1048576) (c:e.log.length<=1000) (j:e.memory.length<=1000):Xr e x k n=some { rules:=e.rules,memory:=e.memory.filter λy=>decide (y.fact≠x),clock:=e.clock,fired:=e.fired,halted:=e.halted,log:=e.log++[{ kind:=k,rule:=n,fact:=x }] }:=by
 have d:(e.memory.filter λy=>!decide (Xh y.fact x=some true))=e.memory.filter λy=>decide (y.fact≠x):=by
  refine List.filter_congr λy _=>?_;rw [Yv];by_cases h:y.fact=x<;>simp [h]
 unfold Xr;rw [if_pos ⟨yE,a⟩,d];exact ZjO _ _ _ a c
section
variable {R:List Zf} {c l f:Nat} {e:Zo}
theorem EB.m24 (h:EB R c l f e):e.memory.length<=24/\∀x∈e.memory,Ya x.fact=true/\x.fact.args.length<=3:=by
 obtain ⟨j,d⟩:=Xs h.fa;refine ⟨by simpa using j,λx a=>?_⟩;have:=d _ (AK.2 ⟨x,a,rfl⟩);exact ⟨this,YD this⟩
theorem EB.sm (h:EB R c l f e) (d:∀r∈R,Xa r):SmE e:=by
 obtain ⟨u,j⟩:=h.m24;exact ⟨by rw [h.ru];exact d,yE,λx a=>by have:=(j x a).2;omega⟩
theorem Zxq {x:ZK}(d:ZN e.rules=true) (h:ZlX e x=true):x.times.length<=4:=by
 unfold ZlX at h;rw [decide_eq_true_iff]at h;obtain ⟨r,u,a,j,_⟩:=h;have c:r∈e.rules:=by
  unfold atI at a;split at a
  .exact AD a
  .simp at a
 have h4:=(Xv ((ZbT d).2 r c)).1;rw [ZvQ h4]at j;have:=ZCi r.cond;omega
theorem EB.copy (h:EB R c l f e) (u:ZN R=true) (A:∀r∈R,Xa r) (C:l<=1000) (D:f<=1000):QS e=some e:=by
 obtain ⟨B,v⟩:=h.m24;have hfl:=h.fl;have hll:=h.ll;unfold QS;rw [Zkh e.rules (by rw [h.ru];have:=(ZbT u).1;omega) (by rw [h.ru];exact A),A0];rw [QB (g:=λx=>x) λj x s a d=>by rw [Z6 _ (by have:=(v x a).2;omega),A0,Zi _ (by simp at d;omega)]];rw [QB (g:=λx=>x) λj x s a d=>by
  obtain ⟨i,w⟩:=B3 a;have:=Zxq (by rw [h.ru];exact u) (h.fd i x w).1;rw [Zwo yE,A0,Zi _ (by simp at d;omega)]]
 rw [QB (g:=λx=>x) λj x s a d=>by
  have:=ZA8 (h.lg x a);unfold Ze2;rw [Z6 _ yE,A0,A0,Zi _ (by simp at d;omega)]]
 simp only[Am,List.map_id']
theorem EB.isE (h:EB R c l f e) (v:ZN R=true) (u:∀r∈R,Xa r) (j:c<=200) (a:l<=500) (d:f<=40):QX e=some true:=by
 rw [ZoG e (h.sm u),h.eng v j d a]
theorem Zpi {r:Zf}{F:List Zd}{t:Zt}(w:YE r=true) (c:Zi2 r.cond F t) {a:Zw}(j:a∈r.thn) (x:a.kind=1):Ya (XT (Xc a.pattern t.binding)).1=true:=by
 obtain ⟨d,B⟩:=Zqp w a j x;have hp:=d;unfold Z5 at hp;simp only[A4,decide_eq_true_iff]at hp;obtain ⟨l,e,_⟩:=Zju (b:=t.binding) hp.2 (λv h u=>c.vars v (B v h u));obtain ⟨A,C⟩:=ZhU c.bind e;have:Xc a.pattern t.binding=some { rel:=a.pattern.rel,args:=l }:=by
  unfold Xc;rw [if_pos ⟨d,c.bind⟩,e];rfl
 rw [this];show Ya { rel:=a.pattern.rel,args:=l }=true
 unfold Ya;simp only[A4,decide_eq_true_iff];exact ⟨⟨hp.1.1,yE⟩,A⟩
end
end
section
open Classical
def Zm6 (l:List Zt):Prop:=l.Pairwise λt u=>t.facts≠u.facts
theorem ZuH {x:Zp}{F:List Zd}(B:F.Pairwise λa b=>a≠b) {w:List Zt}(h:Zm6 w):Zm6 (Zdj x F w):=by
 unfold Zdj Zm6;rw [List.pairwise_flatMap];refine ⟨λt H=>?_,h.imp λ{t u} c y v z j=>?_⟩
 .unfold Zc1;split
  .refine List.Pairwise.filterMap _ (λf g d y v z j=>?_) B;obtain ⟨_,_,rfl⟩:=AY.1 v;obtain ⟨_,_,rfl⟩:=AY.1 j;intro e;have:=List.append_cancel_left e;simp at this;exact d this
  .split
   .exact BK _ _
   .exact Aj
 .unfold Zc1 at v j;by_cases A:x.kind=1
  .rw [if_pos A]at v j;obtain ⟨f,_,D⟩:=AH.1 v;obtain ⟨g,_,C⟩:=AH.1 j;obtain ⟨_,_,rfl⟩:=AY.1 D;obtain ⟨_,_,rfl⟩:=AY.1 C;intro e;exact c (List.append_inj_left' e rfl)
  .rw [if_neg A]at v j;have G:y=t:=by
    split at v
    .simpa using v
    .simp at v
   have E:z=u:=by
    split at j
    .simpa using j
    .simp at j
   rw [G,E];exact c
theorem ZqP {F:List Zd}(j:F.Pairwise λa b=>a≠b) (l:List Zp):Zm6 (Zy l F):=by
 have d:∀(l:List Zp) (c:List Zt),Zm6 c->Zm6 (l.foldl (λc x=>Zdj x F c) c):=by
  intro l;induction l with
  |nil=>intro c h;exact h
  |cons x l ih=>intro c h;exact ih _ (ZuH j h)
 exact d l [Zs0] (BK _ _)
theorem Zs6 {F:List Zd}(h:ZgV F):F.Pairwise λa b=>a≠b:=Zcm h
end
def meets (a b:Nat):Prop:=a &&& b≠0
theorem ZtF:∀{a b:List Int},a.Pairwise (·<·)->b.Pairwise (·<·)->(∀x,x∈a↔x∈b)->a=b
 | [],[],_,_,_=>rfl
 | [],y::b,_,_,h=>by have:=(h y).2 yG;simp at this
 |x::a,[],_,_,h=>by have:=(h x).1 yG;simp at this
 |x::a,y::b,ha,hb,h=>by
  rw [AR]at ha hb;have d:x=y:=by
   have h1:=(h x).1 yG;have h2:=(h y).2 yG;rcases A6.1 h1 with e|h1
   .exact e
   .rcases A6.1 h2 with e|h2
    .exact e.symm
    .have:=hb.1 x h1;have:=ha.1 y h2;omega
  subst d;rw [ZtF ha.2 hb.2 λz=>?_];constructor
  .intro j;rcases A6.1 ((h z).1 (by simp [j])) with e|c
   .subst e;have:=ha.1 z j;omega
   .exact c
  .intro j;rcases A6.1 ((h z).2 (by simp [j])) with e|c
   .subst e;have:=hb.1 z j;omega
   .exact c
def ZA2 (l:List Int) (x:Int):Bool:=l.any λy=>y==x
theorem ZtQ {l:List Int}{x:Int}:ZA2 l x=true↔x∈l:=by simp [ZA2]
theorem ZsE (l:List Int) (x:Int):ZhJ l x=some (ZA2 l x):=by
 unfold ZhJ ZA2;rw [Zbf (p:=λy=>y==x) (r:=true)]
 .cases l.any λy=>y==x<;>simp
 .intro i y _;cases y==x<;>simp
theorem Zya {l:List Int}{x:Int}:x∈Zly l↔x∈l:=(BL l _).mem_iff
theorem ZxF {l:List Int}(h:l.Nodup):(Zly l).Pairwise (·<·):=by
 have j:(Zly l).Pairwise λx y=>decide (x<=y)=true:=List.pairwise_mergeSort (λa b c j d=>by simp at *;omega) (λa b=>by simp;omega) l;have d:(Zly l).Nodup:=(BL l _).nodup_iff.2 h;have u:(Zly l).Pairwise (·≠·):=d;exact (j.and u).imp λ⟨a,b⟩=>by simp at a;omega
def ZeV:List Int->Int->List Int
 | [],x=>[x]
 |y::l,x=>if y<x then y::ZeV l x else if y=x then y::l else x::y::l
theorem ZsC (l:List Int) (x:Int) (h:l.length+1<=1073741824):Zhm l x=some (ZeV l x):=by
 unfold Zhm;refine (Za9 (λl _ (a:List Int×Bool)=>some (if a.2=true then a.1++l else a.1++ZeV l x)) (λl _ (a:List Int×Bool)=>a.1.length+l.length+(if a.2=true then 0 else 1)<=1073741824) ?_ ?_ l 0 ([],false) (by simpa using h)).trans yG
 .rintro i ⟨row,d⟩ c;cases d with
  |true=>simp
  |false=>simp only[AO,if_false,ZeV];simp at c;rw [Zi _ yE]
 .rintro y l i ⟨row,d⟩ c;left
  cases d with
  |true=>
   simp at c;exact ⟨(row++[y],true),by simp only[if_true];rw [Zi _ yE],by simp;omega,yG⟩
  |false=>
   simp at c;by_cases u:x<=y
   .by_cases j:y=x
    .subst j;exact ⟨(row++[y],true),by simp;rw [Zi _ yE],by simp;omega,by simp [ZeV]⟩
    .exact ⟨(row++[x]++[y],true),by simp [u,j];rw [Zi _ yE,Zi _ yE],by simp;omega,by simp [ZeV,j,show ¬y<x by omega]⟩
   .exact ⟨(row++[y],false),by simp [u];rw [Zi _ yE],by simp;omega,by simp [ZeV,show y<x by omega]⟩
theorem ZnU {x y:Int}:∀{l:List Int},y∈ZeV l x↔y=x\/y∈l
 | []=>by simp [ZeV]
 |z::l=>by
  simp only[ZeV];split
  .rw [A6,ZnU,A6];constructor
   .rintro (h|h|h)<;>simp [h]
   .rintro (h|h|h)<;>simp [h]
  .split
   .rename_i h;subst h;simp
   .simp
theorem ZsR {x:Int}:∀{l:List Int},l.Pairwise (·<·)->(ZeV l x).Pairwise (·<·)
 | [],_=>by simp [ZeV]
 |z::l,h=>by
  rw [AR]at h;simp only[ZeV];split
  .rw [AR];refine ⟨λy a=>?_,ZsR h.2⟩;rcases ZnU.1 a with rfl|a
   .assumption
   .exact h.1 y a
  .split
   .rw [AR];exact h
   .rw [AR,AR];refine ⟨λy a=>?_,h⟩;rcases A6.1 a with rfl|a
    .omega
    .have:=h.1 y a;omega
theorem Zsf (x:Int):∀l:List Int,(ZeV l x).length<=l.length+1
 | []=>by simp [ZeV]
 |z::l=>by
  simp only[ZeV];split
  .have:=Zsf x l;simp;omega
  .split<;>simp
section
open Classical
section
variable {α σ ρ:Type} {body:Nat->α->σ->Option (σ ⊕ ρ)} {fin:σ->Option ρ}
theorem ZnZ (d:List α->σ) (c:List α->Prop) [DecidablePred c] (q:ρ) (l:List α) (B:c []) (b:∀p r,l=p++r->c l->c p)
  (h:∀p x r,l=p++x::r->c p->body p.length x (d p)=if c (p++[x]) then some (.inl (d (p++[x]))) else some (.inr q)):Zm body fin l 0 (d [])=if c l then fin (d l) else some q:=by
 have u:∀(r a:List α),l=a++r->c a->Zm body fin r a.length (d a)=if c l then fin (d l) else some q:=by
  intro r;induction r with
  |nil=>intro a e v;rw [List.append_nil]at e;subst e;rw [if_pos v];rfl
  |cons x r ih=>
   intro a e v;have hx:=h a x r e v;have w:l=(a++[x])++r:=by rw [e];simp
   by_cases j:c (a++[x])
   .rw [if_pos j]at hx;rw [ZQ hx];simpa using ih (a++[x]) w j
   .rw [if_neg j]at hx;rw [Z4 hx,if_neg λA=>j (b _ _ w A)]
 exact u l [] rfl B
end
def Zvx:List Zd->Zd->Nat->Int
 | [],_,_=>-1
 |x::l,f,i=>if x=f then (i:Int) else Zvx l f (i+1)
def Z0 (l:List Zd) (f:Zd):Int:=Zvx l f 0
theorem ZcO (l:List Zd) (f:Zd):Yo l f=some (Z0 l f):=by
 unfold Yo Z0;generalize 0=i
 induction l generalizing i with
 |nil=>rfl
 |cons x l ih=>
  by_cases a:x=f
  .rw [Z4 (r:=(i:Int)) (by rw [Yv,A0,if_pos (decide_eq_true a)])];simp [Zvx,a]
  .rw [ZQ (s':=()) (by rw [Yv,A0,if_neg (by simpa using a)]),ih (i+1)];simp [Zvx,a]
theorem ZcN (l:List Zd) (f:Zd):ZaL l f=some (Z0 l f):=ZcO l f
theorem Zpq {f:Zd}:∀{l:List Zd}{i:Nat},(f∉l/\Zvx l f i=-1)\/∃j,Zvx l f i=((i+j:Nat):Int)/\l[j]?=some f
 | [],i=>.inl ⟨yG,rfl⟩
 |x::l,i=>by
  unfold Zvx;by_cases a:x=f
  .rw [if_pos a];exact .inr ⟨0,yG,by simp [a]⟩
  .rw [if_neg a];rcases Zpq (f:=f) (l:=l) (i:=i+1) with ⟨d,c⟩|⟨j,d,c⟩
   .exact .inl ⟨by simp only[A6,not_or];exact ⟨λe=>a e.symm,d⟩,c⟩
   .exact .inr ⟨j+1,by rw [d];congr 1;omega,by simpa using c⟩
theorem Zgt (l:List Zd) (f:Zd):(f∉l/\Z0 l f=-1)\/∃j,Z0 l f=((j:Nat):Int)/\l[j]?=some f:=by
 have:=Zpq (f:=f) (l:=l) (i:=0)
 simpa [Z0]using this
theorem ZaW {l:List Zd}{f:Zd}(h:f∈l):∃j,Z0 l f=((j:Nat):Int)/\l[j]?=some f:=(Zgt l f).resolve_left λa=>a.1 h
def Zaw (F l:List Zd):List Int:=l.foldl (λrow f=>if 0<=Z0 F f then ZeV row (Z0 F f) else row) []
theorem Zjp (F:List Zd):∀(l:List Zd) (row:List Int),row.Pairwise (·<·)->(l.foldl (λrow f=>if 0<=Z0 F f then ZeV row (Z0 F f) else row) row).Pairwise (·<·)/\(∀x,x∈l.foldl (λrow f=>if 0<=Z0 F f then ZeV row (Z0 F f) else row) row↔x∈row\/∃f∈l,Z0 F f=x/\0<=x)/\(l.foldl (λrow f=>if 0<=Z0 F f then ZeV row (Z0 F f) else row) row).length<=row.length+l.length
 | [],row,h=>⟨h,yG,yG⟩
 |f::l,row,h=>by
  rw [AP];by_cases c:0<=Z0 F f
  .rw [if_pos c];obtain ⟨u,j,v⟩:=Zjp F l (ZeV row (Z0 F f)) (ZsR h);have:=Zsf (Z0 F f) row;refine ⟨u,λx=>?_,by simp only[AA];omega⟩;rw [j,ZnU];constructor
   .rintro ((rfl|h)|⟨g,a,e⟩)
    .exact .inr ⟨f,yG,rfl,c⟩
    .exact .inl h
    .exact .inr ⟨g,by simp [a],e⟩
   .rintro (h|⟨g,a,e,d⟩)
    .exact .inl (.inr h)
    .rcases A6.1 a with rfl|a
     .exact .inl (.inl e.symm)
     .exact .inr ⟨g,a,e,d⟩
  .rw [if_neg c];obtain ⟨u,j,v⟩:=Zjp F l row h;refine ⟨u,λx=>?_,by simp only[AA];omega⟩;rw [j];constructor
   .rintro (h|⟨g,a,e⟩)
    .exact .inl h
    .exact .inr ⟨g,by simp [a],e⟩
   .rintro (h|⟨g,a,e,d⟩)
    .exact .inl h
    .rcases A6.1 a with rfl|a
     .rw [e]at c;exact absurd d c
     .exact .inr ⟨g,a,e,d⟩
theorem YO (F l:List Zd):(Zaw F l).Pairwise (·<·)/\(∀x,x∈Zaw F l↔∃f∈l,Z0 F f=x/\0<=x)/\(Zaw F l).length<=l.length:=by
 obtain ⟨d,c,a⟩:=Zjp F l [] Aj;exact ⟨d,λx=>by rw [Zaw,c];simp,by simpa [Zaw]using a⟩
theorem ZsU (F p:List Zd) (f:Zd):Zaw F (p++[f])=if 0<=Z0 F f then ZeV (Zaw F p) (Z0 F f) else Zaw F p:=by rw [Zaw,AX];rfl
theorem ZiM (F l:List Zd) (h:l.length<=1000000):ZcC F l=some (Zaw F l):=by
 unfold ZcC;have a:Zaw F []=[]:=rfl;rw [<-a,ZaZ (λp=>Zaw F p) l];intro p f q e;have c:p.length<=l.length:=by rw [e];simp
 have:=(YO F p).2.2;rw [ZcN,A0,ZsU];by_cases a:0<=Z0 F f
 .rw [if_pos (by simpa using a),if_pos a,ZsC _ _ yE];rfl
 .rw [if_neg (by simpa using a),if_neg a]
def ZbZ (F l:List Zd):List Int:=l.foldl (λrow f=>if 0<=Z0 F f/\Z0 F f∉row then row++[Z0 F f] else row) []
theorem ZlP (F p:List Zd) (f:Zd):ZbZ F (p++[f])=if 0<=Z0 F f/\Z0 F f∉ZbZ F p then ZbZ F p++[Z0 F f] else ZbZ F p:=by rw [ZbZ,AX];rfl
theorem Zlo (F:List Zd):∀n (l:List Zd),l.length=n->(ZbZ F l).Nodup/\(∀x,x∈ZbZ F l↔∃f∈l,Z0 F f=x/\0<=x)/\(ZbZ F l).length<=l.length:=by
 intro n;induction n with
 |zero=>intro l j;rw [Ao j];simp [ZbZ]
 |succ n ih=>
  intro l j;obtain ⟨p,f,rfl⟩:∃p f,l=p++[f]:=⟨l.dropLast,l.getLast (by intro e;simp [e]at j),(B2 _).symm⟩
  obtain ⟨A,v,D⟩:=ih p (by simpa using j);rw [ZlP];by_cases d:0<=Z0 F f/\Z0 F f∉ZbZ F p
  .rw [if_pos d];refine ⟨by rw [List.nodup_append];exact ⟨A,yG,λa C b w e=>by simp at w;subst w;subst e;exact d.2 C⟩,λx=>?_,by simp;omega⟩;rw [A5,v];constructor
   .rintro (⟨g,c,e⟩|h)
    .exact ⟨g,by simp [c],e⟩
    .simp at h;subst h;exact ⟨f,yG,rfl,d.1⟩
   .rintro ⟨g,c,e,u⟩;rcases A5.1 c with c|c
    .exact .inl ⟨g,c,e,u⟩
    .simp at c;subst c;exact .inr (by simp [e])
  .rw [if_neg d];refine ⟨A,λx=>?_,by simp;omega⟩;rw [v];constructor
   .rintro ⟨g,c,e⟩;exact ⟨g,by simp [c],e⟩
   .rintro ⟨g,c,e,u⟩;rcases A5.1 c with c|c
    .exact ⟨g,c,e,u⟩
    .simp at c;subst c;have:Z0 F g∈ZbZ F p:=Classical.byContradiction λB=>d ⟨by rw [e];exact u,B⟩;rw [e]at this;exact (v x).1 this
theorem Zkt (F l:List Zd) (h:l.length<=1000000):ZdX F l=some (Zaw F l):=by
 unfold ZdX;have a:ZbZ F []=[]:=rfl;rw [<-a,ZaZ (λp=>ZbZ F p) l]
 .obtain ⟨v,u,h3⟩:=Zlo F _ l rfl;obtain ⟨j,d,_⟩:=YO F l;simp only[Zgl];rw [Zi _ yE,A0,ZtF (ZxF v) j λx=>by rw [Zya,u,d]]
 .intro p f q e;have w:p.length<=l.length:=by rw [e];simp
  have h3:=(Zlo F _ p rfl).2.2;rw [ZcO,A0,ZlP];by_cases a:0<=Z0 F f
  .rw [if_pos (by simpa using a),ZsE,A0];by_cases c:Z0 F f∈ZbZ F p
   .rw [if_pos (ZtQ.2 c),if_neg (λh=>h.2 c)]
   .rw [if_neg (by rw [ZtQ];exact c),if_pos ⟨a,c⟩,Zi _ yE];rfl
  .rw [if_neg (by simpa using a),if_neg (λh=>a h.1)]
theorem Zfl (a b:List Int):Qg a b=some (decide (a=b)):=by
 unfold Qg;by_cases h:a.length=b.length
 .rw [if_neg (by simp;omega),Xf (p:=λi x=>decide (b[i]?=some x)) (r:=false)]
  .have:QG (λi x=>decide (b[i]?=some x)) a 0=decide (a=b):=by
    rw [AC,decide_eq_true_iff];constructor
    .intro w;apply As;intro i;by_cases u:i<a.length
     .have hx:=A9 u;have:=Zij w i _ hx;simp only[AB,decide_eq_true_eq]at this;rw [hx,this]
     .rw [AT yE,AT yE]
    .rintro rfl;have:∀(l c:List Int),QG (λi x=>decide ((c++l)[i]?=some x)) l c.length=true:=by
      intro l;induction l with
      |nil=>intro c;rfl
      |cons x l ih=>
       intro c;simp only[QG,A4,decide_eq_true_eq];refine ⟨yG,?_⟩;have:=ih (c++[x]);simpa using this
     simpa using this a []
   rw [this];cases decide (a=b)<;>rfl
  .intro j x hx;have hj:=(AE.1 hx).1;have v:b[j]?=some b[j]:=A9 yE;rw [AB,Y3,v,A0];by_cases d:x=b[j]
   .simp [d]
   .have:¬b[j]=x:=λe=>d e.symm;simp [d,this]
 .rw [if_pos (by simp;omega),decide_eq_false (λe=>h (by rw [e]))]
theorem Zbo (a b:List Int):Zb5 a b=some (decide (a=b)):=Zfl a b
theorem Zn9 {a b:Zg}(h:a.for_=b.for_) (d:a.inn=b.inn) (c:a.outs=b.outs):a=b:=by
 cases a;cases b;simp only at h d c;subst h d c;rfl
theorem Zme (a b:Zg):Zb0 a b=some (decide (a=b)):=by
 unfold Zb0;by_cases d:a.for_=b.for_
 .rw [if_pos (by simpa using d),Zfl,A0];by_cases c:a.inn=b.inn
  .rw [if_pos (decide_eq_true c),Zfl,A0];congr 1
   rw [AC,decide_eq_true_iff,decide_eq_true_iff];exact ⟨Zn9 d c,λe=>by rw [e]⟩
  .rw [if_neg (by simpa using c),decide_eq_false (λe=>c (by rw [e]))]
 .rw [if_neg (by simpa using d),decide_eq_false (λe=>d (by rw [e]))]
theorem ZnS (l:List Zg) (r:Zg):ZbO l r=some (decide (r∈l)):=by
 unfold ZbO;rw [Zbf (p:=λx=>decide (x=r)) (r:=true)]
 .have:l.any (λx=>decide (x=r))=decide (r∈l):=by
   rw [AC,Ak,decide_eq_true_iff];exact ⟨λ⟨x,a,e⟩=>by rw [decide_eq_true_iff]at e;rw [<-e];exact a,λh=>⟨r,h,yG⟩⟩
  rw [this];cases decide (r∈l)<;>rfl
 .intro i x a;rw [Zme,A0];cases decide (x=r)<;>rfl
theorem ZqR (l:List Zg) (r:Zg):∃z,ZfC l r=some z/\(0<=z↔r∈l):=by
 unfold ZfC;generalize 0=i
 induction l generalizing i with
 |nil=>exact ⟨-1,rfl,yG⟩
 |cons x l ih=>
  by_cases a:x=r
  .subst a;refine ⟨(i:Int),Z4 ?_,yG⟩;rw [if_pos yG,Zbo,A0,if_pos yG,Zbo,A0,if_pos yG]
  .obtain ⟨z,e,j⟩:=ih (i+1);refine ⟨z,(ZQ ?_).trans e,by rw [j,A6];exact ⟨.inr,λh=>h.resolve_left λe=>a e.symm⟩⟩;by_cases d:x.for_=r.for_
   .rw [if_pos (by simpa using d),Zbo,A0];by_cases c:x.inn=r.inn
    .rw [if_pos (decide_eq_true c),Zbo,A0,if_neg (by simpa using λe=>a (Zn9 d c e))]
    .rw [if_neg (by simpa using c)]
   .rw [if_neg (by simpa using d)]
def ZkE (r:Zf) (t:Zt):List Zd:=(r.cond.filter λx=>x.kind==2).map λx=>(XT (Xc x.pattern t.binding)).1
def Ym (F:List Zd) (r:Zf) (t:Zt) (a:Zw):Zg:={ for_:=Z0 F (Yh a t),inn:=Zaw F t.facts,outs:=Zaw F (ZkE r t) }
theorem Zt0 {ρ:Type}{r:Zf}{t:Zt}(u:r.cond.length<=1000000) {fin:List Zd->Option ρ}{body:Nat->Zp->List Zd->Option (List Zd ⊕ ρ)}
  (d:∀i x row,row.length<=1000000->body i x row=if (x.kind==2)=true then some (.inl (row++[(XT (Xc x.pattern t.binding)).1])) else some (.inl row)):Zm body fin r.cond 0 []=fin (ZkE r t):=by
 rw [YL (g:=λx:Zp=>if (x.kind==2)=true then some (XT (Xc x.pattern t.binding)).1 else none)]
 .rw [Am];congr 1
  unfold ZkE;induction r.cond with
  |nil=>rfl
  |cons x l ih=>
   by_cases a:(x.kind==2)=true
   .simp only[B4,BM,a,if_true,Ad,ih]
   .simp only[B4,BM,a,if_false,ih];simp
 .intro j x s h c;rw [d _ _ _ (by simp at c;omega)];by_cases a:(x.kind==2)=true
  .rw [if_pos a,if_pos a];rfl
  .rw [if_neg a,if_neg a];simp
theorem Zoi (r:Zf) (t:Zt):(ZkE r t).length<=r.cond.length:=by
 rw [ZkE,AN];exact Aq _ _
theorem ZmN {F:List Zd}{r:Zf}{t:Zt}(v:r.cond.length<=4) (c:ZyF F t) {j:Nat}{a:Zw}(u:r.thn[j]?=some a):ZbJ r (j:Int) t F=some (Ym F r t a):=by
 have hb:=c.bind;have hl:=c.len;have h:∀p,XO p t.binding=some (XT (Xc p t.binding)):=λp=>ZiT p t.binding yE;unfold ZbJ;rw [Y3,u,A0,h,A0,Zt0 (t:=t) yE (λi x row d=>by rw [h,A0,Zi _ yE])];have:=Zoi r t;rw [ZcN,A0,ZiM _ _ yE,A0,ZiM _ _ yE,A0];rfl
def ZkO (l:List Zg) (r:Zg):List Zg:=if r∈l then l else l++[r]
theorem Zy6 (l:List Zg) (r:Zg):l.length<=(ZkO l r).length/\(ZkO l r).length<=l.length+1:=by
 unfold ZkO;split<;>simp
theorem Zpz:∀(c l:List Zg),l.length<=(c.foldl ZkO l).length/\(c.foldl ZkO l).length<=l.length+c.length
 | [],l=>by simp
 |r::c,l=>by
  have h1:=Zpz c (ZkO l r);have h2:=Zy6 l r;simp only[AP,AA];omega
theorem Zog {α β:Type}{g:α->List β}{N:Nat}:∀{l:List α},(∀x∈l,(g x).length<=N)->(l.flatMap g).length<=N*l.length
 | [],_=>by simp
 |x::l,h=>by
  have h1:=h x yG;have h2:=Zog (l:=l) λy a=>h y (by simp [a]);rw [Ar,AF,AA,Nat.mul_add];omega
def Zai {β:Type} (s:List Zg×List β) (p:Zg×β):List Zg×List β:=if p.1∈s.1 then s else (s.1++[p.1],s.2++[p.2])
theorem ZdZ {β:Type}:∀(c:List (Zg×β)) (s:List Zg×List β),(c.foldl Zai s).1=(c.map B5).foldl ZkO s.1/\(s.2.length=s.1.length->(c.foldl Zai s).2.length=(c.foldl Zai s).1.length)
 | [],s=>⟨rfl,λh=>h⟩
 |p::c,s=>by
  obtain ⟨d,a⟩:=ZdZ c (Zai s p);have e:(Zai s p).1=ZkO s.1 p.1:=by unfold Zai ZkO;split<;>rfl
  refine ⟨by rw [AP,d,e];rfl,λh=>a ?_⟩;unfold Zai;split
  .exact h
  .simp [h]
theorem ZkF {β:Type}(c:List (Zg×β)) (s:List Zg×List β):s.1.length<=(c.foldl Zai s).1.length/\(c.foldl Zai s).1.length<=s.1.length+c.length:=by
 have:=Zpz (c.map B5) s.1;rw [(ZdZ c s).1];simpa using this
section
variable {β:Type} (o:Zf->Zt->β) (F:List Zd)
def Zo6 (r:Zf) (t:Zt):List (Zg×β):=r.thn.map λa=>(Ym F r t a,o r t)
def ZmZ (r:Zf):List (Zg×β):=(Zy (Qc r) F).flatMap (Zo6 o F r)
def ZeE (base:List Zd):List Zg:=base.map λf=>{ for_:=Z0 F f,inn:=[],outs:=[] }
def Zbj (z:β) (R:List Zf) (base:List Zd):List Zg×List β:=(R.flatMap (ZmZ o F)).foldl Zai (ZeE F base,base.map λ_=>z)
theorem Zs8 (r:Zf) (t:Zt):(Zo6 o F r t).length=r.thn.length:=by simp [Zo6]
end
def ZHR (F:List Zd) (r:Zf) (t:Zt):List Zg:=r.thn.map (Ym F r t)
def ZyO (F:List Zd) (r:Zf):List Zg:=(Zy (Qc r) F).flatMap (ZHR F r)
def YG (R:List Zf) (F base:List Zd):List Zg:=(R.flatMap (ZyO F)).foldl ZkO (ZeE F base)
theorem ZlO {β:Type}(o:Zf->Zt->β) (F:List Zd) (z:β) (R:List Zf) (base:List Zd):(Zbj o F z R base).1=YG R F base/\(Zbj o F z R base).2.length=(YG R F base).length:=by
 obtain ⟨d,c⟩:=ZdZ (R.flatMap (ZmZ o F)) (ZeE F base,base.map λ_=>z);have e:(R.flatMap (ZmZ o F)).map B5=R.flatMap (ZyO F):=by
  rw [BN];congr 1
  funext r
  rw [ZmZ,ZyO,BN];congr 1
  funext t
  simp [Zo6,ZHR]
 have a:(Zbj o F z R base).1=YG R F base:=by unfold Zbj YG;rw [d,e]
 refine ⟨a,?_⟩;rw [<-a];exact c (by simp [ZeE])
section
variable {β ρ:Type} {o:Zf->Zt->β} {F:List Zd}
theorem Zpg {c:List Zd}(u:c.length<=1000000) {z:β}{fin:List Zg×List β->Option ρ}{body:Nat->Zd->List Zg×List β->Option ((List Zg×List β) ⊕ ρ)}
  (d:∀i f a b,a.length<=1000000->b.length<=1000000->body i f (a,b)=some (.inl (a++[{ for_:=Z0 F f,inn:=[],outs:=[] }],b++[z]))):Zm body fin c 0 ([],[])=fin (ZeE F c,c.map λ_=>z):=by
 have h:(([],[]):List Zg×List β)=(ZeE F [],([]:List Zd).map λ_=>z):=rfl;rw [h,ZaZ (λp=>(ZeE F p,p.map λ_=>z)) c];intro p f q e;have j:p.length<=c.length:=by rw [e];simp
 rw [d _ _ _ _ (by rw [ZeE,AN];omega) (by rw [AN];omega)];simp [ZeE]
theorem ZFo {r:Zf}{t:Zt}(v:r.thn.length<=2) {fin:List Zg×List β->Option ρ}{body:Nat->Zw->List Zg×List β->Option ((List Zg×List β) ⊕ ρ)}{s:List Zg×List β}(B:s.1.length<=99999998) (j:s.2.length=s.1.length)
  (w:∀i a c d,c.length<=100000000->d.length<=100000000->body i a (c,d)=if decide (Ym F r t a∈c)=true then some (.inl (c,d)) else some (.inl (c++[Ym F r t a],d++[o r t]))):Zm body fin r.thn 0 s=fin ((Zo6 o F r t).foldl Zai s):=by
 have x:s=((([]:List Zw).map λa=>(Ym F r t a,o r t))).foldl Zai s:=rfl
 conv=>lhs;rw [x]
 rw [ZaZ (λp:List Zw=>(p.map λa=>(Ym F r t a,o r t)).foldl Zai s) r.thn]
 .rfl
 .intro p a q e;have A:p.length<=r.thn.length:=by rw [e];simp
  have h1:=ZkF (p.map λa=>(Ym F r t a,o r t)) s;have h2:=(ZdZ (p.map λa=>(Ym F r t a,o r t)) s).2 j;rw [AN]at h1;rw [B6,AX];generalize (p.map λa=>(Ym F r t a,o r t)).foldl Zai s=u at h1 h2 ⊢
  obtain ⟨c,d⟩:=u;simp only at h1 h2;rw [w _ _ _ _ yE yE];show _=some (Sum.inl (Zai (c,d) (Ym F r t a,o r t)))
  unfold Zai;by_cases h:Ym F r t a∈c
  .rw [if_pos (decide_eq_true h),if_pos h]
  .rw [if_neg (by simpa using h),if_neg h]
theorem ZzE {α:Type}{g:α->List (Zg×β)}{L:List α}{M N:Nat}(h:∀x∈L,(g x).length<=N) {fin:List Zg×List β->Option ρ}{body:Nat->α->List Zg×List β->Option ((List Zg×List β) ⊕ ρ)}{s:List Zg×List β}(w:s.1.length+N*L.length<=M) (c:s.2.length=s.1.length)
  (j:∀i x u,x∈L->u.1.length<=M->u.2.length=u.1.length->body i x u=some (.inl ((g x).foldl Zai u))):Zm body fin L 0 s=fin ((L.flatMap g).foldl Zai s):=by
 have v:s=(([]:List α).flatMap g).foldl Zai s:=rfl
 conv=>lhs;rw [v]
 rw [ZaZ (λp=>(p.flatMap g).foldl Zai s) L];intro p x q e;have d:p.length<=L.length:=by rw [e];simp
 have h1:=ZkF (p.flatMap g) s;have h2:=(ZdZ (p.flatMap g) s).2 c;have h3:=Zog (l:=p) (g:=g) (N:=N) λy a=>h y (by rw [e];simp [a]);have h4:=Nat.mul_le_mul_left N d;rw [j _ _ _ (by rw [e];simp) yE h2,Ai,AX];simp
theorem ZDd {r:Zf}{t:Zt}{q:ρ}{fin:List Zg×List β->Option ρ}{body:Nat->Zw->List Zg×List β->Option ((List Zg×List β) ⊕ ρ)}{s:List Zg×List β}(B:s.1.length<=60) (A:s.2.length=s.1.length)
  (C:∀j a c d,r.thn[j]?=some a->c.length<=60->d.length<=60->body j a (c,d)=if Ym F r t a∈c then some (.inl (c,d)) else if 60<=c.length then some (.inr q) else some (.inl (c++[Ym F r t a],d++[o r t]))):Zm body fin r.thn 0 s=if ((Zo6 o F r t).foldl Zai s).1.length<=60 then fin ((Zo6 o F r t).foldl Zai s) else some q:=by
 have D:s=((([]:List Zw).map λa=>(Ym F r t a,o r t))).foldl Zai s:=rfl
 conv=>lhs;rw [D]
 rw [ZnZ (λp:List Zw=>(p.map λa=>(Ym F r t a,o r t)).foldl Zai s) (λp=>((p.map λa=>(Ym F r t a,o r t)).foldl Zai s).1.length<=60) q r.thn (by simpa using B) (λp c e h=>by
  rw [e,B6,AX]at h;exact AS (ZkF _ _).1 h)]
 .rfl
 .intro p a c e b;have h2:=(ZdZ (p.map λa=>(Ym F r t a,o r t)) s).2 A;rw [B6,AX];generalize (p.map λa=>(Ym F r t a,o r t)).foldl Zai s=u at b h2 ⊢
  obtain ⟨x,y⟩:=u;simp only at b h2;rw [C _ _ _ _ (by rw [e];simp) b yE];show _=if (Zai (x,y) (Ym F r t a,o r t)).1.length<=60 then some (Sum.inl (Zai (x,y) (Ym F r t a,o r t))) else some (Sum.inr q)
  unfold Zai;by_cases v:Ym F r t a∈x
  .rw [if_pos v,if_pos v,if_pos b]
  .rw [if_neg v,if_neg v];by_cases w:60<=x.length
   .rw [if_pos w,if_neg (by simp;omega)]
   .rw [if_neg w,if_pos (by simp;omega)]
theorem ZAi {α:Type}{g:α->List (Zg×β)}{L:List α}{q:ρ}{fin:List Zg×List β->Option ρ}{body:Nat->α->List Zg×List β->Option ((List Zg×List β) ⊕ ρ)}{s:List Zg×List β}(j:s.1.length<=60) (d:s.2.length=s.1.length)
  (v:∀i x u,x∈L->u.1.length<=60->u.2.length=u.1.length->body i x u=if ((g x).foldl Zai u).1.length<=60 then some (.inl ((g x).foldl Zai u)) else some (.inr q)):Zm body fin L 0 s=if ((L.flatMap g).foldl Zai s).1.length<=60 then fin ((L.flatMap g).foldl Zai s) else some q:=by
 have w:s=(([]:List α).flatMap g).foldl Zai s:=rfl
 conv=>lhs;rw [w]
 rw [ZnZ (λp=>(p.flatMap g).foldl Zai s) (λp=>((p.flatMap g).foldl Zai s).1.length<=60) q L (by simpa using j) (λp c e h=>by
  rw [e,Ai,AX]at h;exact AS (ZkF _ _).1 h)]
 intro p x c e a;have h2:=(ZdZ (p.flatMap g) s).2 d;rw [v _ _ _ (by rw [e];simp) a h2,Ai,AX];simp
end
def noB:Zu:={ nodes:=0,reasons:=[] }
def Zq7 (r:Zf) (t:Zt):Zbl:={ rule:=r.name,facts:=t.facts }
def Zs1 (r:Zf) (t:Zt):l14CauseD:={ rule:=r.name,token:=t }
def noI:Zbl:={ rule:=⟨#[]⟩,facts:=[] }
def noS:l14CauseD:={ rule:=⟨#[]⟩,token:={ facts:=[],binding:=[] } }
def ZuI {β:Type}(F:List Zd) (g:List Zg×List β):List Zd×Zu×List β×Bool:=if 60<g.1.length then ([],noB,[],false) else (F,{ nodes:=(F.length:Int),reasons:=g.1 },g.2,true)
structure Yf (R:List Zf) (base F:List Zd):Prop where
 logical:(ZN R&&R.all (Xq R))=true
 facts:Z2 base=true
 good:ZfH R base F
 len:F.length<=24
 closed:ZjP R F
theorem Yf.rule {R:List Zf}{a F:List Zd}(h:Yf R a F) {r:Zf}(c:r∈R):Z3 r=true/\r.cond.length<=4/\r.thn.length<=2:=by
 have h1:=h.logical;rw [A4]at h1;have h2:=AJ.1 h1.2 r c;unfold Xq at h2;rw [A4]at h2;have h3:=h2.1;unfold Z3 at h3;simp only[A4]at h3;exact ⟨h2.1,Xv h3.1.1⟩
theorem Yf.toks {R:List Zf}{a F:List Zd}(h:Yf R a F) {r:Zf}(c:r∈R):(Zy (Qc r) F).length<=331776:=Zbw F h.len (Qc r) (by have:=ZeH r;have:=(h.rule c).2.1;omega)
theorem Yf.tokS {R:List Zf}{a F:List Zd}(h:Yf R a F) {r:Zf}(d:r∈R) {t:Zt}(c:t∈Zy (Qc r) F):ZyF F t:=(XA F _ t c).s (by have:=ZeH r;have:=(h.rule d).2.1;omega) λf j=>YD (h.good.ok f j)
theorem ZsZ {R:List Zf}{w F:List Zd}(h:Yf R w F) (J:Yy R w=some (F,true)):Zb1 R w=some (ZuI F (Zbj Zq7 F noI R w)):=by
 have T:R.length<=6:=by have:=h.logical;rw [A4]at this;exact (ZbT this.1).1
 have hb24:=(Xs h.facts).1;unfold Zb1;rw [J,A0,if_pos rfl,Zpg (F:=F) (z:=noI) yE]
 .show Zm _ _ R 0 (ZeE F w,w.map λ_=>noI)=_
  rw [ZzE (g:=ZmZ Zq7 F) (N:=663552) (M:=90000000)]
  .show (if decide (60<(((Zbj Zq7 F noI R w).1.length:Nat):Int))=true then _ else _)=_
   unfold ZuI;by_cases e:60<(Zbj Zq7 F noI R w).1.length
   .rw [if_pos (decide_eq_true yE),if_pos e];rfl
   .rw [if_neg (λh=>e (by have:=of_decide_eq_true h;omega)),if_neg e];rfl
  .intro r A;obtain ⟨_,_,C⟩:=h.rule A;have h3:=h.toks A;have:=Zog (l:=Zy (Qc r) F) (g:=Zo6 Zq7 F r) (N:=2) λx _=>by rw [Zs8];omega
   unfold ZmZ;omega
  .simp only[ZeE,AN];omega
  .simp [ZeE]
  .intro i r u A I m;obtain ⟨c,d⟩:=u;obtain ⟨_,U,C⟩:=h.rule A;have h3:=h.toks A;simp only at I m;show (Y1 r).bind _=_
   rw [Zcx r yE,A0,Zfk _ _ (by have:=ZeH r;omega) h.len (λf H=>YD (h.good.ok f H)),A0,ZzE (g:=Zo6 Zq7 F r) (N:=2) (M:=99999998)]
   .rfl
   .intro t D;rw [Zs8];exact C
   .simp only;omega
   .exact m
   .intro j t v D E p;obtain ⟨L,K⟩:=v;simp only at E p;have ht:=h.tokS A D;have hl:=ht.len;have ha:=Zoi r t;show Zm _ _ r.cond 0 []=_
    rw [Zt0 (t:=t) yE (λi x row G=>by rw [ZcK,A0,Zi _ yE])];rw [ZFo (o:=Zq7) (F:=F) (t:=t) C (s:=(L,K)) E p]
    .intro k a x y P O;show (Xi a.pattern t.binding).bind _=_
     rw [ZcK,A0,ZcO,A0,Zkt _ _ yE,A0,Zkt _ _ yE,A0];show (ZbO x (Ym F r t a)).bind _=_
     rw [ZnS,A0];by_cases B:Ym F r t a∈x
     .rw [if_pos (decide_eq_true B),if_pos (decide_eq_true B)]
     .rw [if_neg (by simpa using B),if_neg (by simpa using B),Zi _ yE,Zi _ yE];rfl
 .intro i f a b ha S;show (Yo F f).bind _=_
  rw [ZcO,A0,Zi _ yE,Zi _ yE];rfl
theorem Zuq {R:List Zf}{w F:List Zd}(h:Yf R w F) (L:s_PossibleFacts R w=some (F,true)):s_l14Ground R w=some (ZuI F (Zbj Zs1 F noS R w)):=by
 have T:R.length<=6:=by have:=h.logical;rw [A4]at this;exact (ZbT this.1).1
 have hb24:=(Xs h.facts).1;unfold s_l14Ground;rw [L,A0,if_pos rfl,Zpg (F:=F) (z:=noS) yE]
 .show Zm _ _ R 0 (ZeE F w,w.map λ_=>noS)=_
  rw [ZAi (g:=ZmZ Zs1 F) (q:=([],noB,[],false))]
  .show (if (Zbj Zs1 F noS R w).1.length<=60 then _ else _)=_
   unfold ZuI;by_cases e:60<(Zbj Zs1 F noS R w).1.length
   .rw [if_neg yE,if_pos e]
   .rw [if_pos yE,if_neg e];rfl
  .simp only[ZeE,AN];omega
  .simp [ZeE]
  .intro i r u B D l;obtain ⟨c,d⟩:=u;obtain ⟨_,M,U⟩:=h.rule B;simp only at D l;show (Qf r).bind _=_
   rw [ZfW r yE,A0,Zi3 _ _ (by have:=ZeH r;omega) h.len (λf J=>YD (h.good.ok f J)),A0,ZAi (g:=Zo6 Zs1 F r) (q:=.inr ([],noB,[],false)) (s:=(c,d)) D l]
   .rfl
   .intro j t v I C m;obtain ⟨H,G⟩:=v;simp only at C m;have ht:=h.tokS B I;show Zm _ _ r.thn 0 (H,G)=_
    rw [ZDd (o:=Zs1) (F:=F) (t:=t) (q:=.inr (.inr ([],noB,[],false))) (s:=(H,G)) C m]
    .intro k a x y E P O;show (ZbJ r (k:Int) t F).bind _=_
     rw [ZmN M ht E,A0];obtain ⟨z,K,p⟩:=ZqR x (Ym F r t a);rw [K,A0];by_cases A:Ym F r t a∈x
     .rw [if_pos (by simpa using p.2 A),if_pos A]
     .rw [if_neg (by simpa using λN=>A (p.1 N)),if_neg A];by_cases e:60<=x.length
      .rw [if_pos (by simp;omega),if_pos e];rfl
      .rw [if_neg (by simp;omega),if_neg e,Zi _ yE,Zi _ yE];rfl
 .intro i f a b E S;show (ZaL F f).bind _=_
  rw [ZcN,A0,Zi _ yE,Zi _ yE];rfl
theorem Zun {R:List Zf}(x:Zb2 R) (c:List Zd) (a:c.length<=1048576):(Zb1 R c=some ([],noB,[],false)/\s_l14Ground R c=some ([],noB,[],false))\/∃F,Yf R c F/\Zb1 R c=some (ZuI F (Zbj Zq7 F noI R c))/\s_l14Ground R c=some (ZuI F (Zbj Zs1 F noS R c)):=by
 obtain ⟨⟨F,b⟩,w,v,d⟩:=Zja x c a;have u:b=false->(Zb1 R c=some ([],noB,[],false)/\s_l14Ground R c=some ([],noB,[],false)):=λe=>by
  subst e;unfold Zb1 s_l14Ground;rw [w,v];exact ⟨rfl,rfl⟩
 rcases d with d|⟨d,D,⟨h,C,B,A⟩|⟨h,_⟩⟩
 .simp only[Prod.mk.injEq]at d;exact .inl (u d.2)
 .simp only at h;subst h;have j:Yf R c F:=⟨d,D,C,B,A⟩
  exact .inr ⟨F,j,ZsZ j v,Zuq j w⟩
 .exact .inl (u h)
def ZB9 (R:List Zf) (base F:List Zd) (b:Zu) (ok:Bool):Prop:=(ok=false/\F=[]/\b=noB)\/(ok=true/\Yf R base F/\b={ nodes:=(F.length:Int),reasons:=YG R F base }/\(YG R F base).length<=60)
theorem Zi5 {R:List Zf}(u:Zb2 R) (d:List Zd) (c:d.length<=1048576):∃F b ok,i_GroundReasons R d=some (F,b,ok)/\s_GroundReasons R d=some (F,b,ok)/\ZB9 R d F b ok:=by
 unfold i_GroundReasons s_GroundReasons;rcases Zun u d c with ⟨j,h⟩|⟨F,v,j,h⟩
 .rw [j,h];exact ⟨_,_,_,rfl,rfl,.inl ⟨rfl,rfl,rfl⟩⟩
 .obtain ⟨x,_⟩:=ZlO Zq7 F noI R d;obtain ⟨w,_⟩:=ZlO Zs1 F noS R d;rw [j,h];unfold ZuI;rw [x,w];by_cases a:60<(YG R F d).length
  .rw [if_pos a,if_pos a];exact ⟨_,_,_,rfl,rfl,.inl ⟨rfl,rfl,rfl⟩⟩
  .rw [if_neg a,if_neg a];exact ⟨_,_,_,rfl,rfl,.inr ⟨rfl,v,rfl,Nat.le_of_not_lt a⟩⟩
theorem Zs4 {r:Zg}:∀{c l:List Zg},r∈c.foldl ZkO l↔r∈l\/r∈c
 | [],l=>by simp
 |x::c,l=>by
  rw [AP,Zs4];have:r∈ZkO l x↔r∈l\/r=x:=by
   unfold ZkO;split
   .rename_i h;exact ⟨.inl,λa=>a.elim id λe=>e ▸ h⟩
   .simp
  rw [this,A6,or_assoc]
theorem Zjt {R:List Zf}{F c:List Zd}{x:Zg}:x∈YG R F c↔(∃f∈c,x={ for_:=Z0 F f,inn:=[],outs:=[] })\/∃r∈R,∃t∈Zy (Qc r) F,∃a∈r.thn,x=Ym F r t a:=by
 unfold YG;rw [Zs4];constructor
 .rintro (h|h)
  .obtain ⟨f,u,e⟩:=AK.1 h;exact .inl ⟨f,u,e.symm⟩
  .obtain ⟨r,j,h⟩:=AG.1 h;obtain ⟨t,d,h⟩:=AG.1 h;obtain ⟨a,v,e⟩:=AK.1 h;exact .inr ⟨r,j,t,d,a,v,e.symm⟩
 .rintro (⟨f,u,e⟩|⟨r,j,t,d,a,v,e⟩)
  .exact .inl (AK.2 ⟨f,u,e.symm⟩)
  .exact .inr (AG.2 ⟨r,j,AG.2 ⟨t,d,AK.2 ⟨a,v,e.symm⟩⟩⟩)
theorem ZqK {R:List Zf}{c F:List Zd}(h:Yf R c F) {x:Zg}(j:x∈YG R F c):x.inn.length<=4/\x.outs.length<=4:=by
 rcases Zjt.1 j with ⟨f,_,rfl⟩|⟨r,d,t,u,a,_,rfl⟩
 .exact ⟨Ax _,Ax _⟩
 .have h1:=(h.tokS d u).len;have h2:=Zoi r t;have h3:=(h.rule d).2.1;exact ⟨AS (YO F t.facts).2.2 h1,AS (YO F (ZkE r t)).2.2 yE⟩
end
section
open Classical
def mx (a b:Int):Int:=if a<b then b else a
theorem Zzt (a b:Int):a<=mx a b/\b<=mx a b:=by unfold mx;split<;>omega
theorem ZCN {a b c:Int}(h:a<=c) (d:b<=c):mx a b<=c:=by unfold mx;split<;>omega
theorem ZuF (g:Int->Int):∀(l:List Int) (m:Int),m<=l.foldl (λm y=>mx m (g y)) m/\∀y∈l,g y<=l.foldl (λm y=>mx m (g y)) m
 | [],m=>⟨AW _,yG⟩
 |x::l,m=>by
  obtain ⟨d,c⟩:=ZuF g l (mx m (g x));have h3:=Zzt m (g x);refine ⟨by rw [AP];omega,λy a=>?_⟩;rw [AP];rcases A6.1 a with rfl|a
  .omega
  .exact c y a
theorem Zvt {g:Int->Int}{T:Int}:∀{l:List Int}{m:Int},m<=T->(∀y∈l,g y<=T)->l.foldl (λm y=>mx m (g y)) m<=T
 | [],_,h,_=>h
 |x::l,m,h,hl=>Zvt (l:=l) (ZCN h (hl x yG)) λy a=>hl y (by simp [a])
def OkN (n:Nat) (r:Zg):Prop:=(0<=r.for_/\r.for_.toNat<n)/\(∀y∈r.inn,0<=y/\y.toNat<n)/\∀y∈r.outs,0<=y/\y.toNat<n
def lvN (row:List Int) (i:Nat):Int:=(row[i]?).getD 0
theorem ZaX (row:List Int) (i j:Nat) (v:Int):lvN (row.set i v) j=if j=i/\i<row.length then v else lvN row j:=by
 unfold lvN;rw [B7];by_cases h:i=j
 .subst h;by_cases a:i<row.length
  .simp [a]
  .simp [a]
 .have:¬j=i:=λe=>h e.symm;simp [h,this]
theorem Zf7 {a b:List Int}(d:a.length=b.length) (h:∀i,i<a.length->lvN a i=lvN b i):a=b:=by
 apply As;intro i;by_cases c:i<a.length
 .have:=h i c;unfold lvN at this;rw [A9 c,A9 yE]at this ⊢;simpa using this
 .rw [AT yE,AT yE]
def ZjA (row:List Int) (r:Zg):Int:=r.outs.foldl (λm y=>mx m (lvN row y.toNat+1)) (r.inn.foldl (λm y=>mx m (lvN row y.toNat)) (lvN row r.for_.toNat))
theorem Zrx (row:List Int) (r:Zg):lvN row r.for_.toNat<=ZjA row r/\(∀y∈r.inn,lvN row y.toNat<=ZjA row r)/\∀y∈r.outs,lvN row y.toNat+1<=ZjA row r:=by
 obtain ⟨j,h⟩:=ZuF (λy=>lvN row y.toNat) r.inn (lvN row r.for_.toNat);obtain ⟨a,d⟩:=ZuF (λy=>lvN row y.toNat+1) r.outs (r.inn.foldl (λm y=>mx m (lvN row y.toNat)) (lvN row r.for_.toNat));exact ⟨AU j a,λy c=>AU (h y c) a,d⟩
theorem ZBM {row:List Int}{r:Zg}{T:Int}(d:lvN row r.for_.toNat<=T) (c:∀y∈r.inn,lvN row y.toNat<=T) (a:∀y∈r.outs,lvN row y.toNat+1<=T):ZjA row r<=T:=
 Zvt (g:=λy=>lvN row y.toNat+1) (Zvt (g:=λy=>lvN row y.toNat) d c) a
def QC (row:List Int) (r:Zg):List Int:=row.set r.for_.toNat (ZjA row r)
def Qm (R:List Zg) (row:List Int):List Int:=R.foldl QC row
theorem ZdW (row:List Int) (r:Zg):(QC row r).length=row.length:=by simp [QC]
theorem Zf4:∀(R:List Zg) (row:List Int),(Qm R row).length=row.length
 | [],_=>rfl
 |r::R,row=>(Zf4 R (QC row r)).trans (ZdW row r)
theorem Zhx (row:List Int) (r:Zg) (i:Nat):lvN row i<=lvN (QC row r) i:=by
 unfold QC;rw [ZaX];split
 .rename_i h;rw [h.1];exact (Zrx row r).1
 .exact AW _
theorem Zb3:∀(R:List Zg) (row:List Int) (i:Nat),lvN row i<=lvN (Qm R row) i
 | [],_,_=>AW _
 |r::R,row,i=>AU (Zhx row r i) (Zb3 R (QC row r) i)
theorem Zn4 {row:List Int}{r:Zg}(h:¬lvN row r.for_.toNat<ZjA row r):QC row r=row:=by
 have e:ZjA row r=lvN row r.for_.toNat:=by have:=(Zrx row r).1;omega
 refine Zf7 (ZdW row r) λi _=>?_;unfold QC;rw [ZaX];split
 .rename_i h;rw [h.1,e]
 .rfl
structure ZiD (R:List Zg) (t:Nat->Int):Prop where
 pos:∀i,0<=t i
 inn:∀r∈R,∀y∈r.inn,t y.toNat<=t r.for_.toNat
 outs:∀r∈R,∀y∈r.outs,t y.toNat+1<=t r.for_.toNat
theorem Zn3 {R:List Zg}{t:Nat->Int}(d:ZiD R t) {r:Zg}(c:r∈R) {row:List Int}(h:∀i,lvN row i<=t i) (i:Nat):lvN (QC row r) i<=t i:=by
 unfold QC;rw [ZaX];split
 .rename_i j;rw [j.1];exact ZBM (h _) (λy a=>AU (h _) (d.inn r c y a)) λy a=>by have:=h y.toNat;have:=d.outs r c y a;omega
 .exact h i
theorem ZeQ {R:List Zg}{t:Nat->Int}(a:ZiD R t):∀{l:List Zg},(∀r∈l,r∈R)->∀{row:List Int},(∀i,lvN row i<=t i)->∀i,lvN (Qm l row) i<=t i
 | [],_,_,h=>h
 |r::l,hl,row,h=>ZeQ a (l:=l) (λx c=>hl x (by simp [c])) (Zn3 a (hl r yG) h)
theorem Zio {n:Nat}:∀{R:List Zg}{row:List Int},row.length=n->(∀r∈R,OkN n r)->∀r∈R,(∀y∈r.inn,lvN row y.toNat<=lvN (Qm R row) r.for_.toNat)/\∀y∈r.outs,lvN row y.toNat+1<=lvN (Qm R row) r.for_.toNat
 | [],_,_,_,r,c=>by simp at c
 |q::R,row,hl,hR,r,c=>by
  have hs:=Zb3 R (QC row q);show (∀y∈r.inn,lvN row y.toNat<=lvN (Qm R (QC row q)) r.for_.toNat)/\∀y∈r.outs,lvN row y.toNat+1<=lvN (Qm R (QC row q)) r.for_.toNat
  rcases A6.1 c with rfl|c
  .have h0:=(hR r yG).1.2;have e:lvN (QC row r) r.for_.toNat=ZjA row r:=by
    unfold QC;rw [ZaX,if_pos ⟨rfl,yE⟩]
   have h1:=hs r.for_.toNat;rw [e]at h1;obtain ⟨_,h,d⟩:=Zrx row r;exact ⟨λy a=>AU (h y a) h1,λy a=>AU (d y a) h1⟩
  .obtain ⟨h,d⟩:=Zio (n:=n) (R:=R) (row:=QC row q) (by rw [ZdW,hl]) (λx j=>hR x (by simp [j])) r c;refine ⟨λy a=>AU (Zhx row q _) (h y a),λy a=>?_⟩;have:=Zhx row q y.toNat;have:=d y a;omega
structure Zbs (n:Nat) (R:List Zg) (L:List Int):Prop where
 len:L.length=n
 sol:ZiD R (lvN L)
 least:∀t,ZiD R t->∀i,lvN L i<=t i
theorem Zbs.uniq {n:Nat}{R:List Zg}{L M:List Int}(h:Zbs n R L) (k:Zbs n R M):L=M:=
 Zf7 (h.len.trans k.len.symm) λi _=>Int.le_antisymm (h.least _ k.sol i) (k.least _ h.sol i)
theorem Zyf {n:Nat}{R:List Zg}{row:List Int}(d:row.length=n) (j:∀r∈R,OkN n r) (u:∀i,0<=lvN row i) (a:∀t,ZiD R t->∀i,lvN row i<=t i) (h:Qm R row=row):Zbs n R row:=by
 have:=Zio d j;rw [h]at this;exact ⟨d,⟨u,λr c=>(this r c).1,λr c=>(this r c).2⟩,a⟩
def ZjC (n:Nat) (L row:List Int):Nat:=(AL n).countP λi=>decide (¬lvN row i=lvN L i)
theorem ZnQ {n:Nat}{R:List Zg}{L row:List Int}(v:Zbs n R L) (G:row.length=n) (C:∀r∈R,OkN n r) (M:∀i,0<=lvN row i) (a:∀i,lvN row i<=lvN L i):ZjC n L row=0\/ZjC n L (Qm R row)+1<=ZjC n L row:=by
 have hs:=ZeQ v.sol (l:=R) (λ_ h=>h) a;have b:=Zb3 R row;by_cases F:∃i,i<n/\¬lvN row i=lvN L i/\lvN (Qm R row) i=lvN L i
 .right
  obtain ⟨i,B,h1,h2⟩:=F;refine ZfR (λj _ J=>?_) i (Ae.2 B) (by simpa using h2) (by simpa using h1);simp only[decide_eq_true_eq]at J ⊢;intro e;have:=hs j;have:=b j;omega
 .left
  have c:∀i,i<n->¬lvN row i=lvN L i->lvN (Qm R row) i<=lvN L i - 1:=λi B h1=>by
   have h2:¬lvN (Qm R row) i=lvN L i:=λh=>F ⟨i,B,h1,h⟩;have:=hs i;omega
  let t:Nat->Int:=λi=>if i<n/\¬lvN row i=lvN L i then lvN L i - 1 else lvN L i
  have f:∀i,t i<=lvN L i:=λi=>by simp only[t];split<;>omega
  have A:∀(x y:Nat) (d:Int),0<=d->x<n->lvN L y+d<=lvN L x->lvN row y+d<=lvN (Qm R row) x->t y+d<=t x:=λx y d P O h1 h2=>by
   by_cases D:x<n/\¬lvN row x=lvN L x
   .have e:t x=lvN L x - 1:=if_pos D;have h3:=c x D.1 D.2;by_cases E:y<n/\¬lvN row y=lvN L y
    .have N:t y=lvN L y - 1:=if_pos E;omega
    .have N:t y=lvN L y:=if_neg E;by_cases H:y<n
     .have K:lvN row y=lvN L y:=Classical.byContradiction λh=>E ⟨H,h⟩;omega
     .have K:lvN row y=0:=by unfold lvN;rw [AT yE];rfl
      have S:lvN L y=0:=by unfold lvN;rw [AT (by rw [v.len];omega)];rfl
      omega
   .have e:t x=lvN L x:=if_neg D;have:=f y;omega
  have I:ZiD R t:=⟨λi=>by
   simp only[t];split
   .rename_i h;have:=M i;have:=a i;have:=h.2;omega
   .exact v.sol.pos i,λr u y w=>by
    have h1:=v.sol.inn r u y w;have h2:=(Zio G C r u).1 y w;have:=A r.for_.toNat y.toNat 0 (AW _) (C r u).1.2 yE yE;omega,λr u y w=>A r.for_.toNat y.toNat 1 yE (C r u).1.2 (v.sol.outs r u y w) ((Zio G C r u).2 y w)⟩
  unfold ZjC;rw [At];intro i B;simp only[decide_eq_true_eq,Classical.not_not];refine Classical.byContradiction λh=>?_;have h1:=v.least t I i;have e:t i=lvN L i - 1:=if_pos ⟨Ae.1 B,h⟩;omega
def Zvj (R:List Zg):Nat->List Int->List Int
 |0,row=>row
 |k+1,row=>Zvj R k (Qm R row)
theorem ZnJ {n:Nat}{R:List Zg}{L:List Int}(a:Zbs n R L) (d:∀r∈R,OkN n r):∀(k:Nat) (row:List Int),row.length=n->(∀i,0<=lvN row i)->(∀i,lvN row i<=lvN L i)->ZjC n L row<=k->Zvj R k row=L
 |0,row,hl,h0,hle,hk=>by
  show row=L
  refine Zf7 (hl.trans a.len.symm) λi c=>?_;have:ZjC n L row=0:=by omega
  unfold ZjC at this;rw [At]at this;simpa using this i (Ae.2 yE)
 |k+1,row,hl,h0,hle,hk=>by
  refine ZnJ a d k (Qm R row) (by rw [Zf4,hl]) (λi=>AU (h0 i) (Zb3 R row i)) (ZeQ a.sol (λ_ h=>h) hle) ?_;rcases ZnQ a hl d h0 hle with h|h
  .have:ZjC n L (Qm R row)=0:=by
    have e:row=L:=by
     refine Zf7 (hl.trans a.len.symm) λi c=>?_;unfold ZjC at h;rw [At]at h;simpa using h i (Ae.2 yE)
    unfold ZjC;rw [At];intro i c;have h1:=ZeQ a.sol (l:=R) (λ_ h=>h) hle i;have h2:=Zb3 R row i;rw [e]at h1 h2 ⊢;simp only[decide_eq_true_eq,Classical.not_not];omega
   omega
  .omega
def Zmz (R:List Zg) (x y:Int):Prop:=∃r∈R,r.for_=x/\(y∈r.inn\/y∈r.outs)
inductive ZbQ (R:List Zg) (x:Int):Int->Prop
 |one {y:Int}:Zmz R x y->ZbQ R x y
 |step {y z:Int}:ZbQ R x y->Zmz R y z->ZbQ R x z
theorem ZbQ.head {R:List Zg}{x y z:Int}(h:Zmz R x y) (k:ZbQ R y z):ZbQ R x z:=by
 induction k with
 |one h1=>exact .step (.one h) h1
 |step _ h1 ih=>exact .step ih h1
def Zro (R:List Zg):Prop:=∀r∈R,∀y∈r.outs,y≠r.for_/\¬ZbQ R y r.for_
def Zin (n:Nat) (R:List Zg) (i:Nat):Int:=if i<n then (((AL n).countP λj=>decide (j=i\/ZbQ R (i:Int) (j:Int)):Nat):Int) - 1 else 0
theorem Zqj {α:Type}{p q:α->Bool}:∀{l:List α},(∀x∈l,p x=true->q x=true)->l.countP p<=l.countP q
 | [],_=>Aa _
 |x::l,h=>by
  have ih:=Zqj (l:=l) λy a=>h y (by simp [a]);have hx:=h x yG;simp only[AZ];cases hp:p x with
  |true=>rw [hx hp];simpa using ih
  |false=>simp;omega
theorem Zu2 {n:Nat}{R:List Zg}(E:∀r∈R,OkN n r) (H:Zro R):ZiD R (Zin n R)/\∀i,Zin n R i<n\/Zin n R i=0:=by
 have v:∀i,i<n->Zin n R i=(((AL n).countP λj=>decide (j=i\/ZbQ R (i:Int) (j:Int)):Nat):Int) - 1:=λi c=>if_pos c;refine ⟨⟨λi=>?_,λr u y h=>?_,λr u y h=>?_⟩,λi=>?_⟩
 .by_cases c:i<n
  .rw [v i c];have:0<(AL n).countP λj=>decide (j=i\/ZbQ R (i:Int) (j:Int)):=List.countP_pos_iff.2 ⟨i,Ae.2 c,yG⟩;omega
  .unfold Zin;rw [if_neg c];exact AW _
 .obtain ⟨⟨D,A⟩,J,_⟩:=E r u;obtain ⟨C,B⟩:=J y h;rw [v _ B,v _ A];have d:(y.toNat:Int)=y:=Au C;have x:(r.for_.toNat:Int)=r.for_:=Au D;have w:Zmz R r.for_ y:=⟨r,u,rfl,.inl h⟩
  have:=Zqj (l:=AL n) (p:=λj=>decide (j=y.toNat\/ZbQ R (y.toNat:Int) (j:Int))) (q:=λj=>decide (j=r.for_.toNat\/ZbQ R (r.for_.toNat:Int) (j:Int))) (λj _ a=>by
   simp only[decide_eq_true_eq,d,x]at a ⊢;rcases a with rfl|a
   .exact .inr (by rw [d];exact .one w)
   .exact .inr (.head w a))
  omega
 .obtain ⟨⟨D,A⟩,_,I⟩:=E r u;obtain ⟨C,B⟩:=I y h;rw [v _ B,v _ A];have d:(y.toNat:Int)=y:=Au C;have x:(r.for_.toNat:Int)=r.for_:=Au D;have w:Zmz R r.for_ y:=⟨r,u,rfl,.inr h⟩
  obtain ⟨G,F⟩:=H r u y h;have:=ZfR (l:=AL n) (p:=λj=>decide (j=y.toNat\/ZbQ R (y.toNat:Int) (j:Int))) (q:=λj=>decide (j=r.for_.toNat\/ZbQ R (r.for_.toNat:Int) (j:Int))) (λj _ a=>by
   simp only[decide_eq_true_eq,d,x]at a ⊢;rcases a with rfl|a
   .exact .inr (by rw [d];exact .one w)
   .exact .inr (.head w a)) r.for_.toNat (Ae.2 A) (by
    simp only[decide_eq_false_iff_not,d,x,not_or];exact ⟨λe=>G (by rw [<-d,<-x,e]),F⟩) yG
  omega
 .by_cases c:i<n
  .left
   rw [v i c];have:=Aw (p:=λj=>decide (j=i\/ZbQ R (i:Int) (j:Int))) (l:=AL n);rw [List.length_range]at this;omega
  .right;unfold Zin;rw [if_neg c]
end
section
open Classical
def rdN (row:List Int) (y:Int):Int:=(row[y.toNat]?).getD (-1)
def ZjZ (row:List Int) (k:Nat) (r:Zg):Prop:=(∀y∈r.inn,0<=rdN row y/\rdN row y<(k:Int))/\∀y∈r.outs,rdN row y<0
def Zdu (row l:List Int) (k:Int):List Int:=l.foldl (λs x=>s.set x.toNat k) row
theorem ZtO (k:Int):∀(l row:List Int),(Zdu row l k).length=row.length
 | [],_=>rfl
 |x::l,row=>(ZtO k l (row.set x.toNat k)).trans yG
theorem Zkd (k:Int):∀(l row:List Int) (i:Nat),(Zdu row l k)[i]?=if (∃x∈l,x.toNat=i)/\i<row.length then some k else row[i]?
 | [],row,i=>by simp [Zdu]
 |x::l,row,i=>by
  have ih:=Zkd k l (row.set x.toNat k) i;show (Zdu (row.set x.toNat k) l k)[i]?=_
  rw [ih,List.length_set,B7];by_cases c:i<row.length
  .by_cases d:∃y∈l,y.toNat=i
   .have:∃y∈x::l,y.toNat=i:=by obtain ⟨y,m,e⟩:=d;exact ⟨y,by simp [m],e⟩
    rw [if_pos ⟨d,c⟩,if_pos ⟨this,c⟩]
   .rw [if_neg (λh=>d h.1)];by_cases a:x.toNat=i
    .rw [if_pos a,if_pos yE,if_pos ⟨⟨x,yG,a⟩,c⟩]
    .rw [if_neg a,if_neg];rintro ⟨⟨y,m,e⟩,_⟩;rcases A6.1 m with rfl|m
     .exact a e
     .exact d ⟨y,m,e⟩
  .have e:row[i]?=none:=AT yE;by_cases a:x.toNat=i
   .have:¬x.toNat<row.length:=by omega
    simp [c,e,a]
   .simp [c,e,a]
theorem ZuD {row l m:List Int}{k:Int}(h:∀i,(∃x∈l,x.toNat=i)↔∃x∈m,x.toNat=i):Zdu row l k=Zdu row m k:=by
 apply As;intro i;rw [Zkd,Zkd];by_cases a:(∃x∈l,x.toNat=i)/\i<row.length
 .rw [if_pos a,if_pos ⟨(h i).1 a.1,a.2⟩]
 .rw [if_neg a,if_neg λc=>a ⟨(h i).2 c.1,c.2⟩]
def Zfm (row:List Int):Nat:=row.countP λv=>decide (v<0)
theorem Zob {k:Int}(d:0<=k):∀(row:List Int) (i:Nat),Zfm (row.set i k)<=Zfm row/\(∀v,row[i]?=some v->v<0->Zfm (row.set i k)+1<=Zfm row)
 | [],i=>by simp [Zfm]
 |v::row,0=>by
  simp only[List.set_cons_zero,Zfm,AZ];have:¬k<0:=by omega
  refine ⟨by simp [this],λu a c=>?_⟩;simp at a;subst a;simp [this,c]
 |v::row,i+1=>by
  obtain ⟨j,h⟩:=Zob d row i;simp only[BO,Zfm,AZ]at *;refine ⟨yE,λu a c=>?_⟩;have:=h u (by simpa using a) c;omega
theorem Zqu {k:Int}(a:0<=k):∀(l row:List Int),Zfm (Zdu row l k)<=Zfm row
 | [],_=>Aa _
 |x::l,row=>AS (Zqu a l (row.set x.toNat k)) (Zob a row _).1
def YH (R:List Zg) (L:List Int) (s:Int) (row:List Int) (k:Nat):List Int:=R.filterMap λr=>if lvN L r.for_.toNat=s/\rdN row r.for_<0/\ZjZ row k r then some r.for_ else none
theorem ZcG {R:List Zg}{L:List Int}{s:Int}{row:List Int}{k:Nat}{x:Int}:x∈YH R L s row k↔∃r∈R,r.for_=x/\lvN L x.toNat=s/\rdN row x<0/\ZjZ row k r:=by
 unfold YH;rw [AH];constructor
 .rintro ⟨r,a,h⟩;split at h
  .rename_i c;obtain rfl:=AQ h;exact ⟨r,a,rfl,c⟩
  .simp at h
 .rintro ⟨r,a,rfl,h⟩;exact ⟨r,a,by rw [if_pos h]⟩
structure RIn (n:Nat) (row:List Int) (k:Nat):Prop where
 len:row.length=n
 val:∀i,i<n->∃v,row[i]?=some v/\(v=-1\/(0<=v/\v<(k:Int)))
 few:k+Zfm row<=n
theorem RIn.next {n:Nat}{R:List Zg}{L row:List Int}{s:Int}{k:Nat}(C:∀r∈R,OkN n r) (h:RIn n row k) (B:YH R L s row k≠[]):RIn n (Zdu row (YH R L s row k) (k:Int)) (k+1)/\Zfm (Zdu row (YH R L s row k) (k:Int))+1<=Zfm row:=by
 have A:Zfm (Zdu row (YH R L s row k) (k:Int))+1<=Zfm row:=by
  cases e:YH R L s row k with
  |nil=>exact absurd e B
  |cons x l=>
   have j:x∈YH R L s row k:=by rw [e];simp
   obtain ⟨r,u,rfl,_,d,_⟩:=ZcG.1 j;obtain ⟨v,c,_⟩:=h.val r.for_.toNat (C r u).1.2;have D:v<0:=by unfold rdN at d;rw [c]at d;exact d
   have h4:=(Zob (k:=(k:Int)) yE row r.for_.toNat).2 v c D;have h5:=Zqu (k:=(k:Int)) yE l (row.set r.for_.toNat (k:Int));exact AS (Nat.succ_le_succ h5) h4
 refine ⟨⟨by rw [ZtO,h.len],λi w=>?_,by have:=h.few;omega⟩,A⟩;rw [Zkd];obtain ⟨v,c,a⟩:=h.val i w;split
 .exact ⟨_,rfl,.inr ⟨yE,yE⟩⟩
 .refine ⟨v,c,?_⟩;rcases a with a|⟨E,d⟩
  .exact .inl a
  .exact .inr ⟨E,yE⟩
def YY (R:List Zg) (L:List Int) (s:Int):Nat->List Int->Nat->List Int×Nat
 |0,row,k=>(row,k)
 |f+1,row,k=>if YH R L s row k=[] then (row,k) else YY R L s f (Zdu row (YH R L s row k) (k:Int)) (k+1)
theorem Zeg {n:Nat}{R:List Zg}{L:List Int}{s:Int}(c:∀r∈R,OkN n r):∀(f:Nat) (row:List Int) (k:Nat),RIn n row k->Zfm row<=f->RIn n (YY R L s f row k).1 (YY R L s f row k).2/\YH R L s (YY R L s f row k).1 (YY R L s f row k).2=[]
 |0,row,k,h,hf=>by
  refine ⟨h,Classical.byContradiction λa=>?_⟩;have:=(h.next c a).2;omega
 |f+1,row,k,h,hf=>by
  unfold YY;by_cases a:YH R L s row k=[]
  .rw [if_pos a];exact ⟨h,a⟩
  .rw [if_neg a];obtain ⟨d,j⟩:=h.next c a
   exact Zeg c f _ _ d yE
theorem Zyd {R:List Zg}{L:List Int}{s:Int}(d:∀r∈R,¬lvN L r.for_.toNat=s) (f:Nat) (row:List Int) (k:Nat):YY R L s f row k=(row,k):=by
 cases f with
 |zero=>rfl
 |succ f=>
  unfold YY;rw [if_pos];rw [List.eq_nil_iff_forall_not_mem];intro x a;obtain ⟨r,c,rfl,h,_⟩:=ZcG.1 a;exact d r c h
def XS (R:List Zg) (L:List Int) (n:Nat) (l:List Nat) (st:List Int×Nat):List Int×Nat:=l.foldl (λst s=>YY R L ((s:Nat):Int) n st.1 st.2) st
theorem ZmY {n:Nat}{R:List Zg}{L:List Int}(c:∀r∈R,OkN n r):∀(l:List Nat) (a:List Int×Nat),RIn n a.1 a.2->RIn n (XS R L n l a).1 (XS R L n l a).2
 | [],_,h=>h
 |s::l,a,h=>ZmY c l _ (Zeg c n a.1 a.2 h (by have:=h.few;omega)).1
theorem Zq8 (R:List Zg) (L:List Int) (n:Nat) (l:List Nat) (s:Nat) (a:List Int×Nat):XS R L n (l++[s]) a=YY R L (s:Int) n (XS R L n l a).1 (XS R L n l a).2:=by
 unfold XS;rw [AX];rfl
theorem ZsO {n:Nat}{R:List Zg}{L:List Int}{a b:Nat}(w:∀r∈R,lvN L r.for_.toNat<(a:Int)) (v:∀r∈R,lvN L r.for_.toNat<(b:Int)) (st:List Int×Nat):XS R L n (AL a) st=XS R L n (AL b) st:=by
 have c:∀(a d:Nat),(∀r∈R,lvN L r.for_.toNat<(a:Int))->XS R L n (AL (a+d)) st=XS R L n (AL a) st:=by
  intro a d u;induction d with
  |zero=>rfl
  |succ d ih=>
   rw [show a+(d+1)=(a+d)+1 by omega,List.range_succ,Zq8,ih,Zyd];intro r j e;have:=u r j;omega
 rcases Nat.le_total a b with h|h
 .have:=c a (b - a) w;rw [show a+(b - a)=b by omega]at this;exact this.symm
 .have:=c b (a - b) v;rw [show b+(a - b)=a by omega]at this;exact this
end
section
open Classical
theorem ZA5 (F:List Zd):∀n (l:List Zp),l.length=n->∀t∈Zy l F,∀f∈t.facts,∃x∈l,x.kind=1/\x.pattern.rel=f.rel:=by
 intro n;induction n with
 |zero=>
  intro l h t c f d;rw [Ao h]at c;simp [Zy]at c;subst c;simp [Zs0]at d
 |succ n ih=>
  intro l h;obtain ⟨p,x,rfl⟩:∃p x,l=p++[x]:=⟨l.dropLast,l.getLast (by intro e;simp [e]at h),(B2 _).symm⟩
  intro t c f d;rw [ZaQ]at c;obtain ⟨s,A,c⟩:=AG.1 c;have a:f∈s.facts->∃y∈p++[x],y.kind=1/\y.pattern.rel=f.rel:=λD=>by
   obtain ⟨y,w,B⟩:=ih p (by simpa using h) s A f D;exact ⟨y,by simp [w],B⟩
  unfold Zc1 at c;by_cases u:x.kind=1
  .rw [if_pos u]at c;obtain ⟨g,E,C⟩:=AH.1 c;obtain ⟨b,v,rfl⟩:=AY.1 C;simp only[A5,AI]at d;rcases d with d|rfl
   .exact a d
   .refine ⟨x,yG,u,?_⟩;unfold ZbA at v;split at v
    .rename_i j;unfold Zhv at j;simp only[A4,decide_eq_true_eq,ZP]at j;first|exact j.1.2|exact j.2|exact j.1.1.2|exact j.2.1|exact j.1.2.1
    .simp at v
  .rw [if_neg u]at c;split at c
   .simp at c;subst c;exact a d
   .simp at c
def ZgX (F:List Zd) (x:Int):ByteArray:=match F[x.toNat]? with|some f=>f.rel|none=>⟨#[]⟩
theorem Zk1 {F:List Zd}{f:Zd}{x:Int}(e:Z0 F f=x) (d:0<=x):(0<=x/\x.toNat<F.length)/\ZgX F x=f.rel/\f∈F:=by
 rcases Zgt F f with ⟨_,a⟩|⟨j,h,a⟩
 .omega
 .have c:x.toNat=j:=by omega
  refine ⟨⟨d,?_⟩,?_,AD a⟩
  .rw [c];exact (AE.1 a).1
  .unfold ZgX;rw [c,a]
structure ZJy (R:List Zf) (F:List Zd) (x:Zg):Prop where
 node:0<=x.for_/\x.for_.toNat<F.length
 inn:∀y∈x.inn,(0<=y/\y.toNat<F.length)/\ZgS R (ZgX F x.for_) (ZgX F y)
 outs:∀y∈x.outs,(0<=y/\y.toNat<F.length)/\ZgS R (ZgX F x.for_) (ZgX F y)/\ZgX F y≠ZgX F x.for_/\¬XD R (ZgX F y) (ZgX F x.for_)
 up:x.inn.Pairwise (·<·)/\x.outs.Pairwise (·<·)
theorem Ze4 {R:List Zf}{w F:List Zd}(h:Yf R w F) {x:Zg}(N:x∈YG R F w):ZJy R F x:=by
 rcases Zjt.1 N with ⟨f,C,rfl⟩|⟨r,B,t,L,a,G,rfl⟩
 .obtain ⟨j,h1,h2⟩:=ZaW (h.good.inc f C)
  have:=(AE.1 h2).1
  exact ⟨⟨by simp only;omega,by simp only;omega⟩,yG,yG,Aj,Aj⟩
 .have o:Yh a t∈F:=h.closed r B t L a G
  obtain ⟨j,h1,h2⟩:=ZaW o
  have hr:=(h.rule B).1
  have k:=hr
  unfold Z3 at k
  simp only[A4]at k
  have T:a.kind=1:=by
   have:=AJ.1 k.2 a G
   simpa using this
  obtain ⟨S,q,_⟩:=Zk1 (F:=F) (f:=Yh a t) rfl (by rw [h1];omega)
  have u:=h.good.ok _ o
  have v:∀p b,Ya (XT (Xc p b)).1=true->(XT (Xc p b)).1.rel=p.rel:=λp b M=>by
   cases hi:Xc p b with
   |none=>
    rw [hi]at M
    exact absurd M yF
   |some g=>
    unfold Xc at hi
    split at hi
    .obtain ⟨l,_,rfl⟩:=AY.1 hi
     rfl
    .simp at hi
  have i:ZgX F (Z0 F (Yh a t))=a.pattern.rel:=q.trans (v a.pattern t.binding u)
  have J:a.pattern.rel∈XR r:=AH.2 ⟨a,G,by rw [if_pos (.inl T)]⟩
  refine ⟨S,λy E=>?_,λy E=>?_,(YO F _).1,(YO F _).1⟩
  .obtain ⟨f,C,e,K⟩:=((YO F t.facts).2.1 y).1 E
   obtain ⟨I,H,_⟩:=Zk1 e K
   obtain ⟨c,A,D,cr⟩:=ZA5 F _ (Qc r) rfl t L f C
   refine ⟨I,r,B,?_,?_⟩
   .show ZgX F (Z0 F (Yh a t))∈_
    rw [i];exact J
   .rw [H,<-cr]
    exact AH.2 ⟨c,(Ap.1 A).1,by rw [if_pos (.inl D)]⟩
  .obtain ⟨f,C,e,K⟩:=((YO F (ZkE r t)).2.1 y).1 E
   obtain ⟨I,H,O⟩:=Zk1 e K
   obtain ⟨c,A,rfl⟩:=AK.1 C
   obtain ⟨A,D⟩:=Ap.1 A
   have cr:=v c.pattern t.binding (h.good.ok _ O)
   have P:ZgX F y=c.pattern.rel:=H.trans cr
   have m:ZgX F (Ym F r t a).for_=a.pattern.rel:=i
   have d:ZjV R c.pattern.rel a.pattern.rel=true:=by
    have h1:=h.logical
    rw [A4]at h1
    have h2:=AJ.1 h1.2 r B
    unfold Xq at h2
    rw [A4]at h2
    have h3:=AJ.1 h2.2 c A
    unfold Zg5 at h3
    rw [D]at h3
    simp only[Av,Ah]at h3
    exact AJ.1 h3 _ (ZW.2 J)
   unfold ZjV at d
   simp only[A4,Bool.not_eq_true',decide_eq_false_iff_not]at d
   rw [m,P]
   refine ⟨I,⟨r,B,J,AH.2 ⟨c,A,by rw [if_pos (.inr (by simpa using D))]⟩⟩,λe=>?_,d.2⟩
   have:=ZxM.1 d.1
   exact this e.symm
theorem ZwQ {R:List Zf}{a F:List Zd}(h:Yf R a F):∀x∈YG R F a,OkN F.length x:=λx d=>by
 have hf:=Ze4 h d;exact ⟨hf.node,λy c=>(hf.inn y c).1,λy c=>(hf.outs y c).1⟩
theorem ZrC {R:List Zf}{c F:List Zd}(h:Yf R c F):Zro (YG R F c):=by
 have a:∀x y,Zmz (YG R F c) x y->ZgS R (ZgX F x) (ZgX F y):=λx y ⟨r,j,e,d⟩=>by
  have hf:=Ze4 h j;subst e;rcases d with d|d
  .exact (hf.inn y d).2
  .exact (hf.outs y d).2.1
 have b:∀x y,ZbQ (YG R F c) x y->XD R (ZgX F x) (ZgX F y):=λx y u=>by
  induction u with
  |one h1=>exact .one (a _ _ h1)
  |step _ h1 ih=>exact .next ih (a _ _ h1)
 intro r j y v;obtain ⟨_,_,A,w⟩:=(Ze4 h j).outs y v;exact ⟨λe=>A (by rw [e]),λu=>w (b _ _ u)⟩
end
theorem Zkj (x a b:Int):QY x a b=some (decide (a<=x)&&decide (x<=b)):=by
 unfold QY;cases decide (a<=x)<;>simp
/- the bits of a set -/
def ZrP:List Int->Nat->Nat->List Int
 | [],_,_=>[]
 |x::l,s,i=>if s.testBit i=true then x::ZrP l s (i+1) else ZrP l s (i+1)
def ZFW (x:Int):Zg:={ for_:=x,inn:=[],outs:=[] }
def RF (f:ZEH) (s:Nat):List Zg:=f.beliefs.reasons++(ZrP f.assumed s 0).map ZFW
def ZwX (l:List Int) (n:Int) (i:Nat) (x:Int):Bool:=decide (0<=x)&&(decide (x<n)&&(decide (i=0)||(match l[i - 1]? with|some y=>decide (y<x)|none=>false)))
def Zl2 (l:List Int) (n:Int):Bool:=QG (ZwX l n) l 0
theorem ZCr {l:List Int}{j:Nat}{x:Int}(h:l.length<=1000000000) (d:l[j]?=some x) (u:0<j):∃y,l[j - 1]?=some y/\atI l (IntKind.i64.wrap ((j:Int) - 1))=some y:=by
 have hlt:=(AE.1 d).1;have a:l[j - 1]?=some l[j - 1]:=A9 yE;refine ⟨l[j - 1],a,?_⟩;have c:IntKind.i64.wrap ((j:Int) - 1)=((j - 1:Nat):Int):=by rw [Y2 yE yE];omega
 rw [c];unfold atI;rw [if_pos yE,Al,a]
theorem ZjG (l:List Int) (n:Int) (d:l.length<=1000000000):ZcB l n=some (Zl2 l (IntKind.i64.wrap (n - 1)+1)):=by
 unfold ZcB Zl2;generalize IntKind.i64.wrap (n - 1)=m
 rw [Xf (p:=ZwX l (m+1)) (r:=false)]
 .cases QG (ZwX l (m+1)) l 0<;>rfl
 .intro j x h;rw [AB,Zkj,A0];unfold ZwX;by_cases A:x<0
  .rw [show decide (0<=x)=false by simp;omega];rfl
  .rw [show decide (0<=x)=true by simp;omega];by_cases w:m<x
   .rw [show decide (x<=m)=false by simp;omega,show decide (x<m+1)=false by simp;omega];rfl
   .rw [show decide (x<=m)=true by simp;omega,show decide (x<m+1)=true by simp;omega];by_cases a:j=0
    .subst a;rfl
    .obtain ⟨y,v,u⟩:=ZCr d h yE;rw [show (true&&true)=true from rfl,if_pos rfl,if_pos (by simp;omega),u,A0,v];by_cases c:x<=y
     .rw [if_pos (by simpa using c)];simp [a,show ¬y<x by omega]
     .rw [if_neg (by simpa using c)];simp [a,show y<x by omega]
theorem ZpA (l:List Int) (n:Int) (a:l.length<=1000000000) (d:0<=n) (c:n<=1000000000):ZcB l n=some (Zl2 l n):=by
 rw [ZjG l n a,Y2 yE yE];congr 2
 omega
theorem ZAC {l:List Int}{n:Int}(j:∀x∈l,0<=x/\x<n) (d:l.Pairwise (·<·)):Zl2 l n=true:=by
 have c:∀(q a:List Int),l=a++q->QG (ZwX l n) q a.length=true:=by
  intro q;induction q with
  |nil=>intro _ _;rfl
  |cons x q ih=>
   intro a e;simp only[QG,A4];refine ⟨?_,?_⟩
   .have hx:=j x (by rw [e];simp);simp only[ZwX,A4,decide_eq_true_eq,B9];refine ⟨hx.1,hx.2,?_⟩;by_cases u:a.length=0
    .exact .inl u
    .right
     have b:a.length - 1<a.length:=by omega
     have h:l[a.length - 1]?=some a[a.length - 1]:=by rw [e,Ab b,A9 b]
     rw [h];rw [e,List.pairwise_append]at d;simpa using d.2.2 _ (List.getElem_mem b) x yG
   .have:=ih (a++[x]) (by rw [e];simp);simpa using this
 exact c l [] rfl
def ZxA (n:Int) (r:Zg):Bool:=decide (0<=r.for_)&&(decide (r.for_<n)&&(Zl2 r.inn n&&Zl2 r.outs n))
def Zgq (b:Zu):Bool:=decide (0<=b.nodes)&&(decide (b.nodes<=24)&&(decide (b.reasons.length<=60)&&b.reasons.all (ZxA b.nodes)))
def Zzk (b:Zu):Prop:=∀r∈b.reasons,r.inn.length<=1000000000/\r.outs.length<=1000000000
theorem Zn6 {b:Zu}(h:Zzk b) (x:b.reasons.length<=1000000000):Zdb b=some (Zgq b):=by
 unfold Zdb Zgq;by_cases u:0<=b.nodes/\b.nodes<=24
 .have v:IntKind.i64.wrap (b.nodes - 1)=b.nodes - 1:=Y2 yE yE;rw [Z1 (p:=ZxA b.nodes) (r:=false)]
  .rw [Zkj,show decide (0<=b.nodes)=true by simp;omega,show decide (b.nodes<=24)=true by simp;omega];simp only[A0,Bool.and_self,if_true,Ag];have j:decide ((b.reasons.length:Int)<=60)=decide (b.reasons.length<=60):=by rw [AC];simp;omega
   rw [j];cases b.reasons.all (ZxA b.nodes)<;>cases decide (b.reasons.length<=60)<;>rfl
  .intro i r d;obtain ⟨c,a⟩:=h r d;rw [Zkj,v,ZpA _ _ c u.1 yE,ZpA _ _ a u.1 yE];unfold ZxA;have j:decide (r.for_<=b.nodes - 1)=decide (r.for_<b.nodes):=by rw [AC];simp;omega
   rw [j];simp only[A0];cases decide (0<=r.for_)<;>cases decide (r.for_<b.nodes)<;>cases Zl2 r.inn b.nodes<;>cases Zl2 r.outs b.nodes<;>rfl
 .have w:(decide (0<=b.nodes)&&(decide (b.nodes<=24)&&(decide (b.reasons.length<=60)&&b.reasons.all (ZxA b.nodes))))=false:=by
   by_cases A:0<=b.nodes
   .have:decide (b.nodes<=24)=false:=by simp;omega
    rw [this];simp
   .have:decide (0<=b.nodes)=false:=by simp;omega
    rw [this];simp
  rw [w,Z1 (p:=λr=>decide (0<=r.for_)&&(decide (r.for_<=IntKind.i64.wrap (b.nodes - 1))&&(Zl2 r.inn (IntKind.i64.wrap (b.nodes - 1)+1)&&Zl2 r.outs (IntKind.i64.wrap (b.nodes - 1)+1)))) (r:=false)]
  .rw [Zkj];have:(decide (0<=b.nodes)&&decide (b.nodes<=24))=false:=by
    cases h1:decide (0<=b.nodes)<;>cases h2:decide (b.nodes<=24)<;>simp at h1 h2 ⊢
    omega
   rw [this];split<;>rfl
  .intro i r d;obtain ⟨c,a⟩:=h r d;rw [Zkj,ZjG _ _ c,ZjG _ _ a];simp only[A0];cases decide (0<=r.for_)<;>cases decide (r.for_<=IntKind.i64.wrap (b.nodes - 1))<;>cases Zl2 r.inn (IntKind.i64.wrap (b.nodes - 1)+1)<;>cases Zl2 r.outs (IntKind.i64.wrap (b.nodes - 1)+1)<;>rfl
section
open Classical
def ZwV (row:List Bool):Nat:=row.countP λv=>!v
theorem ZtW:∀(row:List Bool) (i:Nat),row[i]?=some false->ZwV (row.set i true)+1=ZwV row
 | [],i,h=>by simp at h
 |v::row,0,h=>by
  simp at h;subst h;simp [ZwV]
 |v::row,i+1,h=>by
  have ih:=ZtW row i (by simpa using h);simp only[ZwV,BO,AZ]at *;omega
def Zft (s:List Bool×List Int) (y:Int):List Bool×List Int:=if s.1[y.toNat]?=some true then s else (s.1.set y.toNat true,s.2++[y])
structure QT (n:Nat) (R:List Zg) (x:Int) (s:List Bool×List Int):Prop where
 len:s.1.length=n
 row:∃t,s.2=x::t/\(∀y∈t,(0<=y/\y.toNat<n)/\ZbQ R x y/\s.1[y.toNat]?=some true)/\(∀y:Int,0<=y->s.1[y.toNat]?=some true->y∈t)/\t.length+ZwV s.1=n
structure Zhb (s u:List Bool×List Int):Prop where
 mono:∀i:Nat,s.1[i]?=some true->u.1[i]?=some true
 more:∃v,u.2=s.2++v
theorem Zhb.refl (s:List Bool×List Int):Zhb s s:=⟨λ_ h=>h,[],yG⟩
theorem Zhb.trans {s t u:List Bool×List Int}(h:Zhb s t) (k:Zhb t u):Zhb s u:=⟨λi c=>k.mono i (h.mono i c),by
 obtain ⟨a,j⟩:=h.more;obtain ⟨b,d⟩:=k.more;exact ⟨a++b,by rw [d,j,List.append_assoc]⟩⟩
theorem ZzA {row:List Bool}{j:Nat}(a:j<row.length) (i:Nat):(row.set j true)[i]?=if j=i then some true else row[i]?:=by
 rw [B7];by_cases e:j=i
 .rw [if_pos e,if_pos e,if_pos a]
 .rw [if_neg e,if_neg e]
theorem ZvS {n:Nat}{R:List Zg}{x y:Int}{s:List Bool×List Int}(h:QT n R x s) (w:0<=y/\y.toNat<n) (H:ZbQ R x y):QT n R x (Zft s y)/\Zhb s (Zft s y)/\(Zft s y).1[y.toNat]?=some true:=by
 unfold Zft;by_cases u:s.1[y.toNat]?=some true
 .rw [if_pos u];exact ⟨h,.refl s,u⟩
 .rw [if_neg u];have A:y.toNat<s.1.length:=by rw [h.len];exact w.2
  have G:s.1[y.toNat]?=some false:=by
   rw [A9 A]at u ⊢;cases hv:s.1[y.toNat]with
   |true=>rw [hv]at u;exact absurd rfl u
   |false=>rfl
  have d:=ZzA A;obtain ⟨t,E,D,C,I⟩:=h.row;have f:∀i:Nat,s.1[i]?=some true->(s.1.set y.toNat true)[i]?=some true:=λi F=>by
   rw [d];split
   .rfl
   .exact F
  refine ⟨⟨by simp [h.len],t++[y],by simp [E],λz j=>?_,λz B v=>?_,?_⟩,⟨f,[y],rfl⟩,by rw [d,if_pos rfl]⟩
  .rcases A5.1 j with j|j
   .obtain ⟨a,b,c⟩:=D z j;exact ⟨a,b,f _ c⟩
   .simp at j;subst j;exact ⟨w,H,by rw [d,if_pos rfl]⟩
  .rw [d]at v;by_cases e:y.toNat=z.toNat
   .have:z=y:=by omega
    simp [this]
   .rw [if_neg e]at v;exact A5.2 (.inl (C z B v))
  .have:=ZtW s.1 y.toNat G;simp only[AF,Ac];omega
theorem Zp1 {n:Nat}{R:List Zg}{x:Int}:∀{l:List Int}{s:List Bool×List Int},QT n R x s->(∀y∈l,(0<=y/\y.toNat<n)/\ZbQ R x y)->QT n R x (l.foldl Zft s)/\Zhb s (l.foldl Zft s)/\∀y∈l,(l.foldl Zft s).1[y.toNat]?=some true
 | [],s,h,_=>⟨h,.refl s,yG⟩
 |y::l,s,h,hl=>by
  obtain ⟨w,v,u⟩:=ZvS h (hl y yG).1 (hl y yG).2;obtain ⟨j,c,d⟩:=Zp1 (l:=l) w λz a=>hl z (by simp [a]);exact ⟨j,v.trans c,λz a=>by
   rcases A6.1 a with rfl|a
   .exact c.mono _ u
   .exact d z a⟩
def ZhE (z:Int) (s:List Bool×List Int) (r:Zg):List Bool×List Int:=if r.for_=z then (r.inn++r.outs).foldl Zft s else s
theorem ZyN {n:Nat}{R:List Zg}{x z:Int}(h:∀r∈R,OkN n r) (c:z=x\/ZbQ R x z) {r:Zg}(a:r∈R) (e:r.for_=z):∀y∈r.inn++r.outs,(0<=y/\y.toNat<n)/\ZbQ R x y:=λy j=>by
 have hy:=A5.1 j;have d:Zmz R z y:=⟨r,a,e,hy⟩
 refine ⟨hy.elim ((h r a).2.1 y) ((h r a).2.2 y),?_⟩;rcases c with rfl|c
 .exact .one d
 .exact .step c d
theorem ZwF {n:Nat}{R:List Zg}{x z:Int}(d:∀r∈R,OkN n r) (c:z=x\/ZbQ R x z) {s:List Bool×List Int}(h:QT n R x s) {r:Zg}(a:r∈R):QT n R x (ZhE z s r)/\Zhb s (ZhE z s r)/\(r.for_=z->∀y∈r.inn++r.outs,(ZhE z s r).1[y.toNat]?=some true):=by
 unfold ZhE;by_cases e:r.for_=z
 .rw [if_pos e];obtain ⟨v,u,j⟩:=Zp1 h (ZyN d c a e);exact ⟨v,u,λ_=>j⟩
 .rw [if_neg e];exact ⟨h,.refl s,λh=>absurd h e⟩
theorem Zt1 {n:Nat}{R:List Zg}{x z:Int}(j:∀r∈R,OkN n r) (d:z=x\/ZbQ R x z):∀{l:List Zg}{s:List Bool×List Int},(∀r∈l,r∈R)->QT n R x s->QT n R x (l.foldl (ZhE z) s)/\Zhb s (l.foldl (ZhE z) s)/\∀r∈l,r.for_=z->∀y∈r.inn++r.outs,(l.foldl (ZhE z) s).1[y.toNat]?=some true
 | [],s,_,h=>⟨h,.refl s,yG⟩
 |r::l,s,hl,h=>by
  obtain ⟨C,B,A⟩:=ZwF j d h (hl r yG);obtain ⟨w,u,v⟩:=Zt1 j d (l:=l) (λq a=>hl q (by simp [a])) C;exact ⟨w,B.trans u,λq a e y c=>by
   rcases A6.1 a with rfl|a
   .exact u.mono _ (A e y c)
   .exact v q a e y c⟩
theorem QT.at {n:Nat}{R:List Zg}{x:Int}{s:List Bool×List Int}(h:QT n R x s) {i:Nat}{z:Int}(d:s.2[i]?=some z):z=x\/ZbQ R x z:=by
 obtain ⟨t,c,a,_⟩:=h.row;have:=AD d;rw [c]at this;exact (A6.1 this).imp id λm=>(a z m).2.1
theorem QT.fin {n:Nat}{R:List Zg}{x:Int}(C:∀r∈R,OkN n r) {d:List Bool}{c:List Int}(D:QT n R x (d,c)) (L:∀j z,j<c.length->c[j]?=some z->∀y,Zmz R z y->d[y.toNat]?=some true):d.length=n/\∀y:Int,0<=y->(d[y.toNat]?=some true↔ZbQ R x y):=by
 obtain ⟨t,u,H,w,G⟩:=D.row;simp only at u G;refine ⟨D.len,λy F=>⟨λv=>(H y (w y F v)).2.1,λv=>?_⟩⟩;have f:∀z∈c,∀y,Zmz R z y->d[y.toNat]?=some true:=λz I=>by
  obtain ⟨j,B,e⟩:=BH I;exact L j z B (by rw [A9 B,e])
 have E:∀a b,Zmz R a b->0<=b:=λa b ⟨r,A,_,K⟩=>K.elim (λh=>((C r A).2.1 b h).1) λh=>((C r A).2.2 b h).1;have:∀y,ZbQ R x y->0<=y/\d[y.toNat]?=some true:=λy J=>by
  induction J with
  |one h=>exact ⟨E _ _ h,f x (by rw [u];simp) _ h⟩
  |step _ h ih=>exact ⟨E _ _ h,f _ (by rw [u];exact BI _ (w _ ih.1 ih.2)) _ h⟩
 exact (this y v).2
theorem Zuy {σ ρ:Type}{n:Nat}{R:List Zg}{x:Int}(G:∀r∈R,OkN n r) (C:List Bool->List Int->Nat->σ) (g:List Bool->ρ) {body:σ->Option (σ ⊕ ρ)}
  (T:∀b a i z,QT n R x (b,a)->i<n+1->a[i]?=some z->(z=x\/ZbQ R x z)->body (C b a i)=some (.inl (C (R.foldl (ZhE z) (b,a)).1 (R.foldl (ZhE z) (b,a)).2 (i+1))))
  (I:∀b a,QT n R x (b,a)->body (C b a a.length)=some (.inr (g b))):
  ∀m b a i,QT n R x (b,a)->i<=a.length->n+1 - i<=m->(∀j z,j<i->a[j]?=some z->∀y,Zmz R z y->b[y.toNat]?=some true)->∃row,Ys body (C b a i)=some (g row)/\row.length=n/\∀y:Int,0<=y->(row[y.toNat]?=some true↔ZbQ R x y):=by
 intro m;induction m with
 |zero=>
  intro b a i w S P D;obtain ⟨t,A,L,K,E⟩:=w.row;simp only at A E;have:a.length=t.length+1:=by rw [A];simp
  have c:i=a.length:=by omega
  subst c;exact ⟨b,ZZ (I b a w),w.fin G D⟩
 |succ m ih=>
  intro b a i w S P D;by_cases c:i=a.length
  .subst c;exact ⟨b,ZZ (I b a w),w.fin G D⟩
  .have f:i<a.length:=by omega
   obtain ⟨z,hz⟩:∃z,a[i]?=some z:=⟨_,A9 f⟩
   have d:=w.at (i:=i) (z:=z) hz;obtain ⟨t,A,L,K,E⟩:=w.row;simp only at A E;have O:a.length=t.length+1:=by rw [A];simp
   have k:i<n+1:=by omega
   rw [Yg (T b a i z w k hz d)];obtain ⟨V,J,U⟩:=Zt1 G d (l:=R) (λ_ h=>h) w;obtain ⟨v,F⟩:=J.more;simp only at F;refine ih _ _ (i+1) V (by rw [F,AF];omega) yE λj u W B y H=>?_;rw [F]at B;rw [Ab yE]at B;by_cases o:j<i
   .exact J.mono _ (D j u o B y H)
   .obtain rfl:j=i:=by omega
    rw [hz]at B;obtain rfl:=AQ B;obtain ⟨r,M,e,N⟩:=H;exact U r M e y (A5.2 N)
end
end
end Go.Proofs.YthjnneiibkknhaaGreatDoor
