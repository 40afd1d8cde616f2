/- Parts of this proof, joined; what they hold is said at the theorems. -/
import Derived.Test.YtnacpkmpdlodoaaGreatDoorTrimmedQ6
import Derived.Shelf.Strings.Builder1
import Derived.Shelf.Strings.Builder2
import Derived.Shelf.Strings.OnBuilder
import Derived.Shelf.Small.Bits
import Derived.Shelf.Small.Strs
import Derived.Shelf.Small.Wraps
import Derived.Shelf.Strconv.Atoi
import Derived.Shelf.Strconv.Itoa0
import Derived.Shelf.Strconv.Itoa1
import Derived.Shelf.LaysM
import Derived.Shelf.Strconv.Itoa2
import Derived.Shelf.Strconv.Itoa3
import Derived.Shelf.Strconv.AtoiErrFast
import Derived.Shelf.Strconv.ParseIntEmpty
import Derived.Shelf.Strconv.AtoiFail
import Derived.Shelf.Strconv.Clone
import Derived.Shelf.Strconv.SyntaxError
import Derived.Shelf.LaysC
import Derived.Shelf.Strconv.ToError
import Derived.Shelf.Strconv.AtoiErr
import Derived.Shelf.Strconv.ErrVar
import Derived.Shelf.Sort.Plain
import Derived.Shelf.Slices.In.SortNone
import Derived.Shelf.Slices.In.SortNone2
import Derived.Test.YtnacpkmpdlodoaaGreatDoorProg
import Derived.Test.YtnacpkmpdlodoaaGreatDoorTrimmedQ1
import Derived.Lib.AppendIntMem
import Derived.Lib.ItoaLen
import Derived.Lib.AtoiErrMem
open Array renaming getElem?_toList→AM,getElem?_modify→AN
open Bool renaming false_or→AH,or_false→AI
open Int renaming toNat_natCast→AA,toNat→AC
open List renaming map→A0,getElem?_map→AB,size_toArray→AD,eq_nil_of_length_eq_zero→AE,length_map→AJ,getElem?_take→AK,getElem?_drop→AL,map_map→AP,map_cons→AQ,map_nil→AS
open Option.some renaming inj→A9
open Go.Proofs.Tryz
set_option linter.unusedSimpArgs false
set_option linter.unusedVariables false
set_option maxRecDepth 1000000
set_option maxHeartbeats 4000000
namespace Go.Proofs.YtnacpkmpdlodoaaGreatDoor
open Go.IntKind
section
theorem yA{p q:Prop}(h:q)(e:p=q:=by simp only[*,go_sem,seval];try rfl):p:=e▸h
theorem yD{p:Prop}(e:p:=by simp only[*,go_sem,seval]):p:=e
theorem yB{α:Type}{G q v:Prop}{b:Bool}{x y:Option α}{r:α}(h:(if b=true then x else y)=some r)(B:b=true→x=some r→q)(A:b=false→y=some r→v)(e:∀(_:b=true)(_:x=some r),G=q:=by intro _ _;(try simp only[*,go_sem,seval]);try rfl)(f:∀(_:b=false)(_:y=some r),G=v:=by intro _ _;(try simp only[*,go_sem,seval]);try rfl):G:=Ze h (fun a c=>(e a c)▸B a c) fun a c=>(f a c)▸A a c
theorem yC{σ ρ:Type}{s:σ}{y:σ⊕ρ}{C:σ→List (Bool×Nat×Nat)→List Nat→Prop}(h:some (.inl s)=some y)(A:List (Bool×Nat×Nat))(k:List Nat)(d:k.Nodup:=by decide)(e:C s A k:=by simp only[*,go_sem,seval]):∃s' A k,y=.inl s'∧k.Nodup∧C s' A k:=⟨s,A,k,(Option.some.inj h).symm,d,e⟩
theorem yR{σ ρ:Type}{s:σ}{y:σ⊕ρ}{C:σ→List (Bool×Nat×Nat)→List Nat→Prop}(h:some (.inl s)=some y)(k:List Nat)(d:k.Nodup:=by decide)(e:C s [] k:=by simp only[*,go_sem,seval]):∃s' A k,y=.inl s'∧k.Nodup∧C s' A k:=⟨s,[],k,(Option.some.inj h).symm,d,e⟩
def yL(n:Nat):SV:=.p false [.c (.int .i64 (n:Int))]
def yM(x:CT):SV:=.p false [.c x]
def zF(t:Nat)(l:List CT):Ob:=.box t (l.map .c)
attribute [go_sem] yL yM zF List.map_cons List.map_nil
def yU(l:List Za):CT:=.sl 35 2 (List.map Zq l)
attribute [go_sem] yU
def yV(l:List BYT):CT:=.sl 9 1 (List.map ZC l)
attribute [go_sem] yV
def yW(l:List Int):CT:=.sl 3 1 (List.map ZP l)
attribute [go_sem] yW
def yX(l:List Zf):CT:=.sl 87 4 (List.map ZF l)
attribute [go_sem] yX
def yY(l:List Zu):CT:=.sl 144 5 (List.map ZT l)
attribute [go_sem] yY
def yZ(l:List Zx):CT:=.sl 149 2 (List.map Yi l)
attribute [go_sem] yZ
def zA(l:List Zy):CT:=.sl 90 3 (List.map ZM l)
attribute [go_sem] zA
def zB(l:List Zh):CT:=.sl 109 3 (List.map ZJ l)
attribute [go_sem] zB
def zC(l:List Zz):CT:=.sl 38 4 (List.map XP l)
attribute [go_sem] zC
def zD(l:List Int):CT:=.sl 5 1 (List.map ZbA l)
attribute [go_sem] zD
def zE(l:List Zw):CT:=.sl 81 2 (List.map YD l)
attribute [go_sem] zE
theorem ZA5{A:List Int}{r:Bool}(h:Zxa A=some r):Zp prog J0 5 [(false,[.sl 5 1 (A0 ZbA A)])] [(false,[(false,.bool r)])]:=by
 refine fnk func5 rfl ?_;unfold Zxa at h;simp only[fnS,f5,Zt,go_sem,seval];cases h;exact yD
theorem ZlZ{A B:List ByteArray}{r:Bool}(h:ZfT A B=some r):Zp prog J0 86 [(false,[.sl 9 1 (A0 ZC A)]),(false,[.sl 9 1 (A0 ZC B)])] [(false,[(false,.bool r)])]:=by
 refine fnk func86 rfl ?_;unfold ZfT at h;simp only[fnS,f86,Zt,go_sem,seval];refine yB h (fun _ h=>?_) fun _ h=>?_;cases h;exact yD;refine Zk h (fun i _ st=>IV [(0,yM (yV A)),(1,yM (yV B)),(5,yL i)] [] st) [] [] yF yD ?_ ?_;rintro _ _ ⟨⟩ ⟨_,_,_⟩ _ a b e h f;simp only[go_sem,seval,Zb]at b;obtain ⟨⟨g,_,_⟩,C⟩:=b;subst C;have k:=WF.slotL e g (j:=0) rfl;have:=ZH a;have:=ZI a;have:=Zm (ZG a) k;obtain ⟨_,_,_,l,h⟩:=Zbl h;simp only[AA]at l;simp only[*,go_sem,seval];refine yB h (fun _ h=>?_) fun _ h=>?_;exact yR h [];replace h:=Zr h f;cases h;exact yD;rintro ⟨⟩ ⟨_,_,_⟩ d _ h;simp only[go_sem,seval,Zb]at d;obtain ⟨⟨_,_,_⟩,C⟩:=d;subst C;have:=ZE (A.length);cases h;exact yD
theorem Xq{C A B:Int}{r:Bool}(h:XV C A B=some r):Zp prog J0 51 [(false,[.int .i64 C]),(false,[.int .i64 A]),(false,[.int .i64 B])] [(false,[(false,.bool r)])]:=by
 refine fnk func51 rfl ?_;unfold XV at h;simp only[fnS,f51,Zt,go_sem,seval];refine yB h (fun _ h=>?_) fun _ h=>?_;iterate 2 (cases h;exact yD)
theorem Zse{A r:List BYT}(h:Zgx A=some r):Zp prog J0 92 [(false,[.sl 9 1 (A0 ZC A)])] [(false,[(false,.sl 9 1 (A0 ZC r))])]:=by
 refine fnk func92 rfl ?_;unfold Zgx at h;simp only[fnS,f92,Zt,go_sem,seval];obtain ⟨_,h⟩:=Zs h;cases h;exact yD
theorem Zh1{A r:List Zx}(h:ZdO A=some r):Zp prog J0 214 [(false,[.sl 149 2 (A0 Yi A)])] [(false,[(false,.sl 149 2 (A0 Yi r))])]:=by
 refine fnk func214 rfl ?_;unfold ZdO at h;simp only[fnS,f214,Zt,go_sem,seval];obtain ⟨_,h⟩:=Zs h;cases h;exact yD
theorem Zwh{a:List Zx}{b d:ByteArray}{r:List Zx}(h:Zkl a b d=some r):Zp prog J0 239 [(false,[.sl 149 2 (A0 Yi a)]),(false,[.str b]),(false,[.str d])] [(false,[(false,.sl 149 2 (A0 Yi r))])]:=by
 refine fnk func239 rfl ?_;unfold Zkl at h;simp only[fnS,f239,Zt,go_sem,seval];refine Zk h (fun i s st=>match s with|(e,f)=>IV [(0,yM (yZ a)),(1,yM (.str b)),(2,yM (.str d)),(7,.p false [.row 0]),(8,yM (.bool f)),(9,yL i)] [.row 149 2 (A0 Yi e) 2] st) [] [16] yF yD ?_ ?_;rintro _ _ ⟨e,f⟩ ⟨_,_,_⟩ _ g l o h _;simp only[go_sem,seval,Zb]at l;obtain ⟨⟨q,_,_,_,_,_⟩,_,A⟩:=l;subst A;have t:=WF.slotL o q (j:=0) rfl;have:=ZH g;have:=ZI g;have:=Zm (ZG g) t;simp only[*,go_sem,seval];refine yB h (fun _ h=>?_) fun _ h=>?_;obtain ⟨u,h⟩:=Zs h;try simp only[Nat.reduceLeDiff]at u
 simp only[*,go_sem,seval];exact yR h [337];refine Ze h (fun k h=>?_) (fun k h=>?_);have v:=k;obtain ⟨w,h⟩:=Zs h;try simp only[Nat.reduceLeDiff]at w
 simp only[*,go_sem,seval];exact yR h [337];have v:=k;obtain ⟨x,h⟩:=Zs h;try simp only[Nat.reduceLeDiff]at x
 obtain ⟨y,h⟩:=Zs h;try simp only[Nat.reduceLeDiff]at y
 simp only[*,go_sem,seval];exact yR h [465];rintro ⟨e,f⟩ ⟨_,_,_⟩ m _ h;simp only[go_sem,seval,Zb]at m;obtain ⟨⟨_,_,_,_,_,_⟩,_,A⟩:=m;subst A;have:=ZE (a.length);simp only[*,go_sem,seval];refine yB h (fun _ h=>?_) fun _ h=>?_;cases h;exact yD;obtain ⟨z,h⟩:=Zs h;try simp only[Nat.reduceLeDiff]at z
 cases h;exact yD
theorem Zpj{B A:BYT}{r:Int}(h:ZiY B A=some r):Zp prog J0 31 [(false,[.str B]),(false,[.str A])] [(false,[(false,.int .i64 r)])]:=by
 refine fnk func31 rfl ?_;unfold ZiY at h;simp only[fnS,f31,Zt,go_sem,seval];refine yB h (fun a h=>?_) fun a h=>?_;cases h;exact yD;refine Ze h (fun b h=>?_) (fun b h=>?_);have c:=b;try simp only[a,AH,AI]at c
 cases h;exact yD;have c:=b;try simp only[a,AH,AI]at c
 cases h;exact yD
theorem Zl5{A:Int}{r:ByteArray}(h:Zbq A=some r):Zp prog J0 96 [(false,[.int .i64 A])] [(false,[(false,.str r)])]:=by
 refine fnk func96 rfl ?_;unfold Zbq at h;have f:ZB ⟨#[45,57,50,50,51,51,55,50,48,51,54,56,53,52,55,55,53,56,48,56]⟩=true:=by decide
 have g:ZB ⟨#[]⟩=true:=by decide
 have i:¬((10:Int)=0):=by decide
 simp only[fnS,f96,Zt,go_sem,seval,f,g,i];refine yB h (fun _ h=>?_) fun _ h=>?_;cases h;exact yD;refine yB h (fun _ h=>?_) fun _ h=>?_;cases h;refine Ym h (fun s st=>match s with|(a,b)=>IV [(0,yM (.int .i64 a)),(3,yM (.str b))] [] st) [] [] yF yD ?_;rintro ⟨a,b⟩ ⟨_,_,_⟩ _ d _ h j;simp only[go_sem,seval,Zb]at d;obtain ⟨⟨_,_⟩,B⟩:=d;subst B;obtain ⟨_,h⟩:=Zs h;simp only[*,go_sem,seval];refine yB h (fun _ h=>?_) fun _ h=>?_;replace h:=Zr h j;cases h;exact yD;exact yR h []
theorem ZaM{A:Int}{r:ByteArray}(h:YJ A=some r):Zp prog J0 96 [(false,[.int .i64 A])] [(false,[(false,.str r)])]:=by
 refine fnk func96 rfl ?_;unfold YJ at h;have f:ZB ⟨#[45,57,50,50,51,51,55,50,48,51,54,56,53,52,55,55,53,56,48,56]⟩=true:=by decide
 have g:ZB ⟨#[45]⟩=true:=by decide
 have i:ZB ⟨#[]⟩=true:=by decide
 have j:¬((10:Int)=0):=by decide
 simp only[fnS,f96,Zt,go_sem,seval,f,g,i,j];refine yB h (fun _ h=>?_) fun _ h=>?_;cases h;exact yD;refine yB h (fun _ h=>?_) fun _ h=>?_;refine Zc h fun v1 k h=>Zd (Zl5 k) ?_;obtain ⟨l,h⟩:=Zs h;simp only[go_sem]at l;cases h;exact yD;refine Ym h (fun s st=>match s with|(a,b)=>IV [(0,yM (.int .i64 a)),(3,yM (.str b))] [] st) [] [] yF yD ?_;rintro ⟨a,b⟩ ⟨_,_,_⟩ _ d _ h m;simp only[go_sem,seval,Zb]at d;obtain ⟨⟨_,_⟩,B⟩:=d;subst B;obtain ⟨_,h⟩:=Zs h;simp only[*,go_sem,seval];refine yB h (fun _ h=>?_) fun _ h=>?_;replace h:=Zr h m;cases h;exact yD;exact yR h []
theorem ZcX{A:Zf}{r:List Zu}(h:XG A=some r):Zp prog J0 88 [(true,ZF A)] [(false,[(true,.sl 144 5 (A0 ZT r))])]:=by
 refine fnk func88 rfl ?_;unfold XG at h;simp only[fnS,f88,Zt,go_sem,seval];refine Zk h (fun i a st=>IV [(1,.bp 0 0),(3,.p false [.row 1]),(4,yL i)] [zF 87 (ZF A),.row 144 5 (A0 ZT a) 1] st) [(true,32,1)] [0,32] yF yD ?_ ?_;rintro _ _ a ⟨_,_,_⟩ _ b d f h _;simp only[go_sem,seval,Zb]at d;obtain ⟨⟨_,_,_⟩,g,_,B⟩:=d;subst B;have k:=WF.boxL f g (j:=2) rfl;have:=ZH b;have:=ZI b;have:=Zm (ZG b) k;simp only[*,go_sem,seval];refine yB h (fun _ h=>?_) fun _ h=>?_;obtain ⟨l,h⟩:=Zs h;try simp only[Nat.reduceLeDiff]at l
 simp only[*,go_sem,seval];exact yR h [0,306];exact yR h [0,1];rintro a ⟨_,_,_⟩ e _ h;simp only[go_sem,seval,Zb]at e;obtain ⟨⟨_,_,_⟩,_,_,B⟩:=e;subst B;have:=ZE (A.cond.length);cases h;exact yD
theorem XX{a:List ByteArray}{b:ByteArray}{r:List ByteArray}(h:QF a b=some r):Zp prog J0 196 [(false,[.sl 9 1 (A0 ZC a)]),(false,[.str b])] [(false,[(false,.sl 9 1 (A0 ZC r))])]:=by
 refine fnk func196 rfl ?_;unfold QF at h;simp only[fnS,f196,Zt,go_sem,seval];refine Zk h (fun i s st=>match s with|(d,e)=>IV [(0,yM (yV a)),(1,yM (.str b)),(5,.p false [.row 0]),(6,yM (.bool e)),(7,yL i)] [.row 9 1 (A0 ZC d) 2] st) [] [16] yF yD ?_ ?_;rintro _ _ ⟨d,e⟩ ⟨_,_,_⟩ _ f g l h _;simp only[go_sem,seval,Zb]at g;obtain ⟨⟨m,_,_,_,_⟩,_,A⟩:=g;subst A;have o:=WF.slotL l m (j:=0) rfl;have:=ZH f;have:=ZI f;have:=Zm (ZG f) o;simp only[*,go_sem,seval];refine yB h (fun _ h=>?_) fun _ h=>?_;obtain ⟨q,h⟩:=Zs h;try simp only[Nat.reduceLeDiff]at q
 simp only[*,go_sem,seval];exact yR h [321];refine yB h (fun _ h=>?_) fun _ h=>?_;obtain ⟨t,h⟩:=Zs h;try simp only[Nat.reduceLeDiff]at t
 simp only[*,go_sem,seval];exact yR h [321];refine yB h (fun _ h=>?_) fun _ h=>?_;obtain ⟨u,h⟩:=Zs h;try simp only[Nat.reduceLeDiff]at u
 simp only[*,go_sem,seval];exact yR h [433];obtain ⟨v,h⟩:=Zs h;try simp only[Nat.reduceLeDiff]at v
 obtain ⟨w,h⟩:=Zs h;try simp only[Nat.reduceLeDiff]at w
 simp only[*,go_sem,seval];exact yR h [513];rintro ⟨d,e⟩ ⟨_,_,_⟩ k _ h;simp only[go_sem,seval,Zb]at k;obtain ⟨⟨_,_,_,_,_⟩,_,A⟩:=k;subst A;have:=ZE (a.length);simp only[*,go_sem,seval];refine yB h (fun _ h=>?_) fun _ h=>?_;cases h;exact yD;obtain ⟨x,h⟩:=Zs h;try simp only[Nat.reduceLeDiff]at x
 cases h;exact yD
theorem YN{A:List ByteArray}{B:ByteArray}{r:Bool}(h:Z4 A B=some r):Zp prog J0 169 [(false,[.sl 9 1 (A0 ZC A)]),(false,[.str B])] [(false,[(false,.bool r)])]:=by
 refine fnk func169 rfl ?_;unfold Z4 at h;simp only[fnS,f169,Zt,go_sem,seval];refine Zk h (fun i _ st=>IV [(0,yM (yV A)),(1,yM (.str B)),(5,yL i)] [] st) [] [] yF yD ?_ ?_;rintro _ _ ⟨⟩ ⟨_,_,_⟩ _ a b e h f;simp only[go_sem,seval,Zb]at b;obtain ⟨⟨g,_,_⟩,C⟩:=b;subst C;have k:=WF.slotL e g (j:=0) rfl;have:=ZH a;have:=ZI a;have:=Zm (ZG a) k;simp only[*,go_sem,seval];refine yB h (fun _ h=>?_) fun _ h=>?_;replace h:=Zr h f;cases h;exact yD;exact yR h [];rintro ⟨⟩ ⟨_,_,_⟩ d _ h;simp only[go_sem,seval,Zb]at d;obtain ⟨⟨_,_,_⟩,C⟩:=d;subst C;have:=ZE (A.length);cases h;exact yD
theorem Zjy{B:List Zf}{A:ByteArray}{r:Int}(h:Ze3 B A=some r):Zp prog J0 50 [(false,[.sl 87 4 (A0 ZF B)]),(false,[.str A])] [(false,[(false,.int .i64 r)])]:=by
 refine fnk func50 rfl ?_;unfold Ze3 at h;simp only[fnS,f50,Zt,go_sem,seval];refine Zk h (fun i _ st=>IV [(0,yM (yX B)),(1,yM (.str A)),(5,yL i)] [] st) [] [] yF yD ?_ ?_;rintro _ _ ⟨⟩ ⟨_,_,_⟩ _ a b e h f;simp only[go_sem,seval,Zb]at b;obtain ⟨⟨g,_,_⟩,C⟩:=b;subst C;have k:=WF.slotL e g (j:=0) rfl;have:=ZH a;have:=ZI a;have:=Zm (ZG a) k;simp only[*,go_sem,seval];refine yB h (fun _ h=>?_) fun _ h=>?_;replace h:=Zr h f;cases h;exact yD;exact yR h [];rintro ⟨⟩ ⟨_,_,_⟩ d _ h;simp only[go_sem,seval,Zb]at d;obtain ⟨⟨_,_,_⟩,C⟩:=d;subst C;have:=ZE (B.length);cases h;exact yD
theorem Ztp{a:List Int}{b:Int}{r:List Int}(h:ZiL a b=some r):Zp prog J0 178 [(false,[.sl 3 1 (A0 ZP a)]),(false,[.int .i64 b])] [(false,[(false,.sl 3 1 (A0 ZP r))])]:=by
 refine fnk func178 rfl ?_;unfold ZiL at h;simp only[fnS,f178,Zt,go_sem,seval];refine Zk h (fun i s st=>match s with|(d,e)=>IV [(0,yM (yW a)),(1,yM (.int .i64 b)),(5,.p false [.row 0]),(6,yM (.bool e)),(7,yL i)] [.row 3 1 (A0 ZP d) 2] st) [] [16] yF yD ?_ ?_;rintro _ _ ⟨d,e⟩ ⟨_,_,_⟩ _ f k m h _;simp only[go_sem,seval,Zb]at k;obtain ⟨⟨o,_,_,_,_⟩,_,A⟩:=k;subst A;have q:=WF.slotL m o (j:=0) rfl;have:=ZH f;have:=ZI f;have:=Zm (ZG f) q;simp only[*,go_sem,seval];refine yB h (fun _ h=>?_) fun _ h=>?_;obtain ⟨t,h⟩:=Zs h;try simp only[Nat.reduceLeDiff]at t
 simp only[*,go_sem,seval];exact yR h [321];iterate 2 refine yB h (fun _ h=>?_) fun _ h=>?_
 obtain ⟨u,h⟩:=Zs h;try simp only[Nat.reduceLeDiff]at u
 obtain ⟨v,h⟩:=Zs h;try simp only[Nat.reduceLeDiff]at v
 simp only[*,go_sem,seval];exact yR h [513];obtain ⟨w,h⟩:=Zs h;try simp only[Nat.reduceLeDiff]at w
 simp only[*,go_sem,seval];exact yR h [433];obtain ⟨x,h⟩:=Zs h;try simp only[Nat.reduceLeDiff]at x
 simp only[*,go_sem,seval];exact yR h [321];rintro ⟨d,e⟩ ⟨_,_,_⟩ l _ h;simp only[go_sem,seval,Zb]at l;obtain ⟨⟨_,_,_,_,_⟩,_,A⟩:=l;subst A;have:=ZE (a.length);simp only[*,go_sem,seval];refine yB h (fun _ h=>?_) fun _ h=>?_;cases h;exact yD;obtain ⟨y,h⟩:=Zs h;try simp only[Nat.reduceLeDiff]at y
 cases h;exact yD
theorem Zht{A B:List Int}{r:Bool}(h:Zch A B=some r):Zp prog J0 127 [(false,[.sl 3 1 (A0 ZP A)]),(false,[.sl 3 1 (A0 ZP B)])] [(false,[(false,.bool r)])]:=by
 refine fnk func127 rfl ?_;unfold Zch at h;simp only[fnS,f127,Zt,go_sem,seval];refine yB h (fun _ h=>?_) fun _ h=>?_;cases h;exact yD;refine Zk h (fun i _ st=>IV [(0,yM (yW A)),(1,yM (yW B)),(5,yL i)] [] st) [] [] yF yD ?_ ?_;rintro _ _ ⟨⟩ ⟨_,_,_⟩ _ a b e h f;simp only[go_sem,seval,Zb]at b;obtain ⟨⟨g,_,_⟩,C⟩:=b;subst C;have k:=WF.slotL e g (j:=0) rfl;have:=ZH a;have:=ZI a;have:=Zm (ZG a) k;obtain ⟨_,_,_,l,h⟩:=Zbl h;simp only[AA]at l;simp only[*,go_sem,seval];refine yB h (fun _ h=>?_) fun _ h=>?_;replace h:=Zr h f;cases h;exact yD;exact yR h [];rintro ⟨⟩ ⟨_,_,_⟩ d _ h;simp only[go_sem,seval,Zb]at d;obtain ⟨⟨_,_,_⟩,C⟩:=d;subst C;have:=ZE (A.length);cases h;exact yD
theorem ZmF{A r:List Int}(h:ZhJ A=some r):Zp prog J0 72 [(false,[.sl 3 1 (A0 ZP A)])] [(false,[(false,.sl 3 1 (A0 ZP r))])]:=by
 refine fnk func72 rfl ?_;unfold ZhJ at h;simp only[fnS,f72,Zt,go_sem,seval];obtain ⟨_,h⟩:=Zs h;cases h;exact yD
theorem Zig{C A:List Int}{B:Int}{r:Bool}(h:Qm C A B=some r):Zp prog J0 181 [(false,[.sl 3 1 (A0 ZP C)]),(false,[.sl 3 1 (A0 ZP A)]),(false,[.int .i64 B])] [(false,[(false,.bool r)])]:=by
 refine fnk func181 rfl ?_;unfold Qm at h;simp only[fnS,f181,Zt,go_sem,seval];refine Zk h (fun i _ st=>IV [(0,yM (yW C)),(1,yM (yW A)),(2,yM (.int .i64 B)),(7,yL i)] [] st) [] [] yF yD ?_ ?_;rintro _ _ ⟨⟩ ⟨_,_,_⟩ _ a b f h d;simp only[go_sem,seval,Zb]at b;obtain ⟨⟨g,_,_,_⟩,D⟩:=b;subst D;have k:=WF.slotL f g (j:=0) rfl;have:=ZH a;have:=ZI a;have:=Zm (ZG a) k;obtain ⟨_,_,_,_,h⟩:=Zbl h;simp only[*,go_sem,seval];refine yB h (fun _ h=>?_) fun _ h=>?_;replace h:=Zr h d;cases h;exact yD;refine yB h (fun _ h=>?_) fun _ h=>?_;replace h:=Zr h d;cases h;exact yD;exact yR h [];rintro ⟨⟩ ⟨_,_,_⟩ e _ h;simp only[go_sem,seval,Zb]at e;obtain ⟨⟨_,_,_,_⟩,D⟩:=e;subst D;have:=ZE (C.length);cases h;exact yD
theorem ZkY{B A:List Int}{r:Bool}(h:Zbf B A=some r):Zp prog J0 182 [(false,[.sl 3 1 (A0 ZP B)]),(false,[.sl 3 1 (A0 ZP A)])] [(false,[(false,.bool r)])]:=by
 refine fnk func182 rfl ?_;unfold Zbf at h;simp only[fnS,f182,Zt,go_sem,seval];refine Zk h (fun i _ st=>IV [(0,yM (yW B)),(1,yM (yW A)),(5,yL i)] [] st) [] [] yF yD ?_ ?_;rintro _ _ ⟨⟩ ⟨_,_,_⟩ _ a b e h f;simp only[go_sem,seval,Zb]at b;obtain ⟨⟨g,_,_⟩,C⟩:=b;subst C;have k:=WF.slotL e g (j:=0) rfl;have:=ZH a;have:=ZI a;have:=Zm (ZG a) k;obtain ⟨_,_,_,_,h⟩:=Zbl h;simp only[*,go_sem,seval];refine yB h (fun _ h=>?_) fun _ h=>?_;replace h:=Zr h f;cases h;exact yD;exact yR h [];rintro ⟨⟩ ⟨_,_,_⟩ d _ h;simp only[go_sem,seval,Zb]at d;obtain ⟨⟨_,_,_⟩,C⟩:=d;subst C;have:=ZE (B.length);cases h;exact yD
theorem Zfv{A:Zi}{r:(Int×Zi)}(h:ZdL A=some r):Ys prog J0 JF0 67 (.box 77 (ZS A)) [] [(false,[(false,.int .i64 r.1)])] (.box 77 (ZS r.2)):=by
 refine fnh func67 rfl ?_;unfold ZdL at h;have a:¬((35:Int)<0):=by decide
 have b:¬((45:Int)<0):=by decide
 simp only[fnH,f67,YF,YE,Yh,go_sem,seval,a,b];refine yB h (fun _ h=>?_) fun _ h=>?_;obtain ⟨_,_,_,_,h⟩:=Zbl h;iterate 2 (cases h;exact yD)
theorem Zaa{a b:ByteArray}{r:List ByteArray}(h:Qd a b=some r):Zp prog J0 226 [(false,[.str a]),(false,[.str b])] [(false,[(false,.sl 9 1 (A0 ZC r))])]:=by
 refine fnk func226 rfl ?_;unfold Qd at h;have i:ZB ⟨#[]⟩=true:=by decide
 simp only[fnS,f226,Zt,go_sem,seval,i];refine yB h (fun _ h=>?_) fun _ h=>?_;cases h;exact yD;refine Ym h (fun s st=>match s with|(d,e,f)=>IV [(0,yM (.str a)),(1,yM (.str b)),(5,.p false [.row 0]),(6,yM (.int .i64 e)),(7,yM (.int .i64 f))] [.row 9 1 (A0 ZC d) 2] st) [] [16] yF yD ?_;rintro ⟨d,e,f⟩ ⟨_,_,_⟩ _ g _ h k;simp only[go_sem,seval,Zb]at g;obtain ⟨⟨_,_,_,_,_⟩,_,A⟩:=g;subst A;simp only[*,go_sem,seval];refine yB h (fun _ h=>?_) fun _ h=>?_;obtain ⟨_,h⟩:=Zs h;simp only[*,go_sem,seval];refine yB h (fun _ h=>?_) fun _ h=>?_;obtain ⟨_,h⟩:=Zs h;obtain ⟨l,h⟩:=Zs h;try simp only[Nat.reduceLeDiff]at l
 simp only[*,go_sem,seval];exact yR h [353];exact yR h [0];obtain ⟨_,h⟩:=Zs h;obtain ⟨m,h⟩:=Zs h;try simp only[Nat.reduceLeDiff]at m
 replace h:=Zr h k;cases h;exact yD
theorem Zt7{A:Int}{r:BYT}(h:Zge A=some r):Zp prog J0 265 [(false,[.int .i64 A])] [(false,[(false,.str r)])]:=by
 refine fnk func265 rfl ?_;unfold Zge at h;have a:ZB ⟨#[32,33,61,32]⟩=true:=by decide
 have b:ZB ⟨#[32,60,32]⟩=true:=by decide
 have c:ZB ⟨#[32,61,32]⟩=true:=by decide
 have d:ZB ⟨#[]⟩=true:=by decide
 simp only[fnS,f265,Zt,go_sem,seval,a,b,c,d];iterate 2 ((refine Ze h (fun _ h=>?_) fun _ h=>?_<;>try simp only[*,go_sem,seval]);cases h;simp only[*,go_sem,seval])
 cases h;exact yD
theorem Zv0{A:List Int}{B:Int}{r:Bool}(h:Zd4 A B=some r):Zp prog J0 148 [(false,[.sl 3 1 (A0 ZP A)]),(false,[.int .i64 B])] [(false,[(false,.bool r)])]:=by
 refine fnk func148 rfl ?_;unfold Zd4 at h;simp only[fnS,f148,Zt,go_sem,seval];refine Zk h (fun i _ st=>IV [(0,yM (yW A)),(1,yM (.int .i64 B)),(5,yL i)] [] st) [] [] yF yD ?_ ?_;rintro _ _ ⟨⟩ ⟨_,_,_⟩ _ a b e h f;simp only[go_sem,seval,Zb]at b;obtain ⟨⟨g,_,_⟩,C⟩:=b;subst C;have k:=WF.slotL e g (j:=0) rfl;have:=ZH a;have:=ZI a;have:=Zm (ZG a) k;simp only[*,go_sem,seval];refine yB h (fun _ h=>?_) fun _ h=>?_;replace h:=Zr h f;cases h;exact yD;exact yR h [];rintro ⟨⟩ ⟨_,_,_⟩ d _ h;simp only[go_sem,seval,Zb]at d;obtain ⟨⟨_,_,_⟩,C⟩:=d;subst C;have:=ZE (A.length);cases h;exact yD
theorem Zwe{A:List Int}{r:Zi}(h:Zln A=some r):ZoH prog J0 20 [(false,[.sl 5 1 (A0 ZbA A)])] (.box 77 (ZS r)):=by
 refine fnb func20 rfl ?_;unfold Zln at h;simp only[fnB,f20,Zt,go_sem,seval];refine Zk h (fun i a st=>IV [(0,yM (zD A)),(3,yM (.int .i64 a)),(4,yL i)] [] st) [] [] yF yD ?_ ?_;rintro _ _ a ⟨_,_,_⟩ _ b d f h g;simp only[go_sem,seval,Zb]at d;obtain ⟨⟨k,_,_⟩,B⟩:=d;subst B;have l:=WF.slotL f k (j:=0) rfl;have:=ZH b;have:=ZI b;have:=Zm (ZG b) l;simp only[*,go_sem,seval];refine yB h (fun _ h=>?_) fun _ h=>?_;exact yR h [];replace h:=Zr h g;cases h;exact yD;rintro a ⟨_,_,_⟩ e _ h;simp only[go_sem,seval,Zb]at e;obtain ⟨⟨_,_,_⟩,B⟩:=e;subst B;have:=ZE (A.length);cases h;exact yD
theorem ZoN{A B:List ByteArray}{r:Bool}(h:ZdH A B=some r):Zp prog J0 80 [(false,[.sl 9 1 (A0 ZC A)]),(false,[.sl 9 1 (A0 ZC B)])] [(false,[(false,.bool r)])]:=by
 refine fnk func80 rfl ?_;unfold ZdH at h;simp only[fnS,f80,Zt,go_sem,seval];refine yB h (fun _ h=>?_) fun _ h=>?_;cases h;exact yD;refine Zk h (fun i _ st=>IV [(0,yM (yV A)),(1,yM (yV B)),(12,yL A.length),(13,yL i)] [] st) [] [] yF yD ?_ ?_;rintro _ _ ⟨⟩ ⟨_,_,_⟩ _ a b e h f;simp only[go_sem,seval,Zb]at b;obtain ⟨⟨g,_,_,_⟩,C⟩:=b;subst C;have k:=WF.slotL e g (j:=0) rfl;have:=ZH a;have:=ZI a;have:=Zm (ZG a) k;obtain ⟨_,_,_,l,h⟩:=Zbl h;simp only[AA]at l;simp only[*,go_sem,seval];refine yB h (fun _ h=>?_) fun _ h=>?_;exact yR h [];replace h:=Zr h f;cases h;exact yD;rintro ⟨⟩ ⟨_,_,_⟩ d _ h;simp only[go_sem,seval,Zb]at d;obtain ⟨⟨_,_,_,_⟩,C⟩:=d;subst C;have:=ZE (A.length);cases h;exact yD
theorem QU{A:ByteArray}{r:Bool}(h:Zak A=some r):Zp prog J0 62 [(false,[.str A])] [(false,[(false,.bool r)])]:=by
 refine fnk func62 rfl ?_;unfold Zak at h;simp only[fnS,f62,Zt,go_sem,seval];iterate 2 ((refine Ze h (fun _ h=>?_) fun _ h=>?_<;>try simp only[*,go_sem,seval]);cases h;simp only[*,go_sem,seval])
 refine Zk h (fun i _ st=>IV [(0,yM (.str A)),(3,yL i)] [] st) [] [] yF yD ?_ ?_;rintro _ _ ⟨⟩ ⟨_,_,_⟩ _ b d f h a;simp only[go_sem,seval,Zb]at d;obtain ⟨⟨g,_⟩,B⟩:=d;subst B;have k:=WF.slotS f g (j:=0) rfl;have:=ZrS b;have:=ZAg b;have:=Zm (Zxh b) k;simp only[*,go_sem,seval];iterate 2 refine yB h (fun _ h=>?_) fun _ h=>?_
 replace h:=Zr h a;cases h;exact yD;refine yB h (fun _ h=>?_) fun _ h=>?_;replace h:=Zr h a;cases h;exact yD;exact yR h [];iterate 2 refine yB h (fun _ h=>?_) fun _ h=>?_
 replace h:=Zr h a;cases h;exact yD;refine yB h (fun _ h=>?_) fun _ h=>?_;replace h:=Zr h a;cases h;exact yD;exact yR h [];exact yR h [];rintro ⟨⟩ ⟨_,_,_⟩ e _ h;simp only[go_sem,seval,Zb]at e;obtain ⟨⟨_,_⟩,B⟩:=e;subst B;have:=ZE (A.size);cases h;exact yD
theorem Zii{A r:List BYT}(h:Zb1 A=some r):Zp prog J0 59 [(false,[.sl 9 1 (A0 ZC A)])] [(false,[(false,.sl 9 1 (A0 ZC r))])]:=by
 refine fnk func59 rfl ?_;unfold Zb1 at h;simp only[fnS,f59,Zt,go_sem,seval];obtain ⟨_,h⟩:=Zs h;cases h;exact yD
theorem Zc9{B A r:Int}(h:Qy B A=some r):Zp prog J0 95 [(false,[.int .i64 B]),(false,[.int .i64 A])] [(false,[(false,.int .i64 r)])]:=by
 refine fnk func95 rfl ?_;unfold Qy at h;simp only[fnS,f95,Zt,go_sem,seval];iterate 2 ((refine Ze h (fun _ h=>?_) fun _ h=>?_<;>try simp only[*,go_sem,seval]);cases h;simp only[*,go_sem,seval])
 cases h;exact yD
end
end Go.Proofs.YtnacpkmpdlodoaaGreatDoor
namespace Go.Proofs
open Go.Shelf
def lays156_ren:Go.Shelf.Ren:=⟨fun|156=>97|165=>133|166=>134|169=>135|240=>185|241=>186|276=>219|277=>220|n=>n,fun|31=>33|9=>9|3=>3|4=>4|0=>0|20=>20|72=>156|76=>160|70=>154|37=>22|75=>159|127=>191|164=>211|5=>5|80=>162|n=>n,fun|n=>n⟩
theorem lays156:Go.Proofs.Lays.n156 prog lays156_ren:={
 mixed:=by kernel_rfl
 f156:=func97.trans (congrArg some (by kernel_rfl))
 f165:=func133.trans (congrArg some (by kernel_rfl))
 f166:=func134.trans (congrArg some (by kernel_rfl))
 f169:=func135.trans (congrArg some (by kernel_rfl))
 f240:=func185.trans (congrArg some (by kernel_rfl))
 f241:=func186.trans (congrArg some (by kernel_rfl))
 f276:=func219.trans (congrArg some (by kernel_rfl))
 f277:=func220.trans (congrArg some (by kernel_rfl))
 t0:=underlying0
 a0:=isAgg0
 z0:=sizeOf0
 v0:=zeroValue0
 t3:=underlying3
 a3:=isAgg3
 z3:=sizeOf3
 v3:=zeroValue3
 t4:=underlying4
 a4:=isAgg4
 z4:=sizeOf4
 v4:=zeroValue4
 t9:=underlying9
 a9:=isAgg9
 z9:=sizeOf9
 v9:=zeroValue9
 t20:=underlying20
 a20:=isAgg20
 z20:=sizeOf20
 v20:=zeroValue20
 t31:=underlying33
 a31:=isAgg33
 z31:=sizeOf33
 v31:=zeroValue33
 t37:=underlying22
 a37:=isAgg22
 z37:=sizeOf22
 v37:=zeroValue22
 t70:=underlying154
 a70:=isAgg154
 z70:=sizeOf154
 v70:=zeroValue154
 t72:=underlying156
 a72:=isAgg156
 z72:=sizeOf156
 v72:=zeroValue156
 t75:=underlying159
 a75:=isAgg159
 z75:=sizeOf159
 v75:=zeroValue159
 t76:=underlying160
 a76:=isAgg160
 z76:=sizeOf160
 v76:=zeroValue160
 t127:=underlying191
 a127:=isAgg191
 z127:=sizeOf191
 v127:=zeroValue191
 t164:=underlying211
 a164:=isAgg211
 z164:=sizeOf211
 v164:=zeroValue211 }
theorem Tryz.Builder_Extra_156:Builder.Extra prog lays156_ren:={
 sizeBuilder:=by kernel_rfl
 liesBuilder:=by kernel_rfl
 t5:=underlying5
 a5:=isAgg5
 z5:=sizeOf5
 v5:=zeroValue5
 infoByte:=by kernel_rfl
 cellsByte:=by kernel_rfl
 sizeByte:=by kernel_rfl
 neB5:=by decide }
open Go.RowKit in
theorem strings_Join_none(a:Option Addr)(c:Nat)(sep:ByteArray)(w:World):
  Calls prog 97 #[.slice a 0 c,.string sep] w fun e w'=>e=.returned (.string ⟨#[]⟩)/\w'=w:=Any.strings_Join_none lays156 Tryz.Builder_Extra_156 a c sep w
open Go.RowKit in
theorem strings_Join(A o c:Nat)(xs:List ByteArray)(sep:ByteArray)(w:World)(a:∀(j:Nat) x,xs[j]?=some x->w.cell? ⟨A,o+j,none⟩=some (.string x))(f:A<w.heap.size)(B:xs.length<=140737488355328)(b:xs.length<=c)(d:(Lib.join (xs.map (·.data.toList)) sep.data.toList).length<=140737488355328):
  Calls prog 97 #[.slice (some ⟨A,o,none⟩) xs.length c,.string sep] w fun e w'=>e=.returned (.string ⟨(Lib.join (xs.map (·.data.toList)) sep.data.toList).toArray⟩)/\Below w.heap.size w w':=Any.strings_Join lays156 Tryz.Builder_Extra_156 A o c xs sep w a f B b d
def lays106_ren:Go.Shelf.Ren:=⟨fun|106=>93|213=>131|265=>183|n=>n,fun|9=>9|3=>3|n=>n,fun|n=>n⟩
theorem lays106:Go.Proofs.Lays.n106 prog lays106_ren:={
 mixed:=by kernel_rfl
 f106:=func93.trans (congrArg some (by kernel_rfl))
 f213:=func131.trans (congrArg some (by kernel_rfl))
 f265:=func183.trans (congrArg some (by kernel_rfl))
 t3:=underlying3
 a3:=isAgg3
 z3:=sizeOf3
 v3:=zeroValue3
 t9:=underlying9
 a9:=isAgg9
 z9:=sizeOf9
 v9:=zeroValue9 }
open Go.RowKit in
theorem strings_Compare(a b:ByteArray)(w:World):
  Calls prog 93 #[.string a,.string b] w fun e w'=>e=.returned (.int .i64 (Lib.compareBytes a.data.toList b.data.toList))/\w'=w:=Any.strings_Compare lays106 a b w
def lays172_ren:Go.Shelf.Ren:=⟨fun|172=>184|244=>217|245=>218|247=>240|279=>241|280=>242|281=>243|282=>244|287=>262|316=>263|171=>64|205=>264|321=>282|322=>283|243=>98|246=>136|283=>187|284=>188|285=>189|286=>190|129=>222|317=>221|318=>223|319=>224|320=>225|337=>245|338=>246|n=>n,fun|9=>9|3=>3|75=>159|76=>160|4=>4|5=>5|167=>225|37=>22|0=>0|85=>226|2=>2|168=>228|53=>193|175=>246|46=>137|210=>250|127=>191|145=>271|143=>269|21=>21|171=>192|173=>196|212=>216|51=>217|20=>20|213=>218|232=>252|233=>253|80=>162|n=>n,fun|15=>2|16=>3|17=>1|18=>4|19=>5|n=>n⟩
theorem lays172:Go.Proofs.Lays.n172 prog lays172_ren:={
 mixed:=by kernel_rfl
 f129:=func222.trans (congrArg some (by kernel_rfl))
 f171:=func64.trans (congrArg some (by kernel_rfl))
 f172:=func184.trans (congrArg some (by kernel_rfl))
 f205:=func264.trans (congrArg some (by kernel_rfl))
 f243:=func98.trans (congrArg some (by kernel_rfl))
 f244:=func217.trans (congrArg some (by kernel_rfl))
 f245:=func218.trans (congrArg some (by kernel_rfl))
 f246:=func136.trans (congrArg some (by kernel_rfl))
 f247:=func240.trans (congrArg some (by kernel_rfl))
 f279:=func241.trans (congrArg some (by kernel_rfl))
 f280:=func242.trans (congrArg some (by kernel_rfl))
 f281:=func243.trans (congrArg some (by kernel_rfl))
 f282:=func244.trans (congrArg some (by kernel_rfl))
 f283:=func187.trans (congrArg some (by kernel_rfl))
 f284:=func188.trans (congrArg some (by kernel_rfl))
 f285:=func189.trans (congrArg some (by kernel_rfl))
 f286:=func190.trans (congrArg some (by kernel_rfl))
 f287:=func262.trans (congrArg some (by kernel_rfl))
 f316:=func263.trans (congrArg some (by kernel_rfl))
 f317:=func221.trans (congrArg some (by kernel_rfl))
 f318:=func223.trans (congrArg some (by kernel_rfl))
 f319:=func224.trans (congrArg some (by kernel_rfl))
 f320:=func225.trans (congrArg some (by kernel_rfl))
 f321:=func282.trans (congrArg some (by kernel_rfl))
 f322:=func283.trans (congrArg some (by kernel_rfl))
 f337:=func245.trans (congrArg some (by kernel_rfl))
 f338:=func246.trans (congrArg some (by kernel_rfl))
 t0:=underlying0
 a0:=isAgg0
 z0:=sizeOf0
 v0:=zeroValue0
 t2:=underlying2
 a2:=isAgg2
 z2:=sizeOf2
 v2:=zeroValue2
 t3:=underlying3
 a3:=isAgg3
 z3:=sizeOf3
 v3:=zeroValue3
 t4:=underlying4
 a4:=isAgg4
 z4:=sizeOf4
 v4:=zeroValue4
 t5:=underlying5
 a5:=isAgg5
 z5:=sizeOf5
 v5:=zeroValue5
 t9:=underlying9
 a9:=isAgg9
 z9:=sizeOf9
 v9:=zeroValue9
 t20:=underlying20
 a20:=isAgg20
 z20:=sizeOf20
 v20:=zeroValue20
 t21:=underlying21
 a21:=isAgg21
 z21:=sizeOf21
 v21:=zeroValue21
 t37:=underlying22
 a37:=isAgg22
 z37:=sizeOf22
 v37:=zeroValue22
 t46:=underlying137
 a46:=isAgg137
 z46:=sizeOf137
 v46:=zeroValue137
 t51:=underlying217
 a51:=isAgg217
 z51:=sizeOf217
 v51:=zeroValue217
 t53:=underlying193
 a53:=isAgg193
 z53:=sizeOf193
 v53:=zeroValue193
 t75:=underlying159
 a75:=isAgg159
 z75:=sizeOf159
 v75:=zeroValue159
 t76:=underlying160
 a76:=isAgg160
 z76:=sizeOf160
 v76:=zeroValue160
 t85:=underlying226
 a85:=isAgg226
 z85:=sizeOf226
 v85:=zeroValue226
 t127:=underlying191
 a127:=isAgg191
 z127:=sizeOf191
 v127:=zeroValue191
 t143:=underlying269
 a143:=isAgg269
 z143:=sizeOf269
 v143:=zeroValue269
 t145:=underlying271
 a145:=isAgg271
 z145:=sizeOf271
 v145:=zeroValue271
 t167:=underlying225
 a167:=isAgg225
 z167:=sizeOf225
 v167:=zeroValue225
 t168:=underlying228
 a168:=isAgg228
 z168:=sizeOf228
 v168:=zeroValue228
 t171:=underlying192
 a171:=isAgg192
 z171:=sizeOf192
 v171:=zeroValue192
 t173:=underlying196
 a173:=isAgg196
 z173:=sizeOf196
 v173:=zeroValue196
 t175:=underlying246
 a175:=isAgg246
 z175:=sizeOf246
 v175:=zeroValue246
 t210:=underlying250
 a210:=isAgg250
 z210:=sizeOf250
 v210:=zeroValue250
 t212:=underlying216
 a212:=isAgg216
 z212:=sizeOf216
 v212:=zeroValue216
 t213:=underlying218
 a213:=isAgg218
 z213:=sizeOf218
 t232:=underlying252
 a232:=isAgg252
 z232:=sizeOf252
 v232:=zeroValue252
 t233:=underlying253
 a233:=isAgg253
 z233:=sizeOf253
 v233:=zeroValue253
 g15:=by kernel_rfl
 g16:=by kernel_rfl
 g17:=by kernel_rfl
 g18:=by kernel_rfl
 g19:=by kernel_rfl }
open Go.RowKit in
theorem strconv_Atoi(s:ByteArray)(n:Int)(A:s.size<=18)(h:Lib.atoi s.data.toList=some n)(w:World):
  Calls prog 184 #[.string s] w fun e w'=>e=.returned (.tuple #[.int .i64 n,.nilIface])/\∃t,w'=Lib.bytesWorld w 5 t:=Any.strconv_Atoi lays172 s n A h w
def laysM171_ren:Go.Shelf.Ren:=⟨fun|171=>64|243=>98|246=>136|283=>187|284=>188|285=>189|286=>190|129=>222|317=>221|318=>223|319=>224|320=>225|337=>245|338=>246|n=>n,fun|3=>3|9=>9|2=>2|4=>4|171=>192|0=>0|53=>193|37=>22|5=>5|173=>196|212=>216|51=>217|20=>20|213=>218|46=>137|232=>252|233=>253|n=>n,fun|17=>1|18=>4|19=>5|n=>n⟩
theorem laysM171:Go.Proofs.LaysM.n171 prog laysM171_ren:={
 mixed:=by kernel_rfl
 f129:=func222.trans (congrArg some (by kernel_rfl))
 f171:=func64.trans (congrArg some (by kernel_rfl))
 f243:=func98.trans (congrArg some (by kernel_rfl))
 f246:=func136.trans (congrArg some (by kernel_rfl))
 f283:=func187.trans (congrArg some (by kernel_rfl))
 f284:=func188.trans (congrArg some (by kernel_rfl))
 f285:=func189.trans (congrArg some (by kernel_rfl))
 f286:=func190.trans (congrArg some (by kernel_rfl))
 f317:=func221.trans (congrArg some (by kernel_rfl))
 f318:=func223.trans (congrArg some (by kernel_rfl))
 f319:=func224.trans (congrArg some (by kernel_rfl))
 f320:=func225.trans (congrArg some (by kernel_rfl))
 f337:=func245.trans (congrArg some (by kernel_rfl))
 f338:=func246.trans (congrArg some (by kernel_rfl))
 t0:=underlying0
 a0:=isAgg0
 z0:=sizeOf0
 v0:=zeroValue0
 t2:=underlying2
 a2:=isAgg2
 z2:=sizeOf2
 v2:=zeroValue2
 t3:=underlying3
 a3:=isAgg3
 z3:=sizeOf3
 v3:=zeroValue3
 t4:=underlying4
 a4:=isAgg4
 z4:=sizeOf4
 v4:=zeroValue4
 t5:=underlying5
 a5:=isAgg5
 z5:=sizeOf5
 v5:=zeroValue5
 t9:=underlying9
 a9:=isAgg9
 z9:=sizeOf9
 v9:=zeroValue9
 t20:=underlying20
 a20:=isAgg20
 z20:=sizeOf20
 v20:=zeroValue20
 t37:=underlying22
 a37:=isAgg22
 z37:=sizeOf22
 v37:=zeroValue22
 t46:=underlying137
 a46:=isAgg137
 z46:=sizeOf137
 v46:=zeroValue137
 t51:=underlying217
 a51:=isAgg217
 z51:=sizeOf217
 v51:=zeroValue217
 t53:=underlying193
 a53:=isAgg193
 z53:=sizeOf193
 v53:=zeroValue193
 t171:=underlying192
 a171:=isAgg192
 z171:=sizeOf192
 v171:=zeroValue192
 t173:=underlying196
 a173:=isAgg196
 z173:=sizeOf196
 v173:=zeroValue196
 t212:=underlying216
 a212:=isAgg216
 z212:=sizeOf216
 v212:=zeroValue216
 t213:=underlying218
 a213:=isAgg218
 z213:=sizeOf218
 t232:=underlying252
 a232:=isAgg252
 z232:=sizeOf252
 v232:=zeroValue252
 t233:=underlying253
 a233:=isAgg253
 z233:=sizeOf253
 v233:=zeroValue253
 g17:=by kernel_rfl
 g18:=by kernel_rfl
 g19:=by kernel_rfl
 i0:=by kernel_rfl
 i2:=by kernel_rfl
 i3:=by kernel_rfl
 i4:=by kernel_rfl
 i5:=by kernel_rfl
 i9:=by kernel_rfl
 i20:=by kernel_rfl
 i37:=by kernel_rfl
 i46:=by kernel_rfl
 i51:=by kernel_rfl
 i53:=by kernel_rfl
 i171:=by kernel_rfl
 i173:=by kernel_rfl
 i212:=by kernel_rfl
 i232:=by kernel_rfl
 i233:=by kernel_rfl
 m17:=by kernel_rfl
 m18:=by kernel_rfl
 m19:=by kernel_rfl }
open Go.RowKit Go.Sort Go.Lib in
theorem strconv_Itoa (n : Int) (h0 : -9223372036854775808 ≤ n) (h1 : n ≤ 9223372036854775807) (w : World) (htab : Lib.TabIs prog w "internal/strconv.uint64pow10" .u64 Lib.pow10Tab) :
  Calls prog 64 #[.int .i64 n] w fun e w'=>e=.returned (.string ⟨(Lib.itoa n).toArray⟩)/\∃k os,w'=grow (w.drewN k) os:=Any.strconv_Itoa laysM171 n h0 h1 w htab
def laysC172_ren:Go.Shelf.Ren:=⟨fun|172=>184|244=>217|245=>218|247=>240|279=>241|280=>242|281=>243|282=>244|287=>262|316=>263|171=>64|205=>264|321=>282|322=>283|243=>98|246=>136|283=>187|284=>188|285=>189|286=>190|129=>222|317=>221|318=>223|319=>224|320=>225|337=>245|338=>246|n=>n,fun|9=>9|3=>3|75=>159|76=>160|4=>4|5=>5|167=>225|37=>22|0=>0|85=>226|2=>2|168=>228|53=>193|175=>246|46=>137|210=>250|127=>191|145=>271|143=>269|21=>21|171=>192|173=>196|212=>216|51=>217|20=>20|213=>218|232=>252|233=>253|80=>162|n=>n,fun|15=>2|16=>3|17=>1|18=>4|19=>5|n=>n⟩
theorem laysC172:Go.Proofs.LaysC.n172 prog laysC172_ren:={
 mixed:=by kernel_rfl
 f129:=func222.trans (congrArg some (by kernel_rfl))
 f171:=func64.trans (congrArg some (by kernel_rfl))
 f172:=func184.trans (congrArg some (by kernel_rfl))
 f205:=func264.trans (congrArg some (by kernel_rfl))
 f243:=func98.trans (congrArg some (by kernel_rfl))
 f244:=func217.trans (congrArg some (by kernel_rfl))
 f245:=func218.trans (congrArg some (by kernel_rfl))
 f246:=func136.trans (congrArg some (by kernel_rfl))
 f247:=func240.trans (congrArg some (by kernel_rfl))
 f279:=func241.trans (congrArg some (by kernel_rfl))
 f280:=func242.trans (congrArg some (by kernel_rfl))
 f281:=func243.trans (congrArg some (by kernel_rfl))
 f282:=func244.trans (congrArg some (by kernel_rfl))
 f283:=func187.trans (congrArg some (by kernel_rfl))
 f284:=func188.trans (congrArg some (by kernel_rfl))
 f285:=func189.trans (congrArg some (by kernel_rfl))
 f286:=func190.trans (congrArg some (by kernel_rfl))
 f287:=func262.trans (congrArg some (by kernel_rfl))
 f316:=func263.trans (congrArg some (by kernel_rfl))
 f317:=func221.trans (congrArg some (by kernel_rfl))
 f318:=func223.trans (congrArg some (by kernel_rfl))
 f319:=func224.trans (congrArg some (by kernel_rfl))
 f320:=func225.trans (congrArg some (by kernel_rfl))
 f321:=func282.trans (congrArg some (by kernel_rfl))
 f322:=func283.trans (congrArg some (by kernel_rfl))
 f337:=func245.trans (congrArg some (by kernel_rfl))
 f338:=func246.trans (congrArg some (by kernel_rfl))
 t0:=underlying0
 a0:=isAgg0
 z0:=sizeOf0
 v0:=zeroValue0
 t2:=underlying2
 a2:=isAgg2
 z2:=sizeOf2
 v2:=zeroValue2
 t3:=underlying3
 a3:=isAgg3
 z3:=sizeOf3
 v3:=zeroValue3
 t4:=underlying4
 a4:=isAgg4
 z4:=sizeOf4
 v4:=zeroValue4
 t5:=underlying5
 a5:=isAgg5
 z5:=sizeOf5
 v5:=zeroValue5
 t9:=underlying9
 a9:=isAgg9
 z9:=sizeOf9
 v9:=zeroValue9
 t20:=underlying20
 a20:=isAgg20
 z20:=sizeOf20
 v20:=zeroValue20
 t21:=underlying21
 a21:=isAgg21
 z21:=sizeOf21
 v21:=zeroValue21
 t37:=underlying22
 a37:=isAgg22
 z37:=sizeOf22
 v37:=zeroValue22
 t46:=underlying137
 a46:=isAgg137
 z46:=sizeOf137
 v46:=zeroValue137
 t51:=underlying217
 a51:=isAgg217
 z51:=sizeOf217
 v51:=zeroValue217
 t53:=underlying193
 a53:=isAgg193
 z53:=sizeOf193
 v53:=zeroValue193
 t75:=underlying159
 a75:=isAgg159
 z75:=sizeOf159
 v75:=zeroValue159
 t76:=underlying160
 a76:=isAgg160
 z76:=sizeOf160
 v76:=zeroValue160
 t85:=underlying226
 a85:=isAgg226
 z85:=sizeOf226
 v85:=zeroValue226
 t127:=underlying191
 a127:=isAgg191
 z127:=sizeOf191
 v127:=zeroValue191
 t143:=underlying269
 a143:=isAgg269
 z143:=sizeOf269
 v143:=zeroValue269
 t145:=underlying271
 a145:=isAgg271
 z145:=sizeOf271
 v145:=zeroValue271
 t167:=underlying225
 a167:=isAgg225
 z167:=sizeOf225
 v167:=zeroValue225
 t168:=underlying228
 a168:=isAgg228
 z168:=sizeOf228
 v168:=zeroValue228
 t171:=underlying192
 a171:=isAgg192
 z171:=sizeOf192
 v171:=zeroValue192
 t173:=underlying196
 a173:=isAgg196
 z173:=sizeOf196
 v173:=zeroValue196
 t175:=underlying246
 a175:=isAgg246
 z175:=sizeOf246
 v175:=zeroValue246
 t210:=underlying250
 a210:=isAgg250
 z210:=sizeOf250
 v210:=zeroValue250
 t212:=underlying216
 a212:=isAgg216
 z212:=sizeOf216
 v212:=zeroValue216
 t213:=underlying218
 a213:=isAgg218
 z213:=sizeOf218
 t232:=underlying252
 a232:=isAgg252
 z232:=sizeOf252
 v232:=zeroValue252
 t233:=underlying253
 a233:=isAgg253
 z233:=sizeOf253
 v233:=zeroValue253
 g15:=by kernel_rfl
 g16:=by kernel_rfl
 g17:=by kernel_rfl
 g18:=by kernel_rfl
 g19:=by kernel_rfl
 t80:=underlying162
 a80:=isAgg162
 z80:=sizeOf162
 v80:=zeroValue162
 i0:=by kernel_rfl
 i2:=by kernel_rfl
 i3:=by kernel_rfl
 i4:=by kernel_rfl
 i5:=by kernel_rfl
 i9:=by kernel_rfl
 i20:=by kernel_rfl
 i21:=by kernel_rfl
 i37:=by kernel_rfl
 i46:=by kernel_rfl
 i51:=by kernel_rfl
 i53:=by kernel_rfl
 i75:=by kernel_rfl
 i76:=by kernel_rfl
 i80:=by kernel_rfl
 i85:=by kernel_rfl
 i127:=by kernel_rfl
 i143:=by kernel_rfl
 i145:=by kernel_rfl
 i167:=by kernel_rfl
 i168:=by kernel_rfl
 i171:=by kernel_rfl
 i173:=by kernel_rfl
 i175:=by kernel_rfl
 i210:=by kernel_rfl
 i212:=by kernel_rfl
 i232:=by kernel_rfl
 i233:=by kernel_rfl
 m15:=by kernel_rfl
 m16:=by kernel_rfl
 m17:=by kernel_rfl
 m18:=by kernel_rfl
 m19:=by kernel_rfl
 c0:=by kernel_rfl
 c2:=by kernel_rfl
 c3:=by kernel_rfl
 c4:=by kernel_rfl
 c5:=by kernel_rfl
 c9:=by kernel_rfl
 c20:=by kernel_rfl
 c21:=by kernel_rfl
 c37:=by kernel_rfl
 c46:=by kernel_rfl
 c51:=by kernel_rfl
 c53:=by kernel_rfl
 c75:=by kernel_rfl
 c76:=by kernel_rfl
 c80:=by kernel_rfl
 c85:=by kernel_rfl
 c127:=by kernel_rfl
 c143:=by kernel_rfl
 c145:=by kernel_rfl
 c167:=by kernel_rfl
 c168:=by kernel_rfl
 c171:=by kernel_rfl
 c173:=by kernel_rfl
 c175:=by kernel_rfl
 c210:=by kernel_rfl
 c212:=by kernel_rfl
 c213:=by kernel_rfl
 c232:=by kernel_rfl
 c233:=by kernel_rfl }
open Go.RowKit in
theorem strconv_Atoi_err_var (s : ByteArray) (hl : s.size ≤ 18) (h : Lib.atoi s.data.toList = none) (tp : TypeId) (p : Value) (w : World) (hvar : w.var? prog "strconv.ErrSyntax" = some #[.iface tp p]) :
  Calls prog 184 #[.string s] w fun e w'=>∃N,e=.returned (.tuple #[.int .i64 0,.iface 228 (.pointer (some ⟨N,0,none⟩))])/\w.heap.size<=N/\w'.heap[N]?=some (.cells #[.string ⟨#[65,116,111,105]⟩,.string s,.iface tp p] 250 (0,0))/\Below w.heap.size w w':=Any.strconv_Atoi_err_var laysC172 s hl h tp p w hvar
def lays191_ren:Go.Shelf.Ren:=⟨fun|191=>154|189=>206|125=>235|257=>234|128=>260|129=>222|294=>251|295=>252|296=>253|297=>254|298=>255|299=>256|216=>257|300=>258|301=>259|328=>267|329=>268|330=>269|331=>270|332=>271|215=>272|343=>285|n=>n,fun|28=>36|0=>0|3=>3|46=>137|51=>217|53=>193|4=>4|183=>239|182=>238|131=>100|5=>5|9=>9|218=>256|222=>260|228=>274|229=>275|n=>n,fun|n=>n⟩
theorem lays191:Go.Proofs.Lays.n191 prog lays191_ren:={
 mixed:=by kernel_rfl
 f125:=func235.trans (congrArg some (by kernel_rfl))
 f128:=func260.trans (congrArg some (by kernel_rfl))
 f129:=func222.trans (congrArg some (by kernel_rfl))
 f189:=func206.trans (congrArg some (by kernel_rfl))
 f191:=func154.trans (congrArg some (by kernel_rfl))
 f215:=func272.trans (congrArg some (by kernel_rfl))
 f216:=func257.trans (congrArg some (by kernel_rfl))
 f257:=func234.trans (congrArg some (by kernel_rfl))
 f294:=func251.trans (congrArg some (by kernel_rfl))
 f295:=func252.trans (congrArg some (by kernel_rfl))
 f296:=func253.trans (congrArg some (by kernel_rfl))
 f297:=func254.trans (congrArg some (by kernel_rfl))
 f298:=func255.trans (congrArg some (by kernel_rfl))
 f299:=func256.trans (congrArg some (by kernel_rfl))
 f300:=func258.trans (congrArg some (by kernel_rfl))
 f301:=func259.trans (congrArg some (by kernel_rfl))
 f328:=func267.trans (congrArg some (by kernel_rfl))
 f329:=func268.trans (congrArg some (by kernel_rfl))
 f330:=func269.trans (congrArg some (by kernel_rfl))
 f331:=func270.trans (congrArg some (by kernel_rfl))
 f332:=func271.trans (congrArg some (by kernel_rfl))
 f343:=func285.trans (congrArg some (by kernel_rfl))
 t0:=underlying0
 a0:=isAgg0
 z0:=sizeOf0
 v0:=zeroValue0
 t3:=underlying3
 a3:=isAgg3
 z3:=sizeOf3
 v3:=zeroValue3
 t4:=underlying4
 a4:=isAgg4
 z4:=sizeOf4
 v4:=zeroValue4
 t5:=underlying5
 a5:=isAgg5
 z5:=sizeOf5
 v5:=zeroValue5
 t9:=underlying9
 a9:=isAgg9
 z9:=sizeOf9
 v9:=zeroValue9
 t28:=underlying36
 a28:=isAgg36
 z28:=sizeOf36
 v28:=zeroValue36
 t46:=underlying137
 a46:=isAgg137
 z46:=sizeOf137
 v46:=zeroValue137
 t51:=underlying217
 a51:=isAgg217
 z51:=sizeOf217
 v51:=zeroValue217
 t53:=underlying193
 a53:=isAgg193
 z53:=sizeOf193
 v53:=zeroValue193
 t131:=underlying100
 a131:=isAgg100
 z131:=sizeOf100
 v131:=zeroValue100
 t182:=underlying238
 a182:=isAgg238
 z182:=sizeOf238
 v182:=zeroValue238
 t183:=underlying239
 a183:=isAgg239
 z183:=sizeOf239
 v183:=zeroValue239
 t218:=underlying256
 a218:=isAgg256
 z218:=sizeOf256
 v218:=zeroValue256
 t222:=underlying260
 a222:=isAgg260
 z222:=sizeOf260
 v222:=zeroValue260
 t228:=underlying274
 a228:=isAgg274
 z228:=sizeOf274
 v228:=zeroValue274
 t229:=underlying275
 a229:=isAgg275
 z229:=sizeOf275
 v229:=zeroValue275 }
open Go.Sort Go.RowKit in
theorem sort_Ints(a off cap:Nat)(A:List Int)(w:World)(B:Holds (Value.int .i64) w a off A.toArray)(b:a<w.heap.size)(c:A.length<4611686018427387904):
  Calls prog 154 #[.slice (some ⟨a,off,none⟩) A.length cap] w fun e w'=>
   e=.returned (.tuple #[])/\∃n os,w'=grow (putRow (Value.int .i64) (Sort.ahead w n) a off (A.mergeSort fun x y=>decide (x<=y)).toArray) os:=Any.sort_Ints lays191 a off cap A w B b c
def lays192_ren:Go.Shelf.Ren:=⟨fun|192=>211|190=>237|125=>235|258=>261|128=>260|129=>222|302=>273|303=>274|304=>275|305=>276|306=>277|307=>278|308=>279|309=>280|310=>281|333=>286|329=>268|330=>269|334=>287|335=>288|336=>289|344=>290|n=>n,fun|31=>33|0=>0|9=>9|3=>3|46=>137|51=>217|53=>193|4=>4|183=>239|182=>238|131=>100|5=>5|218=>256|222=>260|228=>274|229=>275|n=>n,fun|n=>n⟩
theorem lays192:Go.Proofs.Lays.n192 prog lays192_ren:={
 mixed:=by kernel_rfl
 f125:=func235.trans (congrArg some (by kernel_rfl))
 f128:=func260.trans (congrArg some (by kernel_rfl))
 f129:=func222.trans (congrArg some (by kernel_rfl))
 f190:=func237.trans (congrArg some (by kernel_rfl))
 f192:=func211.trans (congrArg some (by kernel_rfl))
 f258:=func261.trans (congrArg some (by kernel_rfl))
 f302:=func273.trans (congrArg some (by kernel_rfl))
 f303:=func274.trans (congrArg some (by kernel_rfl))
 f304:=func275.trans (congrArg some (by kernel_rfl))
 f305:=func276.trans (congrArg some (by kernel_rfl))
 f306:=func277.trans (congrArg some (by kernel_rfl))
 f307:=func278.trans (congrArg some (by kernel_rfl))
 f308:=func279.trans (congrArg some (by kernel_rfl))
 f309:=func280.trans (congrArg some (by kernel_rfl))
 f310:=func281.trans (congrArg some (by kernel_rfl))
 f329:=func268.trans (congrArg some (by kernel_rfl))
 f330:=func269.trans (congrArg some (by kernel_rfl))
 f333:=func286.trans (congrArg some (by kernel_rfl))
 f334:=func287.trans (congrArg some (by kernel_rfl))
 f335:=func288.trans (congrArg some (by kernel_rfl))
 f336:=func289.trans (congrArg some (by kernel_rfl))
 f344:=func290.trans (congrArg some (by kernel_rfl))
 t0:=underlying0
 a0:=isAgg0
 z0:=sizeOf0
 v0:=zeroValue0
 t3:=underlying3
 a3:=isAgg3
 z3:=sizeOf3
 v3:=zeroValue3
 t4:=underlying4
 a4:=isAgg4
 z4:=sizeOf4
 v4:=zeroValue4
 t5:=underlying5
 a5:=isAgg5
 z5:=sizeOf5
 v5:=zeroValue5
 t9:=underlying9
 a9:=isAgg9
 z9:=sizeOf9
 v9:=zeroValue9
 t31:=underlying33
 a31:=isAgg33
 z31:=sizeOf33
 v31:=zeroValue33
 t46:=underlying137
 a46:=isAgg137
 z46:=sizeOf137
 v46:=zeroValue137
 t51:=underlying217
 a51:=isAgg217
 z51:=sizeOf217
 v51:=zeroValue217
 t53:=underlying193
 a53:=isAgg193
 z53:=sizeOf193
 v53:=zeroValue193
 t131:=underlying100
 a131:=isAgg100
 z131:=sizeOf100
 v131:=zeroValue100
 t182:=underlying238
 a182:=isAgg238
 z182:=sizeOf238
 v182:=zeroValue238
 t183:=underlying239
 a183:=isAgg239
 z183:=sizeOf239
 v183:=zeroValue239
 t218:=underlying256
 a218:=isAgg256
 z218:=sizeOf256
 v218:=zeroValue256
 t222:=underlying260
 a222:=isAgg260
 z222:=sizeOf260
 v222:=zeroValue260
 t228:=underlying274
 a228:=isAgg274
 z228:=sizeOf274
 v228:=zeroValue274
 t229:=underlying275
 a229:=isAgg275
 z229:=sizeOf275
 v229:=zeroValue275 }
open Go.Sort Go.RowKit in
theorem sort_Strings(a off cap:Nat)(A:List (List UInt8))(w:World)(B:Holds encStr w a off A.toArray)(b:a<w.heap.size)(c:A.length<4611686018427387904):
  Calls prog 211 #[.slice (some ⟨a,off,none⟩) A.length cap] w fun e w'=>
   e=.returned (.tuple #[])/\∃n os,w'=grow (putRow encStr (Sort.ahead w n) a off (A.mergeSort fun x y=>decide (x<=y)).toArray) os:=Any.sort_Strings lays192 a off cap A w B b c
open Go.RowKit Go.Sort in
theorem sort_Strings_none(p:Option Addr)(cap:Nat)(w:World):
  Calls prog 211 #[.slice p 0 cap] w fun e w'=>e=.returned (.tuple #[])/\w'=w:=Any.sort_Strings_none lays192 p cap w
open Go.RowKit Go.Sort in
theorem sort_Ints_none(p:Option Addr)(cap:Nat)(w:World):
  Calls prog 154 #[.slice p 0 cap] w fun e w'=>e=.returned (.tuple #[])/\w'=w:=Any.sort_Ints_none lays191 p cap w
end Go.Proofs
namespace Go.Proofs.YtnacpkmpdlodoaaGreatDoor
section
open Go.RowKit Go.Sort Go.Lib
theorem ZDm {J : World → Prop} (hJ : ∀ w, J w → Lib.TabIs prog w "internal/strconv.uint64pow10" .u64 Lib.pow10Tab) {n : Int} {r : ByteArray} (h : Zsl n = some r) : Zp prog J 64 [(false, [.int .i64 n])] [(false, [(false, .str r)])] := by
 obtain ⟨h1,h2⟩:=Zs h
 obtain rfl:=A9 h2
 refine ⟨⟨f64,func64,yO,yO⟩,fun w z vs hj hz hargs=>?_⟩
 obtain ⟨v,L,rfl,rfl,_⟩:=Zoi hargs
 refine (strconv_Itoa n h1.1 h1.2 w (hJ w hj)).mono ?_
 rintro e w' ⟨rfl,k,os,rfl⟩
 refine ⟨_,z,rfl,Zvt ⟨⟨rfl,rfl,?_⟩,rfl⟩,fun b h=>h,below_grow _ _ (Nat.le_refl _) _ _⟩
 have:=Lib.itoa_length_le n h1.1 h1.2
 show (Lib.itoa n).toArray.size<=_
 rw [AD]
 omega
end
section
open Go.RowKit
theorem Zy8{J:World->Prop}{a b:BYT}{r:Int}(h:Zgf a b=some r):Zp prog J 93 [(false,[.str a]),(false,[.str b])] [(false,[(false,.int .i64 r)])]:=by
 obtain rfl:=A9 h;refine ⟨⟨f93,func93,yO,yO⟩,fun w z vs hj hz c=>?_⟩;obtain ⟨v,u,L,M,rfl,⟨rfl,_⟩,rfl,_⟩:=ZzQ c;refine (strings_Compare a b w).mono ?_;rintro e w' ⟨rfl,rfl⟩;exact ⟨_,z,rfl,Zvt ⟨⟨rfl,rfl⟩,rfl⟩,fun b h=>h,Below.refl _ _⟩
end
section
open Go.RowKit
theorem ZKG{w:World}:∀{l:List BYT}{xs:List Value}{L:List Nat},REs w 1 (l.map ZC) xs L->xs=l.map Value.string
 | [],_,_,h=>h.1
 |x::l,_,_,h=>by
  obtain ⟨F,E,L1,L2,rfl,_,D,C⟩:=h;obtain ⟨⟨v,cs,M1,M2,rfl,_,A,B,_⟩,_⟩:=D;rw [ZKG C,B,A.1];rfl
theorem ZLa{J:World->Prop}{l:List BYT}{sep r:BYT}(h:ZKD l sep=some r):Zp prog J 97 [(false,[.sl 9 1 (l.map ZC)]),(false,[.str sep])] [(false,[(false,.str r)])]:=by
 obtain ⟨h1,h2⟩:=Zs h;obtain rfl:=A9 h2;refine ⟨⟨f97,func97,yO,yO⟩,fun w z vs hj hz a=>?_⟩;obtain ⟨v,u,L,M,rfl,hv,⟨rfl,_⟩⟩:=ZzQ a;have g:=hv.lt;obtain ⟨A,cap,cs,L0,L1,rfl,d,hc2,rfl,_,hs,he⟩:=hv;rw [AJ]at hs d;have i:=ZKG he;have f:(ofL (Lib.join (l.map toL) (toL sep))).size<=9223372036854775807:=by
  show (Lib.join (l.map toL) (toL sep)).toArray.size<=_
  rw [AD];omega
 rcases hs.2 with ⟨h0,_⟩|⟨hn,b,off,rfl,rfl,c⟩
 .have:l=[]:=AE h0;subst this;refine (strings_Join_none A cap sep w).mono ?_;rintro e w' ⟨rfl,rfl⟩;exact ⟨_,z,rfl,Zvt ⟨⟨rfl,rfl,f⟩,rfl⟩,fun b h=>h,Below.refl _ _⟩
 .rw [AJ];refine (strings_Join b off cap l sep w (fun j x hx=>c j _ (by rw [i,AB,hx];rfl)) ?_ h1.1 d h1.2).mono ?_
  .exact g b yG
  .rintro e w' ⟨rfl,hb⟩;exact ⟨_,z,rfl,Zvt ⟨⟨rfl,rfl,f⟩,rfl⟩,fun b h=>h,hb⟩
end
section
open Go.RowKit Go.Sort
theorem Zri{α:Type}[Inhabited α]{P:Program}{J:World->Prop}{JF:Nat->Prop}(a:α->Value)(W:α->List CT)(I:∀(w:World) x v L,RCs w (W x) v L->v=[a x])(K:∀(w w':World) x,RCs w (W x) [a x] []->RCs w' (W x) [a x] [])(u:∀l:List α,ZbI (l.map W)=true){f:FuncId}{e:TypeId}{V d:List α}(hc:ZdI P f)(hd:d.length=V.length)(C:∀x∈d,x∈V)
  (hN:∀p cap w,Calls P f #[.slice p 0 cap] w fun e w'=>e=.returned (.tuple #[])/\w'=w)
  (hC:∀i off cap w,Holds a w i off V.toArray->i<w.heap.size->Calls P f #[.slice (some ⟨i,off,none⟩) V.length cap] w fun e w'=>e=.returned (.tuple #[])/\∃n os,w'=grow (putRow a (Sort.ahead w n) i off d.toArray) os):
  Ys P J JF f (.row e 1 (V.map W)) [] [] (.row e 1 (d.map W)):=by
 refine ⟨hc,fun w z q v0 vs hj aa hz hh ha=>?_⟩;cases vs with
 |cons _ _=>exact ha.elim
 |nil=>
 obtain ⟨ae,hm,hq,cs,c,M⟩:=hh;have N:∀(l:List α) (cs:List Value) (L:List Nat),REs w 1 (l.map W) cs L->cs=l.map a/\(L=[]->∀x∈l,RCs w (W x) [a x] []):=by
  intro l;induction l with
  |nil=>intro cs L h;exact ⟨h.1,fun _ x mx=>by simp at mx⟩
  |cons x l ih=>
   rintro cs L ⟨c1,c2,L1,L2,rfl,rfl,h3,h4⟩;obtain ⟨i1,i2⟩:=ih _ _ h4;have e1:=I _ _ _ _ h3.1;refine ⟨by rw [e1,i1];rfl,fun hL y my=>?_⟩;obtain ⟨l1,l2⟩:=List.append_eq_nil_iff.1 hL;rcases List.mem_cons.1 my with rfl|my
   .rw [<-e1,<-l1];exact h3.1
   .exact i2 l2 y my
 obtain ⟨e1,e2⟩:=N V cs [] M;have e2:=e2 rfl;subst e1;have D:∀(w':World) (l:List α),(∀x∈l,x∈V)->REs w' 1 (l.map W) (l.map a) []:=by
  intro w' l;induction l with
  |nil=>intro _;exact ⟨rfl,rfl⟩
  |cons x l ih=>intro hl;exact ⟨[a x],l.map a,[],[],rfl,rfl,⟨K w w' x (e2 x (hl x yG)),rfl⟩,ih fun y my=>hl y (by simp [my])⟩
 have O:(V.map W).length=V.length:=by simp
 rw [O]at c;have t:∀w':World,w'.os=w.os->w'.tape=w.tape->w'.output=w.output->w.heap.size<=w'.heap.size->(∀k,k<w.heap.size->¬q=some k->w'.heap[k]?=w.heap[k]?)->w'.ownsV 0 e 1 v0 d.length (d.map a)->∃v n,Ending.returned (.tuple #[])=.returned v/\Zgi w' w.heap.size n [] v/\(∀b,inQ z q b->n b)/\Znp w' n q (.row e 1 (d.map W)) v0/\Zgo q w w':=
  fun w' h1 h2 h3 h4 h5 h6=>⟨_,inQ z q,rfl,⟨[],[],⟨rfl,rfl⟩,Own.nil _ _,rfl⟩,fun _ h=>h,⟨u d,yE,hq,d.map a,by simpa using h6,D w' d C⟩,⟨h1,h2,h3,h4,h5⟩⟩
 rcases Nat.eq_zero_or_pos V.length with h0|h0
 .have Q:V=[]:=AE h0;have R:d=[]:=AE (hd.trans h0);obtain ⟨A,cap,hv⟩:=ZbG c;rw [h0]at hv;subst hv;refine (hN A cap w).mono ?_;rintro e' w' ⟨rfl,rfl⟩;exact t w' rfl rfl rfl (Nat.le_refl _) (fun _ _ _=>rfl) (by rw [R];rw [Q]at c;exact c)
 .rcases c.2 with ⟨h',ad⟩|⟨g,o,cap,m,h',hb,hg,ac,S,E,B⟩
  .omega
  .subst h';have F:g<w.heap.size:=(Array.getElem?_eq_some_iff.1 hg).1;have G:∀j,j<V.length->m[o+j]?=some (a V[j]!):=fun j hj=>by
    have:=congrArg (fun l=>l[j]?) B;simp only[Nat.mul_one,AK,hj,if_true,AL,AM,AB]at this;rw [this];simp [List.getElem!_eq_getElem?_getD,hj]
   refine (hC g o cap w (fun j hj=>?_) F).mono ?_
   .have H:j<V.length:=by simpa using hj
    refine ⟨?_,by simp [World.frozen?,hg]⟩;simp only[World.cell?,hg,Option.isSome_none,Bool.false_eq_true,if_false];rw [G j H];simp [H]
   .rintro e' w' ⟨rfl,n,os,rfl⟩;have hh:(putRow a (Sort.ahead w n) g o d.toArray).heap[g]?=some (.cells (putCells a o d.toArray m) e (0,0)):=by
     simp only[putRow,mapBlock,heap_ahead,AN,if_true,hg,Option.map_some,onCells]
    refine t _ rfl rfl rfl yG (fun k hk T=>?_) ⟨yG,.inr ⟨g,o,cap,putCells a o d.toArray m,by rw [hd],yE,?_,yE,S,by simpa [putCells]using E,?_⟩⟩
    .rw [heap_grow_old _ _ (by simpa using hk)];simp only[putRow,mapBlock,heap_ahead,AN];rw [yn (fun e=>T (by rw [<-hq];simp [Value.ownBlock,e]))]
    .rw [heap_grow_old _ _ (by simpa using F)];exact hh
    .apply List.ext_getElem?;intro j;simp only[Nat.mul_one,AK,AL,AB,AM,putCells,Array.getElem?_mapIdx,AD];by_cases hj:j<d.length
     .have U:o+j<m.size:=by omega
      simp [hj,U]
     .simp [hj]
end
section
open Go.RowKit Go.Sort
theorem ZvX{J:World->Prop}{JF:Nat->Prop}{l r:List Int}(h:ZgH l=some r):Ys prog J JF 154 (.row 3 1 (l.map ZP)) [] [] (.row 3 1 (r.map ZP)):=by
 obtain ⟨F,E⟩:=Zs h;obtain rfl:=A9 E;refine Zri (Value.int .i64) ZP (fun w x v L h=>?_) (fun w w' x h=>h) Zq7 ⟨f154,func154,yO,yO⟩ (by simp [Zmx]) (fun x B=>by simpa [Zmx]using B) (fun p cap w=>sort_Ints_none p cap w) (fun a off cap w D C=>sort_Ints a off cap l w D C yE);obtain ⟨u,vs,L1,L2,rfl,rfl,A,rfl,rfl⟩:=h;rw [A.1]
end
section
open Go.RowKit
theorem ZD2 {J : World → Prop} (hJ : ∀ w, J w → ∃ tp p, w.var? prog "strconv.ErrSyntax" = some #[.iface tp p]) {s : ByteArray} {r : Int × Bool} (h : Zpd s = some r) : Zp prog J 184 [(false, [.str s])] [(false, [(false, .int .i64 r.1)]), (false, [(false, .ifc r.2)])] := by
 obtain ⟨h1,h2⟩:=Zs h
 refine ⟨⟨f184,func184,yO,yO⟩,fun w z vs hj hz hargs=>?_⟩
 obtain ⟨v,L,rfl,rfl,_⟩:=Zoi hargs
 cases ha:Lib.atoi (toL s) with
 |some n=>
  rw [ha]at h2
  obtain rfl:=A9 h2
  refine (strconv_Atoi s n h1 ha w).mono ?_
  rintro e w' ⟨rfl,t,rfl⟩
  exact ⟨_,z,rfl,Ztt ⟨⟨rfl,rfl⟩,rfl⟩ ⟨⟨rfl,rfl,rfl⟩,rfl⟩,fun b h=>h,Lib.bytesWorld_below _ _ _⟩
 |none=>
  rw [ha]at h2
  obtain rfl:=A9 h2
  obtain ⟨tp,p,hv⟩:=hJ w hj
  refine (strconv_Atoi_err_var s h1 ha tp p w hv).mono ?_
  rintro e w' ⟨N,rfl,_,_,hb⟩
  exact ⟨_,z,rfl,Ztt ⟨⟨rfl,rfl⟩,rfl⟩ ⟨⟨rfl,rfl,_,_,rfl⟩,rfl⟩,fun b h=>h,hb⟩
end
section
open Go.RowKit Go.Sort
theorem Zqg{J:World->Prop}{JF:Nat->Prop}{l r:List BYT}(h:Zdn l=some r):Ys prog J JF 211 (.row 9 1 (l.map ZC)) [] [] (.row 9 1 (r.map ZC)):=by
 obtain ⟨h1,h2⟩:=Zs h;obtain rfl:=A9 h2;have e1:l.map ZC=(l.map toL).map fun x=>ZC (ofL x):=by rw [AP];exact List.map_congr_left fun x _=>by simp [Zku]
 have e2:(Zf5 l).map ZC=((l.map toL).mergeSort fun x y=>decide (x<=y)).map fun x=>ZC (ofL x):=by simp [Zf5,AP,Function.comp_def]
 rw [e1,e2];refine Zri encStr (fun x=>ZC (ofL x)) (fun w x v L h=>?_) (fun w w' x h=>h) (fun l=>ZcS (fun _=>rfl) l) ⟨f211,func211,yO,yO⟩ yG (fun x hx=>by simpa using hx) (fun p cap w=>sort_Strings_none p cap w) (fun a off cap w hH hb=>sort_Strings a off cap (l.map toL) w hH hb (by simp;omega));obtain ⟨u,vs,L1,L2,rfl,rfl,q1,rfl,rfl⟩:=h;rw [q1.1];rfl
end
theorem Zzj{n:Int}{r:BYT}(h:Zsl n=some r):Zp prog J0 64 [(false,[.int .i64 n])] [(false,[(false,.str r)])]:=ZDm ZEf h
theorem Zkq{a b:BYT}{r:Int}(h:Zgf a b=some r):Zp prog J0 93 [(false,[.str a]),(false,[.str b])] [(false,[(false,.int .i64 r)])]:=Zy8 h
theorem ZK2{l:List BYT}{s r:BYT}(h:ZKD l s=some r):Zp prog J0 97 [(false,[.sl 9 1 (l.map ZC)]),(false,[.str s])] [(false,[(false,.str r)])]:=ZLa h
theorem ZpS{l r:List Int}(h:ZgH l=some r):Ys prog J0 JF0 154 (.row 3 1 (l.map ZP)) [] [] (.row 3 1 (r.map ZP)):=ZvX h
theorem Zzn{s:ByteArray}{r:Int×Bool}(h:Zpd s=some r):Zp prog J0 184 [(false,[.str s])] [(false,[(false,.int .i64 r.1)]),(false,[(false,.ifc r.2)])]:=ZD2 ZEi h
theorem ZlO{l r:List BYT}(h:Zdn l=some r):Ys prog J0 JF0 211 (.row 9 1 (l.map ZC)) [] [] (.row 9 1 (r.map ZC)):=Zqg h
section
theorem ZnG{A:Int}{r:BYT}(h:Zb8 A=some r):Zp prog J0 35 [(false,[.int .i64 A])] [(false,[(false,.str r)])]:=by
 refine fnk func35 rfl ?_;unfold Zb8 at h;have a:ZB ⟨#[]⟩=true:=by decide
 simp only[fnS,f35,Zt,go_sem,seval,a];refine Zc h fun v1 b h=>Zd (Zzj b) ?_;cases h;exact yD
theorem Zba{A:Zo}{r:Bool}(h:XF A=some r):Zp prog J0 208 [(true,ZaW A)] [(false,[(false,.bool r)])]:=by
 refine fnk func208 rfl ?_;unfold XF at h;have a:ZB ⟨#[]⟩=true:=by decide
 simp only[fnS,f208,Zt,go_sem,seval,a];refine yB h (fun _ h=>?_) fun _ h=>?_;iterate 2 (cases h;exact yD)
theorem ZhM{A r:List Zx}(h:ZbZ A=some r):Zp prog J0 204 [(false,[.sl 149 2 (A0 Yi A)])] [(false,[(false,.sl 149 2 (A0 Yi r))])]:=by
 refine fnk func204 rfl ?_;unfold ZbZ at h;simp only[fnS,f204,Zt,go_sem,seval];obtain ⟨_,h⟩:=Zs h;cases h;exact yD
theorem Zgn{A:Zf}{r:List Zu}(h:YX A=some r):Zp prog J0 112 [(true,ZF A)] [(false,[(true,.sl 144 5 (A0 ZT r))])]:=by
 refine fnk func112 rfl ?_;unfold YX at h;simp only[fnS,f112,Zt,go_sem,seval];refine Zk h (fun i a st=>IV [(3,.p false [.row 0]),(7,yM (yY A.cond)),(8,yL A.cond.length),(9,yL i)] [.row 144 5 (A0 ZT a) 1] st) [(false,3,0),(true,112,1)] [112] yF yD ?_ ?_;rintro _ _ a ⟨_,_,_⟩ _ b d f h _;simp only[go_sem,seval,Zb]at d;obtain ⟨⟨_,g,_,_⟩,_,B⟩:=d;subst B;have k:=WF.slotL f g (j:=0) rfl;have:=ZH b;have:=ZI b;have:=Zm (ZG b) k;simp only[*,go_sem,seval];refine yB h (fun _ h=>?_) fun _ h=>?_;obtain ⟨l,h⟩:=Zs h;try simp only[Nat.reduceLeDiff]at l
 simp only[*,go_sem,seval];exact yR h [177];exact yR h [0];rintro a ⟨_,_,_⟩ e _ h;simp only[go_sem,seval,Zb]at e;obtain ⟨⟨_,_,_,_⟩,_,B⟩:=e;subst B;have:=ZE (A.cond.length);cases h;exact yD
theorem Zjo{B:List Zf}{A:ByteArray}{r:Int}(h:Qz B A=some r):Zp prog J0 46 [(false,[.sl 87 4 (A0 ZF B)]),(false,[.str A])] [(false,[(false,.int .i64 r)])]:=by
 refine fnk func46 rfl ?_;unfold Qz at h;simp only[fnS,f46,Zt,go_sem,seval];refine Zk h (fun i _ st=>IV [(1,yM (.str A)),(7,yM (yX B)),(8,yL B.length),(9,yL i)] [] st) [] [] yF yD ?_ ?_;rintro _ _ ⟨⟩ ⟨_,_,_⟩ _ a b e h f;simp only[go_sem,seval,Zb]at b;obtain ⟨⟨_,g,_,_⟩,C⟩:=b;subst C;have k:=WF.slotL e g (j:=0) rfl;have:=ZH a;have:=ZI a;have:=Zm (ZG a) k;simp only[*,go_sem,seval];refine yB h (fun _ h=>?_) fun _ h=>?_;replace h:=Zr h f;cases h;exact yD;exact yR h [];rintro ⟨⟩ ⟨_,_,_⟩ d _ h;simp only[go_sem,seval,Zb]at d;obtain ⟨⟨_,_,_,_⟩,C⟩:=d;subst C;have:=ZE (B.length);cases h;exact yD
theorem QI{A r:List ByteArray}(h:YM A=some r):Zp prog J0 164 [(false,[.sl 9 1 (A0 ZC A)])] [(false,[(false,.sl 9 1 (A0 ZC r))])]:=by
 refine fnk func164 rfl ?_;unfold YM at h;simp only[fnS,f164,Zt,go_sem,seval];obtain ⟨_,h⟩:=Zs h;simp only[*,go_sem,seval];obtain ⟨v1,f,h⟩:=Zn h;refine ZA (ZlO f)<|yA ?_;refine Zk h (fun i a st=>IV [(3,.p false [.row 0]),(4,.p false [.row 1]),(11,.p false [.row 0]),(12,yL v1.length),(13,yL i)] [.row 9 1 (A0 ZC v1) 2,.row 9 1 (A0 ZC a) 2] st) [(false,4,0)] [32,160] yF yD ?_ ?_;rintro _ _ a ⟨_,_,_⟩ _ b d g h _;simp only[go_sem,seval,Zb]at d;obtain ⟨⟨_,_,_,_,_⟩,j,_,B⟩:=d;subst B;have k:=WF.rowL g j;have:=ZH b;have:=ZI b;have:=Zm (ZG b) k;simp only[*,go_sem,seval];refine yB h (fun _ h=>?_) fun _ h=>?_;obtain ⟨l,h⟩:=Zs h;try simp only[Nat.reduceLeDiff]at l
 simp only[*,go_sem,seval];exact yR h [0,322];obtain ⟨_,h⟩:=Zs h;obtain ⟨_,_,h⟩:=Zn h;simp only[*,go_sem,seval];refine yB h (fun _ h=>?_) fun _ h=>?_;exact yR h [0,1];obtain ⟨m,h⟩:=Zs h;try simp only[Nat.reduceLeDiff]at m
 simp only[*,go_sem,seval];exact yR h [0,322];rintro a ⟨_,_,_⟩ e _ h;simp only[go_sem,seval,Zb]at e;obtain ⟨⟨_,_,_,_,_⟩,_,_,B⟩:=e;subst B;have:=ZE (v1.length);cases h;exact yD
theorem Za7{A:List ByteArray}{B:ByteArray}{r:Bool}(h:XL A B=some r):Zp prog J0 163 [(false,[.sl 9 1 (A0 ZC A)]),(false,[.str B])] [(false,[(false,.bool r)])]:=by
 refine fnk func163 rfl ?_;unfold XL at h;simp only[fnS,f163,Zt,go_sem,seval];refine Zk h (fun i _ st=>IV [(1,yM (.str B)),(7,yM (yV A)),(8,yL A.length),(9,yL i)] [] st) [] [] yF yD ?_ ?_;rintro _ _ ⟨⟩ ⟨_,_,_⟩ _ a b e h f;simp only[go_sem,seval,Zb]at b;obtain ⟨⟨_,g,_,_⟩,C⟩:=b;subst C;have k:=WF.slotL e g (j:=0) rfl;have:=ZH a;have:=ZI a;have:=Zm (ZG a) k;simp only[*,go_sem,seval];refine yB h (fun _ h=>?_) fun _ h=>?_;replace h:=Zr h f;cases h;exact yD;exact yR h [];rintro ⟨⟩ ⟨_,_,_⟩ d _ h;simp only[go_sem,seval,Zb]at d;obtain ⟨⟨_,_,_,_⟩,C⟩:=d;subst C;have:=ZE (A.length);cases h;exact yD
theorem ZpF{A:Zf}{r:Bool}(h:Zex A=some r):Zp prog J0 231 [(true,ZF A)] [(false,[(false,.bool r)])]:=by
 refine fnk func231 rfl ?_;unfold Zex at h;simp only[fnS,f231,Zt,go_sem,seval];refine Zk h (fun i _ st=>IV [(6,yM (zA A.thn)),(7,yL A.thn.length),(8,yL i)] [] st) [] [] yF yD ?_ ?_;rintro _ _ ⟨⟩ ⟨_,_,_⟩ _ a b e h f;simp only[go_sem,seval,Zb]at b;obtain ⟨⟨g,_,_⟩,B⟩:=b;subst B;have k:=WF.slotL e g (j:=0) rfl;have:=ZH a;have:=ZI a;have:=Zm (ZG a) k;simp only[*,go_sem,seval];refine yB h (fun _ h=>?_) fun _ h=>?_;replace h:=Zr h f;cases h;exact yD;exact yR h [];rintro ⟨⟩ ⟨_,_,_⟩ d _ h;simp only[go_sem,seval,Zb]at d;obtain ⟨⟨_,_,_⟩,B⟩:=d;subst B;have:=ZE (A.thn.length);cases h;exact yD
theorem ZtW{A:List Int}{B:Int}{r:Bool}(h:ZhO A B=some r):Zp prog J0 153 [(false,[.sl 3 1 (A0 ZP A)]),(false,[.int .i64 B])] [(false,[(false,.bool r)])]:=by
 refine fnk func153 rfl ?_;unfold ZhO at h;simp only[fnS,f153,Zt,go_sem,seval];refine Zk h (fun i _ st=>IV [(1,yM (.int .i64 B)),(7,yM (yW A)),(8,yL A.length),(9,yL i)] [] st) [] [] yF yD ?_ ?_;rintro _ _ ⟨⟩ ⟨_,_,_⟩ _ a b e h f;simp only[go_sem,seval,Zb]at b;obtain ⟨⟨_,g,_,_⟩,C⟩:=b;subst C;have k:=WF.slotL e g (j:=0) rfl;have:=ZH a;have:=ZI a;have:=Zm (ZG a) k;simp only[*,go_sem,seval];refine yB h (fun _ h=>?_) fun _ h=>?_;replace h:=Zr h f;cases h;exact yD;exact yR h [];rintro ⟨⟩ ⟨_,_,_⟩ d _ h;simp only[go_sem,seval,Zb]at d;obtain ⟨⟨_,_,_,_⟩,C⟩:=d;subst C;have:=ZE (A.length);cases h;exact yD
theorem Zjs{A B:List Int}{r:Bool}(h:Zc4 A B=some r):Zp prog J0 207 [(false,[.sl 3 1 (A0 ZP A)]),(false,[.sl 3 1 (A0 ZP B)])] [(false,[(false,.bool r)])]:=by
 refine fnk func207 rfl ?_;unfold Zc4 at h;simp only[fnS,f207,Zt,go_sem,seval];refine yB h (fun _ h=>?_) fun _ h=>?_;cases h;exact yD;refine Zk h (fun i _ st=>IV [(0,yM (yW A)),(1,yM (yW B)),(12,yL A.length),(13,yL i)] [] st) [] [] yF yD ?_ ?_;rintro _ _ ⟨⟩ ⟨_,_,_⟩ _ a b e h f;simp only[go_sem,seval,Zb]at b;obtain ⟨⟨g,_,_,_⟩,C⟩:=b;subst C;have k:=WF.slotL e g (j:=0) rfl;have:=ZH a;have:=ZI a;have:=Zm (ZG a) k;obtain ⟨_,_,_,l,h⟩:=Zbl h;simp only[AA]at l;simp only[*,go_sem,seval];refine yB h (fun _ h=>?_) fun _ h=>?_;replace h:=Zr h f;cases h;exact yD;exact yR h [];rintro ⟨⟩ ⟨_,_,_⟩ d _ h;simp only[go_sem,seval,Zb]at d;obtain ⟨⟨_,_,_,_⟩,C⟩:=d;subst C;have:=ZE (A.length);cases h;exact yD
theorem ZuZ{a:Zl}{r:List Int}(h:ZiK a=some r):Zp prog J0 156 [(true,YY a)] [(false,[(false,.sl 3 1 (A0 ZP r))])]:=by
 refine fnk func156 rfl ?_;unfold ZiK at h;simp only[fnS,f156,Zt,go_sem,seval];obtain ⟨_,h⟩:=Zs h;simp only[*,go_sem,seval];refine Ym h (fun s st=>match s with|(q,t)=>IV [(1,.bp 0 0),(3,.p false [.row 1]),(4,yM (.bool t))] [.box 53 [.c (.int .i64 a.nodes),.c (zB a.reasons)],.row 3 1 (A0 ZP q) 2] st) [] [0,64] yF yD ?_;rintro ⟨q,t⟩ ⟨_,_,_⟩ _ u _ h C;simp only[go_sem,seval,Zb]at u;obtain ⟨⟨_,_,_⟩,_,_,M⟩:=u;subst M;simp only[*,go_sem,seval];refine yB h (fun _ h=>?_) fun _ h=>?_;refine Zk h (fun i s st=>match s with|(e,f)=>IV [(1,.bp 0 0),(3,.p false [.row 1]),(4,yM (.bool f)),(17,yM (zB a.reasons)),(18,yL a.reasons.length),(19,yL i)] [.box 53 [.c (.int .i64 a.nodes),.c (zB a.reasons)],.row 3 1 (A0 ZP e) 2] st) [] [0,1] yF yD ?_ ?_;rintro v d ⟨e,f⟩ ⟨_,_,_⟩ _ g w D h _;simp only[go_sem,seval,Zb]at w;obtain ⟨⟨_,_,_,E,_,_⟩,_,_,M⟩:=w;subst M;have F:=WF.slotL D E (j:=0) rfl;have:=ZH g
 have:=ZI g;have:=Zm (ZG g) F;obtain ⟨_,h⟩:=Zs h;obtain ⟨_,_,h⟩:=Zn h;simp only[*,go_sem,seval];refine Zk h (fun i k st=>IV [(1,.bp 0 0),(3,.p false [.row 1]),(4,yM (.bool f)),(6,.bp 2 0),(7,yM (.int .i64 k)),(17,yM (zB a.reasons)),(18,yL a.reasons.length),(19,yL v),(29,yM (yW d.inn)),(30,yL d.inn.length),(31,yL i)] [.box 53 [.c (.int .i64 a.nodes),.c (zB a.reasons)],.row 3 1 (A0 ZP e) 2,zF 109 (ZJ d)] st) [] [0,1,50] yF yD ?_ ?_;rintro _ _ k ⟨_,_,_⟩ _ l x G h _;simp only[go_sem,seval,Zb]at x;obtain ⟨⟨_,_,_,_,_,_,_,_,H,_,_⟩,_,_,_,M⟩:=x;subst M;have I:=WF.slotL G H (j:=0) rfl;have:=ZH l;have:=ZI l;have:=Zm (ZG l) I;obtain ⟨_,h⟩:=Zs h;obtain ⟨_,_,h⟩:=Zn h;simp only[*,go_sem,seval];exact yR h [0,1,2];rintro k ⟨_,_,_⟩ y _ h;simp only[go_sem,seval,Zb]at y;obtain ⟨⟨_,_,_,_,_,_,_,_,_,_,_⟩,_,_,_,M⟩:=y;subst M;have:=ZE (d.inn.length);simp only[*,go_sem,seval]
 refine Zk h (fun i m st=>IV [(1,.bp 0 0),(3,.p false [.row 1]),(4,yM (.bool f)),(6,.bp 2 0),(7,yM (.int .i64 m)),(17,yM (zB a.reasons)),(18,yL a.reasons.length),(19,yL v),(43,yM (yW d.outs)),(44,yL d.outs.length),(45,yL i)] [.box 53 [.c (.int .i64 a.nodes),.c (zB a.reasons)],.row 3 1 (A0 ZP e) 2,zF 109 (ZJ d)] st) [] [0,1,2] yF yD ?_ ?_;rintro _ _ m ⟨_,_,_⟩ _ o z J h _;simp only[go_sem,seval,Zb]at z;obtain ⟨⟨_,_,_,_,_,_,_,_,K,_,_⟩,_,_,_,M⟩:=z;subst M;have L:=WF.slotL J K (j:=0) rfl;have:=ZH o;have:=ZI o;have:=Zm (ZG o) L;obtain ⟨_,h⟩:=Zs h;obtain ⟨_,_,h⟩:=Zn h;simp only[*,go_sem,seval];exact yR h [0,1,2];rintro m ⟨_,_,_⟩ A _ h;simp only[go_sem,seval,Zb]at A;obtain ⟨⟨_,_,_,_,_,_,_,_,_,_,_⟩,_,_,_,M⟩:=A;subst M;have:=ZE (d.outs.length);simp only[*,go_sem,seval];refine yB h (fun _ h=>?_) fun _ h=>?_;exact yR h [0,1];exact yR h [0,1];rintro ⟨e,f⟩ ⟨_,_,_⟩ B _ h
 simp only[go_sem,seval,Zb]at B;obtain ⟨⟨_,_,_,_,_,_⟩,_,_,M⟩:=B;subst M;have:=ZE (a.reasons.length);simp only[*,go_sem,seval];exact yR h [0,1];replace h:=Zr h C;cases h;exact yD
theorem Zo0{C:Zh}{A:List Int}{B:Int}{r:Bool}(h:ZbS C A B=some r):Zp prog J0 157 [(true,ZJ C),(false,[.sl 3 1 (A0 ZP A)]),(false,[.int .i64 B])] [(false,[(false,.bool r)])]:=by
 refine fnk func157 rfl ?_;unfold ZbS at h;simp only[fnS,f157,Zt,go_sem,seval];refine Zk h (fun i _ st=>IV [(1,yM (yW A)),(2,yM (.int .i64 B)),(3,.bp 0 0),(12,yM (yW C.inn)),(13,yL C.inn.length),(14,yL i)] [zF 109 (ZJ C)] st) [] [0] yF yD ?_ ?_;rintro _ _ ⟨⟩ ⟨_,_,_⟩ _ a d l h e;simp only[go_sem,seval,Zb]at d;obtain ⟨⟨_,_,_,m,_,_⟩,_,D⟩:=d;subst D;have o:=WF.slotL l m (j:=0) rfl;have:=ZH a;have:=ZI a;have:=Zm (ZG a) o;obtain ⟨_,_,_,_,h⟩:=Zbl h;simp only[*,go_sem,seval];refine yB h (fun _ h=>?_) fun _ h=>?_;replace h:=Zr h e;cases h;exact yD;refine yB h (fun _ h=>?_) fun _ h=>?_;replace h:=Zr h e;cases h;exact yD;exact yR h [0];rintro ⟨⟩ ⟨_,_,_⟩ f _ h;simp only[go_sem,seval,Zb]at f;obtain ⟨⟨_,_,_,_,_,_⟩,_,D⟩:=f;subst D;have:=ZE (C.inn.length);simp only[*,go_sem,seval]
 refine Zk h (fun i _ st=>IV [(1,yM (yW A)),(33,yM (yW C.outs)),(34,yL C.outs.length),(35,yL i)] [] st) [] [] yF yD ?_ ?_;rintro _ _ ⟨⟩ ⟨_,_,_⟩ _ b g q h t;simp only[go_sem,seval,Zb]at g;obtain ⟨⟨_,u,_,_⟩,D⟩:=g;subst D;have v:=WF.slotL q u (j:=0) rfl;have:=ZH b;have:=ZI b;have:=Zm (ZG b) v;obtain ⟨_,_,_,_,h⟩:=Zbl h;simp only[*,go_sem,seval];refine yB h (fun _ h=>?_) fun _ h=>?_;replace h:=Zr h t;cases h;exact yD;exact yR h [];rintro ⟨⟩ ⟨_,_,_⟩ k _ h;simp only[go_sem,seval,Zb]at k;obtain ⟨⟨_,_,_,_⟩,D⟩:=k;subst D;have:=ZE (C.outs.length);cases h;exact yD
theorem ZK7{A:List Int}{B r:Int}(h:ZK5 A B=some r):Zp prog J0 15 [(false,[.sl 5 1 (A0 ZbA A)]),(false,[.int .i64 B])] [(false,[(false,.int .i64 r)])]:=by
 refine fnk func15 rfl ?_;unfold ZK5 at h;simp only[fnS,f15,Zt,go_sem,seval];refine yB h (fun _ h=>?_) fun _ h=>?_;cases h;exact yD;obtain ⟨_,_,_,_,h⟩:=Zbl h;cases h;exact yD
theorem ZK1{B:List BYT}{A r:BYT}(h:ZKr B A=some r):Zp prog J0 63 [(false,[.sl 9 1 (A0 ZC B)]),(false,[.str A])] [(false,[(false,.str r)])]:=by
 refine fnk func63 rfl ?_;unfold ZKr at h;have a:ZB ⟨#[]⟩=true:=by decide
 simp only[fnS,f63,Zt,go_sem,seval,a];refine Zc h fun v1 b h=>Zd (ZK2 b) ?_;cases h;exact yD
end
section
theorem ZfA{B A:Za}{r:Bool}(h:Zfa B A=some r):Zp prog J0 54 [(true,Zq B),(true,Zq A)] [(false,[(false,.bool r)])]:=by
 refine fnk func54 rfl ?_;unfold Zfa at h;simp only[fnS,f54,Zt,go_sem,seval];refine yB h (fun _ h=>?_) fun _ h=>?_;refine Zc h fun v1 a h=>Zd (ZlZ a) ?_;iterate 2 (cases h;exact yD)
theorem QV{A:ByteArray}{r:Bool}(h:Zaf A=some r):Zp prog J0 124 [(false,[.str A])] [(false,[(false,.bool r)])]:=by
 refine fnk func124 rfl ?_;unfold Zaf at h;simp only[fnS,f124,Zt,go_sem,seval];refine Zk h (fun i _ st=>IV [(0,yM (.str A)),(3,yL i)] [] st) [] [] yF yD ?_ ?_;rintro _ _ ⟨⟩ ⟨_,_,_⟩ _ a b e h f;simp only[go_sem,seval,Zb]at b;obtain ⟨⟨g,_⟩,B⟩:=b;subst B;have k:=WF.slotS e g (j:=0) rfl;have:=ZrS a;have:=ZAg a;have:=Zm (Zxh a) k;simp only[*,go_sem,seval];refine Zc h fun _ l h=>Zd (Xq l)<|yA ?_;refine yB h (fun _ h=>?_) fun _ h=>?_;exact yR h [];refine Zc h fun _ m h=>Zd (Xq m)<|yA ?_;refine yB h (fun _ h=>?_) fun _ h=>?_;exact yR h [];replace h:=Zr h f;cases h;exact yD;rintro ⟨⟩ ⟨_,_,_⟩ d _ h;simp only[go_sem,seval,Zb]at d;obtain ⟨⟨_,_⟩,B⟩:=d;subst B;have:=ZE (A.size);simp only[*,go_sem,seval];refine Zc h fun _ o h=>Zd (Xq o) ?_;cases h;exact yD
theorem Y7{A r:Za}(h:Xc A=some r):Zp prog J0 57 [(true,Zq A)] [(true,[(false,.str r.rel),(false,.sl 9 1 (A0 ZC r.args))])]:=by
 refine fnk func57 rfl ?_;unfold Xc at h;simp only[fnS,f57,Zt,go_sem,seval];refine Zc h fun v1 a h=>Zd (Zse a) ?_;cases h;exact yD
theorem Zdm{A:ByteArray}{r:(Int×Bool)}(h:Qw A=some r):Zp prog J0 60 [(false,[.str A])] [(false,[(false,.int .i64 r.1)]),(false,[(false,.bool r.2)])]:=by
 refine fnk func60 rfl ?_;unfold Qw at h;simp only[fnS,f60,Zt,go_sem,seval];refine Zc h fun v1 g h=>Zd (Xq g)<|yA ?_;refine yB h (fun _ h=>?_) fun _ h=>?_;refine Zk h (fun i a st=>IV [(0,yM (.str A)),(4,yM (.int .i64 a)),(5,yL i)] [] st) [] [] yF yD ?_ ?_;rintro _ _ a ⟨_,_,_⟩ _ b d k h e;simp only[go_sem,seval,Zb]at d;obtain ⟨⟨l,_,_⟩,B⟩:=d;subst B;have m:=WF.slotS k l (j:=0) rfl;have:=ZrS b;have:=ZAg b;have:=Zm (Zxh b) m;simp only[*,go_sem,seval];refine yB h (fun _ h=>?_) fun _ h=>?_;replace h:=Zr h e;cases h;exact yD;refine yB h (fun _ h=>?_) fun _ h=>?_;replace h:=Zr h e;cases h;exact yD;exact yR h [];rintro a ⟨_,_,_⟩ f _ h;simp only[go_sem,seval,Zb]at f;obtain ⟨⟨_,_,_⟩,B⟩:=f;subst B;have:=ZE (A.size);simp only[*,go_sem,seval];refine Zc h fun _ o h=>Zd (ZaM o)<|yA ?_;refine yB h (fun _ h=>?_) fun _ h=>?_;iterate 3 (cases h;exact yD)
theorem ZpJ{A B:List ByteArray}{r:Bool}(h:Zeq A B=some r):Zp prog J0 195 [(false,[.sl 9 1 (A0 ZC A)]),(false,[.sl 9 1 (A0 ZC B)])] [(false,[(false,.bool r)])]:=by
 refine fnk func195 rfl ?_;unfold Zeq at h;simp only[fnS,f195,Zt,go_sem,seval];refine Zk h (fun i _ st=>IV [(0,yM (yV A)),(1,yM (yV B)),(5,yL i)] [] st) [] [] yF yD ?_ ?_;rintro _ _ ⟨⟩ ⟨_,_,_⟩ _ a b e h f;simp only[go_sem,seval,Zb]at b;obtain ⟨⟨g,_,_⟩,C⟩:=b;subst C;have k:=WF.slotL e g (j:=0) rfl;have:=ZH a;have:=ZI a;have:=Zm (ZG a) k;simp only[*,go_sem,seval];refine Zc h fun _ l h=>Zd (YN l)<|yA ?_;refine yB h (fun _ h=>?_) fun _ h=>?_;exact yR h [];replace h:=Zr h f;cases h;exact yD;rintro ⟨⟩ ⟨_,_,_⟩ d _ h;simp only[go_sem,seval,Zb]at d;obtain ⟨⟨_,_,_⟩,C⟩:=d;subst C;have:=ZE (A.length);cases h;exact yD
theorem ZjL{A:Zf}{r:List ByteArray}(h:ZaD A=some r):Zp prog J0 143 [(true,ZF A)] [(false,[(false,.sl 9 1 (A0 ZC r))])]:=by
 refine fnk func143 rfl ?_;unfold ZaD at h;simp only[fnS,f143,Zt,go_sem,seval];refine Zk h (fun i a st=>IV [(1,.bp 0 0),(3,.p false [.row 1]),(4,yL i)] [zF 87 (ZF A),.row 9 1 (A0 ZC a) 2] st) [] [0,32] yF yD ?_ ?_;rintro _ _ a ⟨_,_,_⟩ _ b d f h _;simp only[go_sem,seval,Zb]at d;obtain ⟨⟨_,_,_⟩,g,_,B⟩:=d;subst B;have k:=WF.boxL f g (j:=3) rfl;have:=ZH b;have:=ZI b;have:=Zm (ZG b) k;simp only[*,go_sem,seval];refine yB h (fun _ h=>?_) fun _ h=>?_;refine Zc h fun _ l h=>Zd (XX l)<|yA ?_;exact yR h [0,466];refine yB h (fun _ h=>?_) fun _ h=>?_;refine Zc h fun _ m h=>Zd (XX m)<|yA ?_;exact yR h [0,466];exact yR h [0,1];rintro a ⟨_,_,_⟩ e _ h;simp only[go_sem,seval,Zb]at e;obtain ⟨⟨_,_,_⟩,_,_,B⟩:=e;subst B;have:=ZE (A.thn.length);cases h;exact yD
theorem Zsz{A:Zf}{r:List ByteArray}(h:Zc7 A=some r):Zp prog J0 197 [(true,ZF A)] [(false,[(false,.sl 9 1 (A0 ZC r))])]:=by
 refine fnk func197 rfl ?_;unfold Zc7 at h;simp only[fnS,f197,Zt,go_sem,seval];refine Zk h (fun i a st=>IV [(1,.bp 0 0),(3,.p false [.row 1]),(4,yL i)] [zF 87 (ZF A),.row 9 1 (A0 ZC a) 2] st) [] [0,32] yF yD ?_ ?_;rintro _ _ a ⟨_,_,_⟩ _ b d f h _;simp only[go_sem,seval,Zb]at d;obtain ⟨⟨_,_,_⟩,g,_,B⟩:=d;subst B;have k:=WF.boxL f g (j:=2) rfl;have:=ZH b;have:=ZI b;have:=Zm (ZG b) k;simp only[*,go_sem,seval];refine yB h (fun _ h=>?_) fun _ h=>?_;refine Zc h fun _ l h=>Zd (XX l)<|yA ?_;exact yR h [0,466];refine yB h (fun _ h=>?_) fun _ h=>?_;refine Zc h fun _ m h=>Zd (XX m)<|yA ?_;exact yR h [0,466];exact yR h [0,1];rintro a ⟨_,_,_⟩ e _ h;simp only[go_sem,seval,Zb]at e;obtain ⟨⟨_,_,_⟩,_,_,B⟩:=e;subst B;have:=ZE (A.cond.length);cases h;exact yD
theorem Zk8{A:List Zh}{B:Zh}{r:Int}(h:Zel A B=some r):Zp prog J0 90 [(false,[.sl 109 3 (A0 ZJ A)]),(true,ZJ B)] [(false,[(false,.int .i64 r)])]:=by
 refine fnk func90 rfl ?_;unfold Zel at h;simp only[fnS,f90,Zt,go_sem,seval];refine Zk h (fun i _ st=>IV [(0,yM (zB A)),(3,.bp 0 0),(5,yL i)] [zF 109 (ZJ B)] st) [] [0] yF yD ?_ ?_;rintro _ _ ⟨⟩ ⟨_,_,_⟩ _ a b e h f;simp only[go_sem,seval,Zb]at b;obtain ⟨⟨g,_,_⟩,_,C⟩:=b;subst C;have k:=WF.slotL e g (j:=0) rfl;have:=ZH a;have:=ZI a;have:=Zm (ZG a) k;simp only[*,go_sem,seval];refine yB h (fun _ h=>?_) fun _ h=>?_;refine Zc h fun _ l h=>Zd (Zht l)<|yA ?_;refine yB h (fun _ h=>?_) fun _ h=>?_;refine Zc h fun _ m h=>Zd (Zht m)<|yA ?_;refine yB h (fun _ h=>?_) fun _ h=>?_;replace h:=Zr h f;cases h;exact yD;exact yR h [0];exact yR h [0];exact yR h [0];rintro ⟨⟩ ⟨_,_,_⟩ d _ h;simp only[go_sem,seval,Zb]at d;obtain ⟨⟨_,_,_⟩,_,C⟩:=d;subst C;have:=ZE (A.length);cases h;exact yD
theorem Zll{A:List Int}{B:Int}{r:Bool}(h:Zc6 A B=some r):Zp prog J0 216 [(false,[.sl 3 1 (A0 ZP A)]),(false,[.int .i64 B])] [(false,[(false,.bool r)])]:=by
 refine fnk func216 rfl ?_;unfold Zc6 at h;simp only[fnS,f216,Zt,go_sem,seval];refine Zk h (fun i _ st=>IV [(0,yM (yW A)),(1,yM (.int .i64 B)),(5,yL i)] [] st) [] [] yF yD ?_ ?_;rintro _ _ ⟨⟩ ⟨_,_,_⟩ _ a b f h d;simp only[go_sem,seval,Zb]at b;obtain ⟨⟨g,_,_⟩,C⟩:=b;subst C;have k:=WF.slotL f g (j:=0) rfl;have:=ZH a;have:=ZI a;have:=Zm (ZG a) k;simp only[*,go_sem,seval];refine Zc h fun _ l h=>Zd (Xq l)<|yA ?_;iterate 2 refine yB h (fun _ h=>?_) fun _ h=>?_
 obtain ⟨_,_,_,_,h⟩:=Zbl h;simp only[*,go_sem,seval];refine yB h (fun _ h=>?_) fun _ h=>?_;replace h:=Zr h d;cases h;exact yD;exact yR h [];exact yR h [];replace h:=Zr h d;cases h;exact yD;rintro ⟨⟩ ⟨_,_,_⟩ e _ h;simp only[go_sem,seval,Zb]at e;obtain ⟨⟨_,_,_⟩,C⟩:=e;subst C;have:=ZE (A.length);cases h;exact yD
theorem ZpL{a:Zl}{String_1:Int}{r:List Bool}(h:Zfi a String_1=some r):Zp prog J0 180 [(true,YY a),(false,[.int .i64 String_1])] [(false,[(false,.sl 4 1 (A0 Zhm r))])]:=by
 refine fnk func180 rfl ?_;unfold Zfi at h;simp only[fnS,f180,Zt,go_sem,seval];obtain ⟨_,h⟩:=Zs h;simp only[*,go_sem,seval];refine Ym h (fun s st=>match s with|(l,m,d)=>IV [(2,.bp 0 0),(5,.p false [.row 1]),(6,.p false [.row 2]),(7,yM (.int .i64 d))] [.box 53 [.c (.int .i64 a.nodes),.c (zB a.reasons)],.row 4 1 (A0 Zhm l) 2,.row 3 1 (A0 ZP m) 2] st) [] [0,64,112] yF yD ?_;rintro ⟨l,m,d⟩ ⟨_,_,_⟩ _ o _ h z;simp only[go_sem,seval,Zb]at o;obtain ⟨⟨_,_,_,_⟩,_,_,_,K⟩:=o;subst K;simp only[*,go_sem,seval];refine yB h (fun _ h=>?_) fun _ h=>?_;refine Zk h (fun i s st=>match s with|(e,f)=>IV [(2,.bp 0 0),(5,.p false [.row 1]),(6,.p false [.row 2]),(7,yM (.int .i64 d)),(8,yL i)] [.box 53 [.c (.int .i64 a.nodes),.c (zB a.reasons)],.row 4 1 (A0 Zhm e) 2,.row 3 1 (A0 ZP f) 2] st) [] [0,1,2] yF yD ?_ ?_;rintro A q ⟨e,f⟩ ⟨_,_,_⟩ _ g t B h _;simp only[go_sem,seval,Zb]at t
 obtain ⟨⟨_,_,_,_,_⟩,C,_,_,K⟩:=t;subst K;have D:=WF.boxL B C (j:=1) rfl;have:=ZH g;have:=ZI g;have:=Zm (ZG g) D;obtain ⟨_,h⟩:=Zs h;obtain ⟨_,_,h⟩:=Zn h;simp only[*,go_sem,seval];refine yB h (fun _ h=>?_) fun _ h=>?_;exact yR h [0,1,2];refine Zc h fun u E h=>Zd (ZmF E) ?_;obtain ⟨_,h⟩:=Zs h;simp only[*,go_sem,seval];refine Ym h (fun s st=>match s with|(v,w,k)=>IV [(2,.bp 0 0),(5,.p false [.row 1]),(6,.p false [.row 2]),(7,yM (.int .i64 d)),(8,yL A),(9,.p false [.row 3]),(10,yM (.int .i64 k))] [.box 53 [.c (.int .i64 a.nodes),.c (zB a.reasons)],.row 4 1 (A0 Zhm v) 2,.row 3 1 (A0 ZP w) 2,.row 3 1 (A0 ZP (u++q.outs)) 2] st) [] [0,1,2,467] yF yD ?_;rintro ⟨v,w,k⟩ ⟨_,_,_⟩ _ x _ h F;simp only[go_sem,seval,Zb]at x;obtain ⟨⟨_,_,_,_,_,_,_⟩,_,_,_,_,K⟩:=x;subst K;simp only[*,go_sem,seval];refine yB h (fun _ h=>?_) fun _ h=>?_;obtain ⟨_,h⟩:=Zs h;obtain ⟨G,H,h⟩:=Zn h
 have J:(A0 ZP u++A0 ZP q.outs)[(AC k)]?=some (ZP G):=by rw [<-List.map_append,AB,H];rfl
 obtain ⟨_,h⟩:=Zs h;obtain ⟨_,_,h⟩:=Zn h;simp only[*,go_sem,seval];refine yB h (fun _ h=>?_) fun _ h=>?_;exact yR h [0,1,2,3];obtain ⟨I,h⟩:=Zs h;try simp only[Nat.reduceLeDiff]at I
 simp only[*,go_sem,seval];exact yR h [0,1,404,3];replace h:=Zr h F;exact yR h [0,1,2];rintro ⟨e,f⟩ ⟨_,_,_⟩ y _ h;simp only[go_sem,seval,Zb]at y;obtain ⟨⟨_,_,_,_,_⟩,_,_,_,K⟩:=y;subst K;have:=ZE (a.reasons.length);simp only[*,go_sem,seval];exact yR h [0,1,2];replace h:=Zr h z;cases h;exact yD
theorem ZjA{b:Zl}{e:List Int}{f:Int}{d:List Int}{g:Int}{r:List Int}(h:ZcU b e f d g=some r):Zp prog J0 130 [(true,YY b),(false,[.sl 3 1 (A0 ZP e)]),(false,[.int .i64 f]),(false,[.sl 3 1 (A0 ZP d)]),(false,[.int .i64 g])] [(false,[(false,.sl 3 1 (A0 ZP r))])]:=by
 refine fnk func130 rfl ?_;unfold ZcU at h;simp only[fnS,f130,Zt,go_sem,seval];refine Ym h (fun s st=>match s with|(l,k)=>IV [(1,yM (yW e)),(2,yM (.int .i64 f)),(3,yM (yW d)),(4,yM (.int .i64 g)),(5,.bp 0 0),(11,.p false [.row 1]),(12,yM (.int .i64 k))] [.box 53 [.c (.int .i64 b.nodes),.c (zB b.reasons)],.row 3 1 (A0 ZP l) 2] st) [] [0,32] yF yD ?_;rintro ⟨l,k⟩ ⟨_,_,_⟩ _ o _ h v;simp only[go_sem,seval,Zb]at o;obtain ⟨⟨_,_,_,_,_,_,_⟩,_,_,D⟩:=o;subst D;simp only[*,go_sem,seval];refine yB h (fun _ h=>?_) fun _ h=>?_;obtain ⟨_,_,_,_,h⟩:=Zbl h;simp only[*,go_sem,seval];refine yB h (fun _ h=>?_) fun _ h=>?_;exact yR h [0,1];obtain ⟨q,_,_,_,h⟩:=Zbl h;simp only[*,go_sem,seval];refine yB h (fun _ h=>?_) fun _ h=>?_;exact yR h [0,1]
 refine Zk h (fun i _ st=>IV [(1,yM (yW e)),(2,yM (.int .i64 f)),(3,yM (yW d)),(4,yM (.int .i64 g)),(5,.bp 0 0),(11,.p false [.row 1]),(12,yM (.int .i64 k)),(13,yL i),(29,yM (yW d)),(30,yM (.int .i64 k)),(32,yM (.int .i64 q)),(33,yM (.bool (decide (0<=q))))] [.box 53 [.c (.int .i64 b.nodes),.c (zB b.reasons)],.row 3 1 (A0 ZP l) 2] st) [] [0,1] yF yD ?_ ?_;rintro _ _ ⟨⟩ ⟨_,_,_⟩ _ m t w h x;simp only[go_sem,seval,Zb]at t;obtain ⟨⟨_,_,_,_,_,_,_,_,_,_,_,_⟩,y,_,D⟩:=t;subst D;have z:=WF.boxL w y (j:=1) rfl;have:=ZH m;have:=ZI m;have:=Zm (ZG m) z;simp only[*,go_sem,seval];refine yB h (fun _ h=>?_) fun _ h=>?_;refine Zc h fun _ A h=>Zd (Zig A)<|yA ?_;refine yB h (fun _ h=>?_) fun _ h=>?_;refine Zc h fun _ B h=>Zd (ZkY B)<|yA ?_;refine yB h (fun _ h=>?_) fun _ h=>?_;obtain ⟨C,h⟩:=Zs h;try simp only[Nat.reduceLeDiff]at C
 replace h:=Zr h x;simp only[*,go_sem,seval];exact yR h [0,514];exact yR h [0,1];exact yR h [0,1];exact yR h [0,1];rintro ⟨⟩ ⟨_,_,_⟩ u _ h;simp only[go_sem,seval,Zb]at u;obtain ⟨⟨_,_,_,_,_,_,_,_,_,_,_,_⟩,_,_,D⟩:=u;subst D;have:=ZE (b.reasons.length);simp only[*,go_sem,seval];exact yR h [0,1];replace h:=Zr h v;cases h;exact yD
theorem ZR{B:Zi}{A:Int}{r:(Int×Zi)}(h:ZL B A=some r):Ys prog J0 JF0 38 (.box 77 (ZS B)) [(false,[.int .i64 A])] [(false,[(false,.int .i64 r.1)])] (.box 77 (ZS r.2)):=by
 refine fnh func38 rfl ?_;unfold ZL at h;simp only[fnH,f38,YF,YE,Yh,go_sem,seval];refine yB h (fun _ h=>?_) fun _ h=>?_;cases h;exact yD;refine yB h (fun _ h=>?_) fun _ h=>?_;obtain ⟨v1,a,h⟩:=Zn h;refine ZA (Zfv a) ?_;obtain ⟨_,h⟩:=Zs h;cases h;exact yD;obtain ⟨_,b,h⟩:=Zn h;refine ZA (Zfv b)<|yA ?_;obtain ⟨_,c,h⟩:=Zn h;refine ZA (Zfv c)<|yA ?_;obtain ⟨_,d,h⟩:=Zn h;refine ZA (Zfv d) ?_;obtain ⟨_,h⟩:=Zs h;cases h;exact yD
theorem ZrM{A:ByteArray}{r:(ByteArray×(List ByteArray)×Bool)}(h:ZcN A=some r):Zp prog J0 284 [(false,[.str A])] [(false,[(false,.str r.1)]),(false,[(false,.sl 9 1 (A0 ZC r.2.1))]),(false,[(false,.bool r.2.2)])]:=by
 refine fnk func284 rfl ?_;unfold ZcN at h;have a:ZB ⟨#[40]⟩=true:=by decide
 have b:ZB ⟨#[44]⟩=true:=by decide
 have c:ZB ⟨#[]⟩=true:=by decide
 simp only[fnS,f284,Zt,go_sem,seval,a,b,c];refine Zc h fun v1 d h=>Zd (Zaa d)<|yA ?_;refine yB h (fun _ h=>?_) fun _ h=>?_;cases h;exact yD;obtain ⟨_,h⟩:=Zs h;obtain ⟨_,e,h⟩:=Zn h;try simp only[seval]at e
 simp only[*,go_sem,seval];refine yB h (fun _ h=>?_) fun _ h=>?_;cases h;exact yD;obtain ⟨_,_,_,h⟩:=Zuz h;simp only[*,go_sem,seval];refine yB h (fun _ h=>?_) fun _ h=>?_;cases h;exact yD;obtain ⟨_,h⟩:=Zs h;simp only[*,go_sem,seval];refine yB h (fun _ h=>?_) fun _ h=>?_;obtain ⟨_,h⟩:=Zs h;obtain ⟨_,f,h⟩:=Zn h;try simp only[seval]at f
 cases h;exact yD;obtain ⟨_,h⟩:=Zs h;obtain ⟨_,g,h⟩:=Zn h;try simp only[seval]at g
 simp only[*,go_sem,seval];refine Zc h fun _ i h=>Zd (Zaa i) ?_;cases h;exact yD
theorem Zdp{B A:Za}{r:Bool}(h:Zad B A=some r):Zp prog J0 49 [(true,Zq B),(true,Zq A)] [(false,[(false,.bool r)])]:=by
 refine fnk func49 rfl ?_;unfold Zad at h;simp only[fnS,f49,Zt,go_sem,seval];refine yB h (fun _ h=>?_) fun _ h=>?_;refine Zc h fun v1 a h=>Zd (ZoN a) ?_;iterate 2 (cases h;exact yD)
theorem Zh4{A:ByteArray}{r:Bool}(h:ZeQ A=some r):Zp prog J0 61 [(false,[.str A])] [(false,[(false,.bool r)])]:=by
 refine fnk func61 rfl ?_;unfold ZeQ at h;simp only[fnS,f61,Zt,go_sem,seval];refine Zc h fun v1 a h=>Zd (QU a)<|yA ?_;refine yB h (fun _ h=>?_) fun _ h=>?_;obtain ⟨_,_,b,h⟩:=Zuz h;try simp only[seval]at b
 iterate 2 (cases h;exact yD)
theorem ZeM{A:ByteArray}{r:Bool}(h:Zd5 A=some r):Zp prog J0 119 [(false,[.str A])] [(false,[(false,.bool r)])]:=by
 refine fnk func119 rfl ?_;unfold Zd5 at h;simp only[fnS,f119,Zt,go_sem,seval];refine yB h (fun _ h=>?_) fun _ h=>?_;obtain ⟨_,_,a,h⟩:=Zuz h;try simp only[seval]at a
 simp only[*,go_sem,seval];refine yB h (fun _ h=>?_) fun _ h=>?_;obtain ⟨_,h⟩:=Zs h;simp only[*,go_sem,seval];refine Zc h fun _ b h=>Zd (QU b) ?_;iterate 3 (cases h;exact yD)
theorem Xi{A r:Za}(h:YZ A=some r):Zp prog J0 30 [(true,Zq A)] [(true,[(false,.str r.rel),(false,.sl 9 1 (A0 ZC r.args))])]:=by
 refine fnk func30 rfl ?_;unfold YZ at h;simp only[fnS,f30,Zt,go_sem,seval];refine Zc h fun v1 a h=>Zd (Zii a) ?_;cases h;exact yD
theorem Zdq{A:ByteArray}{r:(Int×Bool)}(h:ZaR A=some r):Zp prog J0 132 [(false,[.str A])] [(false,[(false,.int .i64 r.1)]),(false,[(false,.bool r.2)])]:=by
 refine fnk func132 rfl ?_;unfold ZaR at h;simp only[fnS,f132,Zt,go_sem,seval];iterate 2 ((refine Ze h (fun _ h=>?_) fun _ h=>?_<;>try simp only[*,go_sem,seval]);cases h;simp only[*,go_sem,seval])
 refine Zc h fun v1 a h=>Zd (Zzn a)<|yA ?_;iterate 2 refine yB h (fun _ h=>?_) fun _ h=>?_
 cases h;exact yD;refine yB h (fun _ h=>?_) fun _ h=>?_;cases h;exact yD;refine Zc h fun _ b h=>Zd (ZnG b)<|yA ?_;refine yB h (fun _ h=>?_) fun _ h=>?_;iterate 3 (cases h;exact yD)
theorem Zsn{A:Zu}{r:List BYT}(h:Zja A=some r):Zp prog J0 236 [(true,ZT A)] [(false,[(false,.sl 9 1 (A0 ZC r))])]:=by
 refine fnk func236 rfl ?_;unfold Zja at h;simp only[fnS,f236,Zt,go_sem,seval];refine Zc h fun v1 a h=>Zd (Zii a) ?_;obtain ⟨b,h⟩:=Zs h;try simp only[Nat.reduceLeDiff]at b
 cases h;exact yD
theorem Zjx{A:Zf}{r:List ByteArray}(h:Q7 A=some r):Zp prog J0 201 [(true,ZF A)] [(false,[(false,.sl 9 1 (A0 ZC r))])]:=by
 refine fnk func201 rfl ?_;unfold Q7 at h;simp only[fnS,f201,Zt,go_sem,seval];refine Zk h (fun i a st=>IV [(3,.p false [.row 0]),(7,yM (zA A.thn)),(8,yL A.thn.length),(9,yL i)] [.row 9 1 (A0 ZC a) 2] st) [(false,3,0)] [112] yF yD ?_ ?_;rintro _ _ a ⟨_,_,_⟩ _ b d f h _;simp only[go_sem,seval,Zb]at d;obtain ⟨⟨_,g,_,_⟩,_,B⟩:=d;subst B;have k:=WF.slotL f g (j:=0) rfl;have:=ZH b;have:=ZI b;have:=Zm (ZG b) k;simp only[*,go_sem,seval];refine yB h (fun _ h=>?_) fun _ h=>?_;obtain ⟨l,h⟩:=Zs h;try simp only[Nat.reduceLeDiff]at l
 simp only[*,go_sem,seval];exact yR h [289];refine yB h (fun _ h=>?_) fun _ h=>?_;obtain ⟨m,h⟩:=Zs h;try simp only[Nat.reduceLeDiff]at m
 simp only[*,go_sem,seval];exact yR h [289];exact yR h [0];rintro a ⟨_,_,_⟩ e _ h;simp only[go_sem,seval,Zb]at e;obtain ⟨⟨_,_,_,_⟩,_,B⟩:=e;subst B;have:=ZE (A.thn.length);simp only[*,go_sem,seval];refine Zc h fun _ o h=>Zd (QI o) ?_;cases h;exact yD
end
section
theorem Qq{A:List Za}{B:Za}{r:Int}(h:Xs A B=some r):Zp prog J0 26 [(false,[.sl 35 2 (A0 Zq A)]),(true,Zq B)] [(false,[(false,.int .i64 r)])]:=by
 refine fnk func26 rfl ?_;unfold Xs at h;simp only[fnS,f26,Zt,go_sem,seval];refine Zk h (fun i _ st=>IV [(0,yM (yU A)),(3,.bp 0 0),(5,yL i)] [zF 35 (Zq B)] st) [] [0] yF yD ?_ ?_;rintro _ _ ⟨⟩ ⟨_,_,_⟩ _ a b e h f;simp only[go_sem,seval,Zb]at b;obtain ⟨⟨g,_,_⟩,_,C⟩:=b;subst C;have k:=WF.slotL e g (j:=0) rfl;have:=ZH a;have:=ZI a;have:=Zm (ZG a) k;simp only[*,go_sem,seval];refine Zc h fun _ l h=>Zd (ZfA l)<|yA ?_;refine yB h (fun _ h=>?_) fun _ h=>?_;replace h:=Zr h f;cases h;exact yD;exact yR h [0];rintro ⟨⟩ ⟨_,_,_⟩ d _ h;simp only[go_sem,seval,Zb]at d;obtain ⟨⟨_,_,_⟩,_,C⟩:=d;subst C;have:=ZE (A.length);cases h;exact yD
theorem Q9{A:ByteArray}{r:Bool}(h:Zas A=some r):Zp prog J0 123 [(false,[.str A])] [(false,[(false,.bool r)])]:=by
 refine fnk func123 rfl ?_;unfold Zas at h;simp only[fnS,f123,Zt,go_sem,seval];refine yB h (fun _ h=>?_) fun _ h=>?_;obtain ⟨_,_,a,h⟩:=Zuz h;try simp only[seval]at a
 simp only[*,go_sem,seval];refine yB h (fun _ h=>?_) fun _ h=>?_;obtain ⟨_,h⟩:=Zs h;simp only[*,go_sem,seval];refine Zc h fun _ b h=>Zd (QV b) ?_;iterate 3 (cases h;exact yD)
theorem Zic{A:ByteArray}{r:Bool}(h:Zfe A=some r):Zp prog J0 122 [(false,[.str A])] [(false,[(false,.bool r)])]:=by
 refine fnk func122 rfl ?_;unfold Zfe at h;simp only[fnS,f122,Zt,go_sem,seval];refine Zc h fun v1 a h=>Zd (QV a)<|yA ?_;refine yB h (fun _ h=>?_) fun _ h=>?_;obtain ⟨_,_,b,h⟩:=Zuz h;try simp only[seval]at b
 simp only[*,go_sem,seval];refine Zc h fun _ c h=>Zd (Xq c) ?_;iterate 2 (cases h;exact yD)
theorem ZfV{A r:List Za}(h:ZbL A=some r):Zp prog J0 105 [(false,[.sl 35 2 (A0 Zq A)])] [(false,[(false,.sl 35 2 (A0 Zq r))])]:=by
 refine fnk func105 rfl ?_;unfold ZbL at h;simp only[fnS,f105,Zt,go_sem,seval];refine Zk h (fun i a st=>IV [(0,yM (yU A)),(3,.p false [.row 0]),(4,yL i)] [.row 35 2 (A0 Zq a) 2] st) [] [16] yF yD ?_ ?_;rintro _ _ a ⟨_,_,_⟩ _ b d f h _;simp only[go_sem,seval,Zb]at d;obtain ⟨⟨g,_,_⟩,_,B⟩:=d;subst B;have k:=WF.slotL f g (j:=0) rfl;have:=ZH b;have:=ZI b;have:=Zm (ZG b) k;simp only[*,go_sem,seval];refine Zc h fun _ l h=>Zd (Y7 l) ?_;obtain ⟨m,h⟩:=Zs h;try simp only[Nat.reduceLeDiff]at m
 simp only[*,go_sem,seval];exact yR h [177];rintro a ⟨_,_,_⟩ e _ h;simp only[go_sem,seval,Zb]at e;obtain ⟨⟨_,_,_⟩,_,B⟩:=e;subst B;have:=ZE (A.length);cases h;exact yD
theorem Zfw{B A:ByteArray}{r:Int}(h:XZ B A=some r):Zp prog J0 32 [(false,[.str B]),(false,[.str A])] [(false,[(false,.int .i64 r)])]:=by
 refine fnk func32 rfl ?_;unfold XZ at h;simp only[fnS,f32,Zt,go_sem,seval];refine Zc h fun v1 a h=>Zd (Zdm a)<|yA ?_;refine Zc h fun _ b h=>Zd (Zdm b)<|yA ?_;iterate 3 refine yB h (fun _ h=>?_) fun _ h=>?_
 cases h;exact yD;refine yB h (fun _ h=>?_) fun _ h=>?_;iterate 3 (cases h;exact yD)
 refine yB h (fun _ h=>?_) fun _ h=>?_;cases h;exact yD;refine Zc h fun _ c h=>Zd (Zpj c) ?_;cases h;exact yD
theorem Zjq{A:BYT}{r:Bool}(h:ZeT A=some r):Zp prog J0 238 [(false,[.str A])] [(false,[(false,.bool r)])]:=by
 refine fnk func238 rfl ?_;unfold ZeT at h;simp only[fnS,f238,Zt,go_sem,seval];refine Zc h fun v1 a h=>Zd (Zdm a) ?_;cases h;exact yD
theorem ZmX{a:List Zf}{String_1 b:ByteArray}{r:Bool}(h:ZcJ a String_1 b=some r):Zp prog J0 144 [(false,[.sl 87 4 (A0 ZF a)]),(false,[.str String_1]),(false,[.str b])] [(false,[(false,.bool r)])]:=by
 refine fnk func144 rfl ?_;unfold ZcJ at h;simp only[fnS,f144,Zt,go_sem,seval];refine Ym h (fun s st=>match s with|(m,e)=>IV [(0,yM (yX a)),(2,yM (.str b)),(7,.p false [.row 0]),(8,yM (.int .i64 e))] [.row 9 1 (A0 ZC m) 2] st) [] [32] yF yD ?_;rintro ⟨m,e⟩ ⟨_,_,_⟩ _ o _ h q;simp only[go_sem,seval,Zb]at o;obtain ⟨⟨_,_,_,_⟩,_,M⟩:=o;subst M;simp only[*,go_sem,seval];refine yB h (fun _ h=>?_) fun _ h=>?_;refine Zk h (fun i f st=>IV [(0,yM (yX a)),(2,yM (.str b)),(7,.p false [.row 0]),(8,yM (.int .i64 e)),(9,yL i)] [.row 9 1 (A0 ZC f) 2] st) [] [0] yF yD ?_ ?_;rintro y _ f ⟨_,_,_⟩ _ g t z h A;simp only[go_sem,seval,Zb]at t;obtain ⟨⟨B,_,_,_,_⟩,_,M⟩:=t;subst M;have C:=WF.slotL z B (j:=0) rfl;have:=ZH g;have:=ZI g;have:=Zm (ZG g) C;simp only[*,go_sem,seval];refine Zc h fun _ D h=>Zd (ZjL D) ?_;obtain ⟨_,h⟩:=Zs h;obtain ⟨_,_,h⟩:=Zn h;simp only[*,go_sem,seval]
 refine Zc h fun _ E h=>Zd (YN E)<|yA ?_;refine yB h (fun _ h=>?_) fun _ h=>?_;refine Zc h fun u F h=>Zd (Zsz F)<|yA ?_;refine Zc h fun _ G h=>Zd (YN G)<|yA ?_;refine yB h (fun _ h=>?_) fun _ h=>?_;replace h:=Zr h A;replace h:=Zr h q;cases h;exact yD;refine Zk h (fun i k st=>IV [(0,yM (yX a)),(2,yM (.str b)),(7,.p false [.row 0]),(8,yM (.int .i64 e)),(9,yL y),(10,.p false [.row 1]),(11,yL i)] [.row 9 1 (A0 ZC k) 2,.row 9 1 (A0 ZC u) 2] st) [] [0,305] yF yD ?_ ?_;rintro _ _ k ⟨_,_,_⟩ _ l v H h _;simp only[go_sem,seval,Zb]at v;obtain ⟨⟨_,_,_,_,_,_,_⟩,_,I,M⟩:=v;subst M;have J:=WF.rowL H I;have:=ZH l;have:=ZI l;have:=Zm (ZG l) J;simp only[*,go_sem,seval];refine Zc h fun _ K h=>Zd (YN K)<|yA ?_;refine yB h (fun _ h=>?_) fun _ h=>?_;exact yR h [0,1];obtain ⟨L,h⟩:=Zs h;try simp only[Nat.reduceLeDiff]at L
 simp only[*,go_sem,seval];exact yR h [274,1];rintro k ⟨_,_,_⟩ w _ h;simp only[go_sem,seval,Zb]at w;obtain ⟨⟨_,_,_,_,_,_,_⟩,_,_,M⟩:=w;subst M;have:=ZE (u.length);simp only[*,go_sem,seval];exact yR h [0];exact yR h [0];rintro f ⟨_,_,_⟩ x _ h;simp only[go_sem,seval,Zb]at x;obtain ⟨⟨_,_,_,_,_⟩,_,M⟩:=x;subst M;have:=ZE (a.length);simp only[*,go_sem,seval];exact yR h [0];replace h:=Zr h q;cases h;exact yD
theorem ZoF{A:Zl}{r:Bool}(h:ZdK A=some r):Zp prog J0 179 [(true,YY A)] [(false,[(false,.bool r)])]:=by
 refine fnk func179 rfl ?_;unfold ZdK at h;simp only[fnS,f179,Zt,go_sem,seval];refine Zk h (fun i _ st=>IV [(1,.bp 0 0),(3,yL i)] [.box 53 [.c (.int .i64 A.nodes),.c (zB A.reasons)]] st) [] [0] yF yD ?_ ?_;rintro _ _ ⟨⟩ ⟨_,_,_⟩ _ a b e h f;simp only[go_sem,seval,Zb]at b;obtain ⟨⟨_,_⟩,g,B⟩:=b;subst B;have k:=WF.boxL e g (j:=1) rfl;have:=ZH a;have:=ZI a;have:=Zm (ZG a) k;simp only[*,go_sem,seval];refine Zc h fun _ l h=>Zd (Xq l)<|yA ?_;refine yB h (fun _ h=>?_) fun _ h=>?_;refine Zc h fun _ m h=>Zd (Zll m)<|yA ?_;refine yB h (fun _ h=>?_) fun _ h=>?_;refine Zc h fun _ o h=>Zd (Zll o)<|yA ?_;refine yB h (fun _ h=>?_) fun _ h=>?_;refine ⟨_,[],[0],(A9 h).symm,yF,?_⟩;iterate 3 (simp only[*,go_sem,seval];replace h:=Zr h f;cases h)
 simp only[*,go_sem,seval];rintro ⟨⟩ ⟨_,_,_⟩ d _ h;simp only[go_sem,seval,Zb]at d;obtain ⟨⟨_,_⟩,_,B⟩:=d;subst B;have:=ZE (A.reasons.length);simp only[*,go_sem,seval];refine Zc h fun _ q h=>Zd (Xq q)<|yA ?_;refine yB h (fun _ h=>?_) fun _ h=>?_;iterate 2 (cases h;exact yD)
theorem ZdS{B:Zi}{A:Int}{r:(Bool×Zi)}(h:ZaI B A=some r):Ys prog J0 JF0 37 (.box 77 (ZS B)) [(false,[.int .i64 A])] [(false,[(false,.bool r.1)])] (.box 77 (ZS r.2)):=by
 refine fnh func37 rfl ?_;unfold ZaI at h;simp only[fnH,f37,YF,YE,Yh,go_sem,seval];obtain ⟨v1,a,h⟩:=Zn h;refine ZA (ZR a) ?_;cases h;exact yD
theorem ZnZ{A:Zi}{r:(BYT×Int×Zi)}(h:Zi5 A=some r):Ys prog J0 JF0 108 (.box 77 (ZS A)) [] [(false,[(false,.str r.1)]),(false,[(false,.int .i64 r.2.1)])] (.box 77 (ZS r.2.2)):=by
 refine fnh func108 rfl ?_;unfold Zi5 at h;have a:ZB ⟨#[111,110]⟩=true:=by decide
 have b:ZB ⟨#[112]⟩=true:=by decide
 have c:ZB ⟨#[113]⟩=true:=by decide
 have d:ZB ⟨#[122]⟩=true:=by decide
 have e:ZB ⟨#[97,116]⟩=true:=by decide
 have f:ZB ⟨#[]⟩=true:=by decide
 simp only[fnH,f108,YF,YE,Yh,go_sem,seval,a,b,c,d,e,f];obtain ⟨v1,g,h⟩:=Zn h;refine ZA (ZR g) ?_;obtain ⟨i,h⟩:=Zs h;try simp only[seval]at i
 obtain ⟨j,k,h⟩:=Zn h;have l:(A0 ZC [(⟨#[111,110]⟩),(⟨#[111,110]⟩),(⟨#[97,116]⟩),(⟨#[112]⟩),(⟨#[113]⟩),(⟨#[122]⟩)])[(AC v1.1)]?=some (ZC j):=by rw [AB,k];rfl
 simp only[AQ,AS,Zkx]at l;obtain ⟨m,o,h⟩:=Zn h;have p:(A0 ZP [2,2,2,1,1,0])[(AC v1.1)]?=some (ZP m):=by rw [AB,o];rfl
 simp only[AQ,AS,Zw8]at p;cases h;exact yD
theorem ZaU{B:Zi}{A:List BYT}{r:(BYT×Zi)}(h:QD B A=some r):Ys prog J0 JF0 41 (.box 77 (ZS B)) [(false,[.sl 9 1 (A0 ZC A)])] [(false,[(false,.str r.1)])] (.box 77 (ZS r.2)):=by
 refine fnh func41 rfl ?_;unfold QD at h;have a:ZB ⟨#[]⟩=true:=by decide
 simp only[fnH,f41,YF,YE,Yh,go_sem,seval,a];obtain ⟨v1,b,h⟩:=Zn h;refine ZA (ZR b) ?_;obtain ⟨_,_,_,_,h⟩:=Zbl h;cases h;exact yD
theorem Q2{B:Zi}{A:List Int}{r:(Int×Zi)}(h:QE B A=some r):Ys prog J0 JF0 43 (.box 77 (ZS B)) [(false,[.sl 3 1 (A0 ZP A)])] [(false,[(false,.int .i64 r.1)])] (.box 77 (ZS r.2)):=by
 refine fnh func43 rfl ?_;unfold QE at h;simp only[fnH,f43,YF,YE,Yh,go_sem,seval];obtain ⟨v1,a,h⟩:=Zn h;refine ZA (ZR a) ?_;obtain ⟨_,_,_,_,h⟩:=Zbl h;cases h;exact yD
theorem Zp8{A:List Zz}{B:Za}{r:Int}(h:ZaZ A B=some r):Zp prog J0 69 [(false,[.sl 38 4 (A0 XP A)]),(true,Zq B)] [(false,[(false,.int .i64 r)])]:=by
 refine fnk func69 rfl ?_;unfold ZaZ at h;simp only[fnS,f69,Zt,go_sem,seval];refine Zk h (fun i _ st=>IV [(0,yM (zC A)),(3,.bp 0 0),(5,yL i)] [zF 35 (Zq B)] st) [] [0] yF yD ?_ ?_;rintro _ _ ⟨⟩ ⟨_,_,_⟩ _ a b e h f;simp only[go_sem,seval,Zb]at b;obtain ⟨⟨g,_,_⟩,_,C⟩:=b;subst C;have k:=WF.slotL e g (j:=0) rfl;have:=ZH a;have:=ZI a;have:=Zm (ZG a) k;simp only[*,go_sem,seval];refine Zc h fun _ l h=>Zd (ZfA l)<|yA ?_;refine yB h (fun _ h=>?_) fun _ h=>?_;replace h:=Zr h f;cases h;exact yD;exact yR h [0];rintro ⟨⟩ ⟨_,_,_⟩ d _ h;simp only[go_sem,seval,Zb]at d;obtain ⟨⟨_,_,_⟩,_,C⟩:=d;subst C;have:=ZE (A.length);cases h;exact yD
theorem Zsj{A r:List Zz}(h:Zgt A=some r):Zp prog J0 42 [(false,[.sl 38 4 (A0 XP A)])] [(false,[(false,.sl 38 4 (A0 XP r))])]:=by
 refine fnk func42 rfl ?_;unfold Zgt at h;simp only[fnS,f42,Zt,go_sem,seval];refine Zk h (fun i a st=>IV [(0,yM (zC A)),(3,.p false [.row 0]),(4,yL i)] [.row 38 4 (A0 XP a) 2] st) [] [16] yF yD ?_ ?_;rintro _ _ a ⟨_,_,_⟩ _ b d f h _;simp only[go_sem,seval,Zb]at d;obtain ⟨⟨g,_,_⟩,_,B⟩:=d;subst B;have k:=WF.slotL f g (j:=0) rfl;have:=ZH b;have:=ZI b;have:=Zm (ZG b) k;simp only[*,go_sem,seval];refine Zc h fun _ l h=>Zd (Y7 l)<|yA ?_;refine Zc h fun _ m h=>Zd (ZmF m) ?_;obtain ⟨o,h⟩:=Zs h;try simp only[Nat.reduceLeDiff]at o
 simp only[*,go_sem,seval];exact yR h [385];rintro a ⟨_,_,_⟩ e _ h;simp only[go_sem,seval,Zb]at e;obtain ⟨⟨_,_,_⟩,_,B⟩:=e;subst B;have:=ZE (A.length);cases h;exact yD
theorem Zap{A:List Za}{B:Za}{r:Int}(h:Yl A B=some r):Zp prog J0 28 [(false,[.sl 35 2 (A0 Zq A)]),(true,Zq B)] [(false,[(false,.int .i64 r)])]:=by
 refine fnk func28 rfl ?_;unfold Yl at h;simp only[fnS,f28,Zt,go_sem,seval];refine Zk h (fun i _ st=>IV [(3,.bp 0 0),(7,yM (yU A)),(8,yL A.length),(9,yL i)] [zF 35 (Zq B)] st) [] [0] yF yD ?_ ?_;rintro _ _ ⟨⟩ ⟨_,_,_⟩ _ a b e h f;simp only[go_sem,seval,Zb]at b;obtain ⟨⟨_,g,_,_⟩,_,C⟩:=b;subst C;have k:=WF.slotL e g (j:=0) rfl;have:=ZH a;have:=ZI a;have:=Zm (ZG a) k;simp only[*,go_sem,seval];refine Zc h fun _ l h=>Zd (Zdp l)<|yA ?_;refine yB h (fun _ h=>?_) fun _ h=>?_;replace h:=Zr h f;cases h;exact yD;exact yR h [0];rintro ⟨⟩ ⟨_,_,_⟩ d _ h;simp only[go_sem,seval,Zb]at d;obtain ⟨⟨_,_,_,_⟩,_,C⟩:=d;subst C;have:=ZE (A.length);cases h;exact yD
theorem Za0{A:ByteArray}{r:Bool}(h:ZaT A=some r):Zp prog J0 118 [(false,[.str A])] [(false,[(false,.bool r)])]:=by
 refine fnk func118 rfl ?_;unfold ZaT at h;simp only[fnS,f118,Zt,go_sem,seval];refine Zc h fun v1 a h=>Zd (QU a)<|yA ?_;refine yB h (fun _ h=>?_) fun _ h=>?_;cases h;exact yD;refine Zc h fun _ b h=>Zd (ZeM b) ?_;cases h;exact yD
theorem ZaN{A:List Zx}{r:Bool}(h:Qb A=some r):Zp prog J0 78 [(false,[.sl 149 2 (A0 Yi A)])] [(false,[(false,.bool r)])]:=by
 refine fnk func78 rfl ?_;unfold Qb at h;simp only[fnS,f78,Zt,go_sem,seval];refine yB h (fun _ h=>?_) fun _ h=>?_;cases h;exact yD;refine Zk h (fun i _ st=>IV [(0,yM (yZ A)),(8,yM (yZ A)),(9,yL A.length),(10,yL i)] [] st) [] [] yF yD ?_ ?_;rintro _ _ ⟨⟩ ⟨_,_,_⟩ _ a b f h d;simp only[go_sem,seval,Zb]at b;obtain ⟨⟨g,_,_,_⟩,B⟩:=b;subst B;have k:=WF.slotL f g (j:=0) rfl;have:=ZH a;have:=ZI a;have:=Zm (ZG a) k;simp only[*,go_sem,seval];refine Zc h fun _ l h=>Zd (ZeM l)<|yA ?_;refine yB h (fun _ h=>?_) fun _ h=>?_;refine Zc h fun _ m h=>Zd (QU m)<|yA ?_;iterate 2 refine yB h (fun _ h=>?_) fun _ h=>?_
 obtain ⟨_,_,_,_,h⟩:=Zbl h;simp only[*,go_sem,seval];refine yB h (fun _ h=>?_) fun _ h=>?_;exact yR h [];replace h:=Zr h d;cases h;exact yD;refine ⟨_,[],[],(A9 h).symm,yF,?_⟩;iterate 2 (simp only[*,go_sem,seval];replace h:=Zr h d;cases h)
 simp only[*,go_sem,seval];rintro ⟨⟩ ⟨_,_,_⟩ e _ h;simp only[go_sem,seval,Zb]at e;obtain ⟨⟨_,_,_,_⟩,B⟩:=e;subst B;have:=ZE (A.length);cases h;exact yD
theorem Zea{B:List Zx}{A:ByteArray}{r:(ByteArray×Bool)}(h:Zb0 B A=some r):Zp prog J0 79 [(false,[.sl 149 2 (A0 Yi B)]),(false,[.str A])] [(false,[(false,.str r.1)]),(false,[(false,.bool r.2)])]:=by
 refine fnk func79 rfl ?_;unfold Zb0 at h;have e:ZB ⟨#[]⟩=true:=by decide
 simp only[fnS,f79,Zt,go_sem,seval,e];refine Zc h fun v1 f h=>Zd (QU f)<|yA ?_;refine yB h (fun _ h=>?_) fun _ h=>?_;cases h;exact yD;refine Zc h fun _ g h=>Zd (ZeM g)<|yA ?_;refine yB h (fun _ h=>?_) fun _ h=>?_;refine Zk h (fun i _ st=>IV [(1,yM (.str A)),(14,yM (yZ B)),(15,yL B.length),(16,yL i)] [] st) [] [] yF yD ?_ ?_;rintro _ _ ⟨⟩ ⟨_,_,_⟩ _ a b k h l;simp only[go_sem,seval,Zb]at b;obtain ⟨⟨_,m,_,_⟩,C⟩:=b;subst C;have o:=WF.slotL k m (j:=0) rfl;have:=ZH a;have:=ZI a;have:=Zm (ZG a) o;simp only[*,go_sem,seval];refine yB h (fun _ h=>?_) fun _ h=>?_;replace h:=Zr h l;cases h;exact yD;exact yR h [];rintro ⟨⟩ ⟨_,_,_⟩ d _ h;simp only[go_sem,seval,Zb]at d;obtain ⟨⟨_,_,_,_⟩,C⟩:=d;subst C;have:=ZE (B.length);iterate 2 (cases h;exact yD)
theorem ZkS{B A:ByteArray}{r:Int}(h:Zax B A=some r):Zp prog J0 94 [(false,[.str B]),(false,[.str A])] [(false,[(false,.int .i64 r)])]:=by
 refine fnk func94 rfl ?_;unfold Zax at h;simp only[fnS,f94,Zt,go_sem,seval];refine Zc h fun v1 a h=>Zd (Zdq a)<|yA ?_;refine Zc h fun _ b h=>Zd (Zdq b)<|yA ?_;iterate 2 refine yB h (fun _ h=>?_) fun _ h=>?_
 refine Zc h fun _ c h=>Zd (Zc9 c) ?_;iterate 2 (cases h;exact yD)
 refine yB h (fun _ h=>?_) fun _ h=>?_;cases h;exact yD;refine Zc h fun _ d h=>Zd (Zkq d) ?_;cases h;exact yD
theorem ZhD{A r:List Za}(h:Zb7 A=some r):Zp prog J0 150 [(false,[.sl 35 2 (A0 Zq A)])] [(false,[(false,.sl 35 2 (A0 Zq r))])]:=by
 refine fnk func150 rfl ?_;unfold Zb7 at h;simp only[fnS,f150,Zt,go_sem,seval];refine Zk h (fun i a st=>IV [(3,.p false [.row 0]),(6,yM (yU A)),(7,yL A.length),(8,yL i)] [.row 35 2 (A0 Zq a) 2] st) [(false,3,0)] [80] yF yD ?_ ?_;rintro _ _ a ⟨_,_,_⟩ _ b d f h _;simp only[go_sem,seval,Zb]at d;obtain ⟨⟨_,g,_,_⟩,_,B⟩:=d;subst B;have k:=WF.slotL f g (j:=0) rfl;have:=ZH b;have:=ZI b;have:=Zm (ZG b) k;simp only[*,go_sem,seval];refine Zc h fun _ l h=>Zd (Xi l) ?_;obtain ⟨m,h⟩:=Zs h;try simp only[Nat.reduceLeDiff]at m
 simp only[*,go_sem,seval];exact yR h [145];rintro a ⟨_,_,_⟩ e _ h;simp only[go_sem,seval,Zb]at e;obtain ⟨⟨_,_,_,_⟩,_,B⟩:=e;subst B;have:=ZE (A.length);cases h;exact yD
theorem Zmg{A:Za}{r:Bool}(h:Zf0 A=some r):Zp prog J0 33 [(true,Zq A)] [(false,[(false,.bool r)])]:=by
 refine fnk func33 rfl ?_;unfold Zf0 at h;simp only[fnS,f33,Zt,go_sem,seval];refine Zc h fun v1 e h=>Zd (Zh4 e)<|yA ?_;iterate 2 refine yB h (fun _ h=>?_) fun _ h=>?_
 cases h;exact yD;refine Zk h (fun i _ st=>IV [(16,yM (yV A.args)),(17,yL A.args.length),(18,yL i)] [] st) [] [] yF yD ?_ ?_;rintro _ _ ⟨⟩ ⟨_,_,_⟩ _ a b f h g;simp only[go_sem,seval,Zb]at b;obtain ⟨⟨k,_,_⟩,B⟩:=b;subst B;have l:=WF.slotL f k (j:=0) rfl;have:=ZH a;have:=ZI a;have:=Zm (ZG a) l;simp only[*,go_sem,seval];refine Zc h fun _ m h=>Zd (QU m)<|yA ?_;refine yB h (fun _ h=>?_) fun _ h=>?_;exact yR h [];replace h:=Zr h g;cases h;exact yD;rintro ⟨⟩ ⟨_,_,_⟩ d _ h;simp only[go_sem,seval,Zb]at d;obtain ⟨⟨_,_,_⟩,B⟩:=d;subst B;have:=ZE (A.args.length);iterate 2 (cases h;exact yD)
theorem Ze6{A r:List ByteArray}(h:Zaz A=some r):Zp prog J0 162 [(false,[.sl 9 1 (A0 ZC A)])] [(false,[(false,.sl 9 1 (A0 ZC r))])]:=by
 refine fnk func162 rfl ?_;unfold Zaz at h;simp only[fnS,f162,Zt,go_sem,seval];refine Zk h (fun i a st=>IV [(3,.p false [.row 0]),(6,yM (yV A)),(7,yL A.length),(8,yL i)] [.row 9 1 (A0 ZC a) 2] st) [(false,3,0)] [80] yF yD ?_ ?_;rintro _ _ a ⟨_,_,_⟩ _ b d f h _;simp only[go_sem,seval,Zb]at d;obtain ⟨⟨_,g,_,_⟩,_,B⟩:=d;subst B;have k:=WF.slotL f g (j:=0) rfl;have:=ZH b;have:=ZI b;have:=Zm (ZG b) k;simp only[*,go_sem,seval];refine Zc h fun _ l h=>Zd (ZeM l)<|yA ?_;refine yB h (fun _ h=>?_) fun _ h=>?_;obtain ⟨m,h⟩:=Zs h;try simp only[Nat.reduceLeDiff]at m
 simp only[*,go_sem,seval];exact yR h [145];exact yR h [0];rintro a ⟨_,_,_⟩ e _ h;simp only[go_sem,seval,Zb]at e;obtain ⟨⟨_,_,_,_⟩,_,B⟩:=e;subst B;have:=ZE (A.length);cases h;exact yD
end
section
theorem ZaQ{A:ByteArray}{r:Bool}(h:Za4 A=some r):Zp prog J0 121 [(false,[.str A])] [(false,[(false,.bool r)])]:=by
 refine fnk func121 rfl ?_;unfold Za4 at h;simp only[fnS,f121,Zt,go_sem,seval];refine Zc h fun v1 a h=>Zd (QV a)<|yA ?_;refine yB h (fun _ h=>?_) fun _ h=>?_;cases h;exact yD;refine Zc h fun _ b h=>Zd (Q9 b) ?_;cases h;exact yD
theorem ZaS{A:List Zx}{r:Bool}(h:Qn A=some r):Zp prog J0 84 [(false,[.sl 149 2 (A0 Yi A)])] [(false,[(false,.bool r)])]:=by
 refine fnk func84 rfl ?_;unfold Qn at h;simp only[fnS,f84,Zt,go_sem,seval];refine Zk h (fun i _ st=>IV [(0,yM (yZ A)),(3,yL i)] [] st) [] [] yF yD ?_ ?_;rintro _ _ ⟨⟩ ⟨_,_,_⟩ _ a b f h d;simp only[go_sem,seval,Zb]at b;obtain ⟨⟨g,_⟩,B⟩:=b;subst B;have k:=WF.slotL f g (j:=0) rfl;have:=ZH a;have:=ZI a;have:=Zm (ZG a) k;simp only[*,go_sem,seval];refine Zc h fun _ l h=>Zd (Q9 l)<|yA ?_;refine yB h (fun _ h=>?_) fun _ h=>?_;refine Zc h fun _ m h=>Zd (QV m)<|yA ?_;iterate 2 refine yB h (fun _ h=>?_) fun _ h=>?_
 obtain ⟨_,_,_,_,h⟩:=Zbl h;simp only[*,go_sem,seval];refine yB h (fun _ h=>?_) fun _ h=>?_;exact yR h [];replace h:=Zr h d;cases h;exact yD;refine ⟨_,[],[],(A9 h).symm,yF,?_⟩;iterate 2 (simp only[*,go_sem,seval];replace h:=Zr h d;cases h)
 simp only[*,go_sem,seval];rintro ⟨⟩ ⟨_,_,_⟩ e _ h;simp only[go_sem,seval,Zb]at e;obtain ⟨⟨_,_⟩,B⟩:=e;subst B;have:=ZE (A.length);cases h;exact yD
theorem Zd2{B:List Zx}{A:ByteArray}{r:(ByteArray×Bool)}(h:Zb6 B A=some r):Zp prog J0 85 [(false,[.sl 149 2 (A0 Yi B)]),(false,[.str A])] [(false,[(false,.str r.1)]),(false,[(false,.bool r.2)])]:=by
 refine fnk func85 rfl ?_;unfold Zb6 at h;have e:ZB ⟨#[]⟩=true:=by decide
 simp only[fnS,f85,Zt,go_sem,seval,e];refine Zc h fun v1 f h=>Zd (QV f)<|yA ?_;refine yB h (fun _ h=>?_) fun _ h=>?_;cases h;exact yD;refine Zk h (fun i _ st=>IV [(0,yM (yZ B)),(1,yM (.str A)),(6,yL i)] [] st) [] [] yF yD ?_ ?_;rintro _ _ ⟨⟩ ⟨_,_,_⟩ _ a b g h k;simp only[go_sem,seval,Zb]at b;obtain ⟨⟨l,_,_⟩,C⟩:=b;subst C;have m:=WF.slotL g l (j:=0) rfl;have:=ZH a;have:=ZI a;have:=Zm (ZG a) m;simp only[*,go_sem,seval];refine yB h (fun _ h=>?_) fun _ h=>?_;refine Zc h fun _ o h=>Zd (Q9 o)<|yA ?_;refine yB h (fun _ h=>?_) fun _ h=>?_;replace h:=Zr h k;cases h;exact yD;exact yR h [];exact yR h [];rintro ⟨⟩ ⟨_,_,_⟩ d _ h;simp only[go_sem,seval,Zb]at d;obtain ⟨⟨_,_,_⟩,C⟩:=d;subst C;have:=ZE (B.length);cases h;exact yD
theorem ZmA{A:Za}{r:Bool}(h:Zgq A=some r):Zp prog J0 146 [(true,Zq A)] [(false,[(false,.bool r)])]:=by
 refine fnk func146 rfl ?_;unfold Zgq at h;simp only[fnS,f146,Zt,go_sem,seval];refine Zk h (fun i _ st=>IV [(1,.bp 0 0),(3,yL i)] [zF 35 (Zq A)] st) [] [0] yF yD ?_ ?_;rintro _ _ ⟨⟩ ⟨_,_,_⟩ _ a b e h f;simp only[go_sem,seval,Zb]at b;obtain ⟨⟨_,_⟩,g,B⟩:=b;subst B;have k:=WF.boxL e g (j:=1) rfl;have:=ZH a;have:=ZI a;have:=Zm (ZG a) k;simp only[*,go_sem,seval];refine Zc h fun _ l h=>Zd (QV l)<|yA ?_;refine yB h (fun _ h=>?_) fun _ h=>?_;exact yR h [0];replace h:=Zr h f;cases h;exact yD;rintro ⟨⟩ ⟨_,_,_⟩ d _ h;simp only[go_sem,seval,Zb]at d;obtain ⟨⟨_,_⟩,_,B⟩:=d;subst B;have:=ZE (A.args.length);simp only[*,go_sem,seval];refine Zc h fun _ m h=>Zd (Zic m)<|yA ?_;refine yB h (fun _ h=>?_) fun _ h=>?_;iterate 2 (cases h;exact yD)
theorem Zvi{A r:Zw}(h:Ziv A=some r):Zp prog J0 176 [(true,YD A)] [(true,[(false,.sl 35 2 (A0 Zq r.facts)),(false,.sl 149 2 (A0 Yi r.binding))])]:=by
 refine fnk func176 rfl ?_;unfold Ziv at h;simp only[fnS,f176,Zt,go_sem,seval];refine Zc h fun v1 a h=>Zd (ZfV a)<|yA ?_;refine Zc h fun _ b h=>Zd (Zh1 b) ?_;cases h;exact yD
theorem ZdP{A:Zo}{r:List ByteArray}(h:Zco A=some r):Zp prog J0 173 [(true,ZaW A)] [(false,[(false,.sl 9 1 (A0 ZC r))])]:=by
 refine fnk func173 rfl ?_;unfold Zco at h;simp only[fnS,f173,Zt,go_sem,seval];refine Zk h (fun i a st=>IV [(1,.bp 0 0),(3,.p false [.row 1]),(4,yL i)] [.box 88 [.c (.str A.rel),.c (yV A.args)],.row 9 1 (A0 ZC a) 2] st) [] [0,32] yF yD ?_ ?_;rintro _ _ a ⟨_,_,_⟩ _ b d f h _;simp only[go_sem,seval,Zb]at d;obtain ⟨⟨_,_,_⟩,g,_,B⟩:=d;subst B;have k:=WF.boxL f g (j:=1) rfl;have:=ZH b;have:=ZI b;have:=Zm (ZG b) k;simp only[*,go_sem,seval];refine Zc h fun _ l h=>Zd (Q9 l)<|yA ?_;refine yB h (fun _ h=>?_) fun _ h=>?_;refine Zc h fun _ m h=>Zd (XX m)<|yA ?_;exact yR h [0,274];exact yR h [0,1];rintro a ⟨_,_,_⟩ e _ h;simp only[go_sem,seval,Zb]at e;obtain ⟨⟨_,_,_⟩,_,_,B⟩:=e;subst B;have:=ZE (A.args.length);cases h;exact yD
theorem Zcu{A B:Za}{r:Int}(h:XQ A B=some r):Zp prog J0 17 [(true,Zq A),(true,Zq B)] [(false,[(false,.int .i64 r)])]:=by
 refine fnk func17 rfl ?_;unfold XQ at h;simp only[fnS,f17,Zt,go_sem,seval];refine yB h (fun _ h=>?_) fun _ h=>?_;refine Zk h (fun i _ st=>IV [(2,.bp 0 0),(3,.bp 1 0),(5,yL i)] [zF 35 (Zq A),zF 35 (Zq B)] st) [] [0,16] yF yD ?_ ?_;rintro _ _ ⟨⟩ ⟨_,_,_⟩ _ a d f h b;simp only[go_sem,seval,Zb]at d;obtain ⟨⟨_,_,_⟩,g,_,C⟩:=d;subst C;have k:=WF.boxL f g (j:=1) rfl;have:=ZH a;have:=ZI a;have:=Zm (ZG a) k;simp only[*,go_sem,seval];refine yB h (fun _ h=>?_) fun _ h=>?_;obtain ⟨_,_,_,l,h⟩:=Zbl h;simp only[AA]at l;simp only[*,go_sem,seval];refine Zc h fun _ m h=>Zd (Zfw m)<|yA ?_;refine yB h (fun _ h=>?_) fun _ h=>?_;replace h:=Zr h b;cases h;exact yD;exact yR h [0,1];refine yB h (fun _ h=>?_) fun _ h=>?_;replace h:=Zr h b;cases h;exact yD;refine yB h (fun _ h=>?_) fun _ h=>?_;iterate 2 (replace h:=Zr h b;cases h;simp only[*,go_sem,seval])
 rintro ⟨⟩ ⟨_,_,_⟩ e _ h;simp only[go_sem,seval,Zb]at e;obtain ⟨⟨_,_,_⟩,_,_,C⟩:=e;subst C;have:=ZE (A.args.length);iterate 2 (simp only[*,go_sem,seval];(refine Ze h (fun _ h=>?_) fun _ h=>?_<;>try simp only[*,go_sem,seval]);cases h)
 simp only[*,go_sem,seval];cases h;exact yD;refine Zc h fun _ o h=>Zd (Zpj o) ?_;cases h;exact yD
theorem ZjE{B A:List Za}{r:List Int}(h:ZcQ B A=some r):Zp prog J0 126 [(false,[.sl 35 2 (A0 Zq B)]),(false,[.sl 35 2 (A0 Zq A)])] [(false,[(false,.sl 3 1 (A0 ZP r))])]:=by
 refine fnk func126 rfl ?_;unfold ZcQ at h;simp only[fnS,f126,Zt,go_sem,seval];refine Zk h (fun i a st=>IV [(0,yM (yU B)),(1,yM (yU A)),(5,.p false [.row 0]),(6,yL i)] [.row 3 1 (A0 ZP a) 2] st) [] [16] yF yD ?_ ?_;rintro _ _ a ⟨_,_,_⟩ _ b d f h _;simp only[go_sem,seval,Zb]at d;obtain ⟨⟨_,g,_,_⟩,_,C⟩:=d;subst C;have k:=WF.slotL f g (j:=0) rfl;have:=ZH b;have:=ZI b;have:=Zm (ZG b) k;simp only[*,go_sem,seval];refine Zc h fun _ l h=>Zd (Qq l)<|yA ?_;refine yB h (fun _ h=>?_) fun _ h=>?_;refine Zc h fun _ m h=>Zd (Ztp m)<|yA ?_;exact yR h [241];exact yR h [0];rintro a ⟨_,_,_⟩ e _ h;simp only[go_sem,seval,Zb]at e;obtain ⟨⟨_,_,_,_⟩,_,C⟩:=e;subst C;have:=ZE (A.length);cases h;exact yD
theorem ZfD{A:Zl}{r:Bool}(h:QO A=some r):Zp prog J0 128 [(true,YY A)] [(false,[(false,.bool r)])]:=by
 refine fnk func128 rfl ?_;unfold QO at h;simp only[fnS,f128,Zt,go_sem,seval];refine Zc h fun v1 o h=>Zd (ZoF o)<|yA ?_;refine yB h (fun _ h=>?_) fun _ h=>?_;refine Zk h (fun i _ st=>IV [(1,.bp 0 0),(3,yL i)] [.box 53 [.c (.int .i64 A.nodes),.c (zB A.reasons)]] st) [] [0] yF yD ?_ ?_;rintro q d ⟨⟩ ⟨_,_,_⟩ _ a e t h f;simp only[go_sem,seval,Zb]at e;obtain ⟨⟨_,_⟩,u,B⟩:=e;subst B;have v:=WF.boxL t u (j:=1) rfl;have:=ZH a;have:=ZI a;have:=Zm (ZG a) v;simp only[*,go_sem,seval];refine Zk h (fun i _ st=>IV [(1,.bp 0 0),(3,yL q),(4,yM (.int .i64 d.for_)),(5,yL i)] [.box 53 [.c (.int .i64 A.nodes),.c (zB A.reasons)]] st) [] [0] yF yD ?_ ?_;rintro _ _ ⟨⟩ ⟨_,_,_⟩ _ b g w h k;simp only[go_sem,seval,Zb]at g;obtain ⟨⟨_,_,_,_⟩,x,B⟩:=g;subst B;have y:=WF.elL (WF.boxD w x (j:=1) rfl) a (j:=2) rfl;have:=ZH b;have:=ZI b;have:=Zm (ZG b) y;simp only[*,go_sem,seval]
 refine yB h (fun _ h=>?_) fun _ h=>?_;replace h:=Zr h k;replace h:=Zr h f;cases h;exact yD;refine Zc h fun _ z h=>Zd (ZpL z) ?_;obtain ⟨_,h⟩:=Zs h;obtain ⟨_,_,h⟩:=Zn h;simp only[*,go_sem,seval];refine yB h (fun _ h=>?_) fun _ h=>?_;replace h:=Zr h k;replace h:=Zr h f;cases h;exact yD;exact yR h [0];rintro ⟨⟩ ⟨_,_,_⟩ l _ h;simp only[go_sem,seval,Zb]at l;obtain ⟨⟨_,_,_,_⟩,_,B⟩:=l;subst B;have:=ZE (d.outs.length);simp only[*,go_sem,seval];exact yR h [0];rintro ⟨⟩ ⟨_,_,_⟩ m _ h;simp only[go_sem,seval,Zb]at m;obtain ⟨⟨_,_⟩,_,B⟩:=m;subst B;have:=ZE (A.reasons.length);iterate 2 (cases h;exact yD)
theorem Zib{A:Zi}{r:(BYT×Zi)}(h:Zcw A=some r):Ys prog J0 JF0 109 (.box 77 (ZS A)) [] [(false,[(false,.str r.1)])] (.box 77 (ZS r.2)):=by
 refine fnh func109 rfl ?_;unfold Zcw at h;have a:ZB ⟨#[49]⟩=true:=by decide
 have b:ZB ⟨#[50]⟩=true:=by decide
 have c:ZB ⟨#[97]⟩=true:=by decide
 have d:ZB ⟨#[98]⟩=true:=by decide
 have e:ZB ⟨#[99]⟩=true:=by decide
 have f:ZB ⟨#[]⟩=true:=by decide
 simp only[fnH,f109,YF,YE,Yh,go_sem,seval,a,b,c,d,e,f];obtain ⟨v1,g,h⟩:=Zn h;refine ZA (ZaU g) ?_;cases h;exact yD
theorem ZbV{A:Zi}{r:(BYT×Zi)}(h:ZbB A=some r):Ys prog J0 JF0 71 (.box 77 (ZS A)) [] [(false,[(false,.str r.1)])] (.box 77 (ZS r.2)):=by
 refine fnh func71 rfl ?_;unfold ZbB at h;have a:ZB ⟨#[111,110]⟩=true:=by decide
 have b:ZB ⟨#[120,49]⟩=true:=by decide
 have c:ZB ⟨#[45,51]⟩=true:=by decide
 have d:ZB ⟨#[48,48,55]⟩=true:=by decide
 have e:ZB ⟨#[48]⟩=true:=by decide
 have f:ZB ⟨#[49,120]⟩=true:=by decide
 have g:ZB ⟨#[49,48,48,48,48]⟩=true:=by decide
 have i:ZB ⟨#[49,48]⟩=true:=by decide
 have j:ZB ⟨#[55]⟩=true:=by decide
 have k:ZB ⟨#[57,57,57,57]⟩=true:=by decide
 have l:ZB ⟨#[63,120]⟩=true:=by decide
 have m:ZB ⟨#[63,63]⟩=true:=by decide
 have o:ZB ⟨#[63,97,98,99,100,101,102,103,104]⟩=true:=by decide
 have p:ZB ⟨#[63]⟩=true:=by decide
 have q:ZB ⟨#[65]⟩=true:=by decide
 have t:ZB ⟨#[97,45,98]⟩=true:=by decide
 have u:ZB ⟨#[97,98,99,100,101,102,103,104,105]⟩=true:=by decide
 have v:ZB ⟨#[97,98,99,100,101,102,103,104]⟩=true:=by decide
 have w:ZB ⟨#[97]⟩=true:=by decide
 have x:ZB ⟨#[98]⟩=true:=by decide
 have y:ZB ⟨#[]⟩=true:=by decide
 simp only[fnH,f71,YF,YE,Yh,go_sem,seval,a,b,c,d,e,f,g,i,j,k,l,m,o,p,q,t,u,v,w,x,y];obtain ⟨v1,z,h⟩:=Zn h;refine ZA (ZaU z) ?_;cases h;exact yD
theorem ZuX{C:Zi}{B A:BYT}{r:(Zu×Zi)}(h:ZkL C B A=some r):Ys prog J0 JF0 250 (.box 77 (ZS C)) [(false,[.str B]),(false,[.str A])] [(true,[(false,.int .i64 r.1.kind),(false,.str r.1.pattern.rel),(false,.sl 9 1 (A0 ZC r.1.pattern.args)),(false,.str r.1.left),(false,.str r.1.right)])] (.box 77 (ZS r.2)):=by
 refine fnh func250 rfl ?_;unfold ZkL at h;simp only[fnH,f250,YF,YE,Yh,go_sem,seval];obtain ⟨v1,a,h⟩:=Zn h;refine ZA (Q2 a) ?_;cases h;exact yD
theorem QM{A:Zo}{r:Bool}(h:XH A=some r):Zp prog J0 77 [(true,ZaW A)] [(false,[(false,.bool r)])]:=by
 refine fnk func77 rfl ?_;unfold XH at h;simp only[fnS,f77,Zt,go_sem,seval];refine Zc h fun v1 e h=>Zd (Zh4 e)<|yA ?_;iterate 2 refine yB h (fun _ h=>?_) fun _ h=>?_
 cases h;exact yD;refine Zk h (fun i _ st=>IV [(16,yM (yV A.args)),(17,yL A.args.length),(18,yL i)] [] st) [] [] yF yD ?_ ?_;rintro _ _ ⟨⟩ ⟨_,_,_⟩ _ a b f h g;simp only[go_sem,seval,Zb]at b;obtain ⟨⟨k,_,_⟩,B⟩:=b;subst B;have l:=WF.slotL f k (j:=0) rfl;have:=ZH a;have:=ZI a;have:=Zm (ZG a) l;simp only[*,go_sem,seval];refine Zc h fun _ m h=>Zd (Za0 m)<|yA ?_;refine yB h (fun _ h=>?_) fun _ h=>?_;exact yR h [];replace h:=Zr h g;cases h;exact yD;rintro ⟨⟩ ⟨_,_,_⟩ d _ h;simp only[go_sem,seval,Zb]at d;obtain ⟨⟨_,_,_⟩,B⟩:=d;subst B;have:=ZE (A.args.length);iterate 2 (cases h;exact yD)
theorem Zfs{A B:Za}{r:Int}(h:QH A B=some r):Zp prog J0 58 [(true,Zq A),(true,Zq B)] [(false,[(false,.int .i64 r)])]:=by
 refine fnk func58 rfl ?_;unfold QH at h;simp only[fnS,f58,Zt,go_sem,seval];refine Zc h fun v1 f h=>Zd (Zkq f)<|yA ?_;refine yB h (fun _ h=>?_) fun _ h=>?_;cases h;exact yD;refine Zk h (fun i _ st=>IV [(2,.bp 0 0),(3,.bp 1 0),(6,yL i)] [zF 35 (Zq A),zF 35 (Zq B)] st) [] [0,16] yF yD ?_ ?_;rintro _ _ ⟨⟩ ⟨_,_,_⟩ _ a b g h d;simp only[go_sem,seval,Zb]at b;obtain ⟨⟨_,_,_⟩,k,_,C⟩:=b;subst C;have l:=WF.boxL g k (j:=1) rfl;have:=ZH a;have:=ZI a;have:=Zm (ZG a) l;simp only[*,go_sem,seval];refine yB h (fun _ h=>?_) fun _ h=>?_;obtain ⟨_,_,_,m,h⟩:=Zbl h;simp only[AA]at m;simp only[*,go_sem,seval];refine Zc h fun _ o h=>Zd (ZkS o)<|yA ?_;refine yB h (fun _ h=>?_) fun _ h=>?_;replace h:=Zr h d;cases h;exact yD;exact yR h [0,1];refine Zc h fun _ q h=>Zd (Zc9 q) ?_;replace h:=Zr h d;cases h;exact yD;rintro ⟨⟩ ⟨_,_,_⟩ e _ h;simp only[go_sem,seval,Zb]at e;obtain ⟨⟨_,_,_⟩,_,_,C⟩:=e;subst C
 have:=ZE (A.args.length);simp only[*,go_sem,seval];refine Zc h fun _ t h=>Zd (Zc9 t) ?_;cases h;exact yD
theorem Ztv{a:List Zx}{b d:ByteArray}{r:((List Zx)×Bool)}(h:ZhR a b d=some r):Zp prog J0 205 [(false,[.sl 149 2 (A0 Yi a)]),(false,[.str b]),(false,[.str d])] [(false,[(false,.sl 149 2 (A0 Yi r.1))]),(false,[(false,.bool r.2)])]:=by
 refine fnk func205 rfl ?_;unfold ZhR at h;simp only[fnS,f205,Zt,go_sem,seval];refine Zc h fun v1 o h=>Zd (ZaN o)<|yA ?_;refine yB h (fun _ h=>?_) fun _ h=>?_;refine Zc h fun _ q h=>Zd (ZeM q)<|yA ?_;refine yB h (fun _ h=>?_) fun _ h=>?_;refine Zc h fun _ t h=>Zd (QU t)<|yA ?_;refine yB h (fun _ h=>?_) fun _ h=>?_;refine Zc h fun _ u h=>Zd (Zea u)<|yA ?_;iterate 2 refine yB h (fun _ h=>?_) fun _ h=>?_
 refine Zc h fun _ v h=>Zd (ZhM v) ?_;iterate 2 (cases h;exact yD)
 refine yB h (fun _ h=>?_) fun _ h=>?_;cases h;exact yD;refine Zk h (fun i s st=>match s with|(e,f)=>IV [(1,yM (.str b)),(2,yM (.str d)),(10,.p false [.row 0]),(11,yM (.bool f)),(42,yM (yZ a)),(43,yL a.length),(44,yL i)] [.row 149 2 (A0 Yi e) 2] st) [(false,10,0)] [512] yF yD ?_ ?_;rintro _ _ ⟨e,f⟩ ⟨_,_,_⟩ _ g l x h _;simp only[go_sem,seval,Zb]at l;obtain ⟨⟨_,_,_,_,y,_,_⟩,_,G⟩:=l;subst G;have z:=WF.slotL x y (j:=0) rfl;have:=ZH g;have:=ZI g;have:=Zm (ZG g) z;simp only[*,go_sem,seval];refine yB h (fun _ h=>?_) fun _ h=>?_;obtain ⟨A,h⟩:=Zs h;try simp only[Nat.reduceLeDiff]at A
 simp only[*,go_sem,seval];exact yR h [257];refine Ze h (fun k h=>?_) (fun k h=>?_);have B:=k;obtain ⟨C,h⟩:=Zs h;try simp only[Nat.reduceLeDiff]at C
 simp only[*,go_sem,seval];exact yR h [257];have B:=k;obtain ⟨D,h⟩:=Zs h;try simp only[Nat.reduceLeDiff]at D
 obtain ⟨E,h⟩:=Zs h;try simp only[Nat.reduceLeDiff]at E
 simp only[*,go_sem,seval];exact yR h [385];rintro ⟨e,f⟩ ⟨_,_,_⟩ m _ h;simp only[go_sem,seval,Zb]at m;obtain ⟨⟨_,_,_,_,_,_,_⟩,_,G⟩:=m;subst G;have:=ZE (a.length);simp only[*,go_sem,seval];refine yB h (fun _ h=>?_) fun _ h=>?_;cases h;exact yD;obtain ⟨F,h⟩:=Zs h;try simp only[Nat.reduceLeDiff]at F
 iterate 4 (cases h;exact yD)
theorem ZeG{A:Zf}{B:Int}{r:List ByteArray}(h:ZaP A B=some r):Zp prog J0 160 [(true,ZF A),(false,[.int .i64 B])] [(false,[(false,.sl 9 1 (A0 ZC r))])]:=by
 refine fnk func160 rfl ?_;unfold ZaP at h;simp only[fnS,f160,Zt,go_sem,seval];refine Zk h (fun i a st=>IV [(1,yM (.int .i64 B)),(5,.p false [.row 0]),(9,yM (yY A.cond)),(10,yL A.cond.length),(11,yL i)] [.row 9 1 (A0 ZC a) 2] st) [(false,5,0)] [112] yF yD ?_ ?_;rintro _ _ a ⟨_,_,_⟩ _ b d f h _;simp only[go_sem,seval,Zb]at d;obtain ⟨⟨_,_,g,_,_⟩,_,C⟩:=d;subst C;have k:=WF.slotL f g (j:=0) rfl;have:=ZH b;have:=ZI b;have:=Zm (ZG b) k;simp only[*,go_sem,seval];iterate 2 refine yB h (fun _ h=>?_) fun _ h=>?_
 refine Zc h fun _ l h=>Zd (Ze6 l) ?_;obtain ⟨_,h⟩:=Zs h;simp only[*,go_sem,seval];exact yR h [321];exact yR h [0];exact yR h [0];rintro a ⟨_,_,_⟩ e _ h;simp only[go_sem,seval,Zb]at e;obtain ⟨⟨_,_,_,_,_⟩,_,C⟩:=e;subst C;have:=ZE (A.cond.length);simp only[*,go_sem,seval];refine Zc h fun _ m h=>Zd (QI m) ?_;cases h;exact yD
theorem Zde{A:Zu}{r:List BYT}(h:Zab A=some r):Zp prog J0 209 [(true,ZT A)] [(false,[(false,.sl 9 1 (A0 ZC r))])]:=by
 refine fnk func209 rfl ?_;unfold Zab at h;simp only[fnS,f209,Zt,go_sem,seval];refine Zc h fun v1 a h=>Zd (Zsn a)<|yA ?_;refine Zc h fun _ b h=>Zd (Ze6 b)<|yA ?_;refine Zc h fun _ c h=>Zd (QI c) ?_;cases h;exact yD
theorem ZkR{A B:List Za}{r:List Int}(h:Zcc A B=some r):Zp prog J0 113 [(false,[.sl 35 2 (A0 Zq A)]),(false,[.sl 35 2 (A0 Zq B)])] [(false,[(false,.sl 3 1 (A0 ZP r))])]:=by
 refine fnk func113 rfl ?_;unfold Zcc at h;simp only[fnS,f113,Zt,go_sem,seval];refine Zk h (fun i a st=>IV [(0,yM (yU A)),(5,.p false [.row 0]),(9,yM (yU B)),(10,yL B.length),(11,yL i)] [.row 3 1 (A0 ZP a) 2] st) [(false,5,0)] [80] yF yD ?_ ?_;rintro _ _ a ⟨_,_,_⟩ _ b d f h _;simp only[go_sem,seval,Zb]at d;obtain ⟨⟨_,_,g,_,_⟩,_,C⟩:=d;subst C;have k:=WF.slotL f g (j:=0) rfl;have:=ZH b;have:=ZI b;have:=Zm (ZG b) k;simp only[*,go_sem,seval];refine Zc h fun _ l h=>Zd (Zap l)<|yA ?_;refine yB h (fun _ h=>?_) fun _ h=>?_;refine Zc h fun _ m h=>Zd (ZtW m)<|yA ?_;refine yB h (fun _ h=>?_) fun _ h=>?_;exact yR h [0];obtain ⟨o,h⟩:=Zs h;try simp only[Nat.reduceLeDiff]at o
 simp only[*,go_sem,seval];exact yR h [321];exact yR h [0];rintro a ⟨_,_,_⟩ e _ h;simp only[go_sem,seval,Zb]at e;obtain ⟨⟨_,_,_,_,_⟩,_,C⟩:=e;subst C;have:=ZE (B.length);simp only[*,go_sem,seval];obtain ⟨_,q,h⟩:=Zn h;refine ZA (ZpS q) ?_;cases h;exact yD
end
section
theorem XT{A:Zo}{r:Bool}(h:Y5 A=some r):Zp prog J0 83 [(true,ZaW A)] [(false,[(false,.bool r)])]:=by
 refine fnk func83 rfl ?_;unfold Y5 at h;simp only[fnS,f83,Zt,go_sem,seval];refine Zk h (fun i _ st=>IV [(1,.bp 0 0),(3,yL i)] [.box 88 [.c (.str A.rel),.c (yV A.args)]] st) [] [0] yF yD ?_ ?_;rintro _ _ ⟨⟩ ⟨_,_,_⟩ _ a b e h f;simp only[go_sem,seval,Zb]at b;obtain ⟨⟨_,_⟩,g,B⟩:=b;subst B;have k:=WF.boxL e g (j:=1) rfl;have:=ZH a;have:=ZI a;have:=Zm (ZG a) k;simp only[*,go_sem,seval];refine Zc h fun _ l h=>Zd (ZaQ l)<|yA ?_;refine yB h (fun _ h=>?_) fun _ h=>?_;exact yR h [0];replace h:=Zr h f;cases h;exact yD;rintro ⟨⟩ ⟨_,_,_⟩ d _ h;simp only[go_sem,seval,Zb]at d;obtain ⟨⟨_,_⟩,_,B⟩:=d;subst B;have:=ZE (A.args.length);simp only[*,go_sem,seval];refine Zc h fun _ m h=>Zd (Zic m)<|yA ?_;refine yB h (fun _ h=>?_) fun _ h=>?_;iterate 2 (cases h;exact yD)
theorem Ztx{C:List Zx}{B A:ByteArray}{r:((List Zx)×Bool)}(h:Zio C B A=some r):Zp prog J0 215 [(false,[.sl 149 2 (A0 Yi C)]),(false,[.str B]),(false,[.str A])] [(false,[(false,.sl 149 2 (A0 Yi r.1))]),(false,[(false,.bool r.2)])]:=by
 refine fnk func215 rfl ?_;unfold Zio at h;simp only[fnS,f215,Zt,go_sem,seval];refine Zc h fun v1 a h=>Zd (ZaS a)<|yA ?_;refine yB h (fun _ h=>?_) fun _ h=>?_;refine Zc h fun _ b h=>Zd (Q9 b)<|yA ?_;refine yB h (fun _ h=>?_) fun _ h=>?_;refine Zc h fun _ c h=>Zd (QV c)<|yA ?_;refine yB h (fun _ h=>?_) fun _ h=>?_;refine Zc h fun _ d h=>Zd (Zd2 d)<|yA ?_;iterate 2 refine yB h (fun _ h=>?_) fun _ h=>?_
 refine Zc h fun _ e h=>Zd (Zh1 e) ?_;iterate 2 (cases h;exact yD)
 refine yB h (fun _ h=>?_) fun _ h=>?_;cases h;exact yD;refine Zc h fun _ f h=>Zd (Zwh f) ?_;iterate 4 (cases h;exact yD)
theorem ZaX{C:Zf}{B:Int}{r:List ByteArray}(h:Qh C B=some r):Zp prog J0 166 [(true,ZF C),(false,[.int .i64 B])] [(false,[(false,.sl 9 1 (A0 ZC r))])]:=by
 refine fnk func166 rfl ?_;unfold Qh at h;simp only[fnS,f166,Zt,go_sem,seval];refine Zk h (fun i a st=>IV [(1,yM (.int .i64 B)),(2,.bp 0 0),(5,.p false [.row 1]),(6,yL i)] [zF 87 (ZF C),.row 9 1 (A0 ZC a) 2] st) [] [0,32] yF yD ?_ ?_;rintro b _ a ⟨_,_,_⟩ _ d g q h t;simp only[go_sem,seval,Zb]at g;obtain ⟨⟨_,_,_,_⟩,u,_,D⟩:=g;subst D;have v:=WF.boxL q u (j:=2) rfl;have:=ZH d;have:=ZI d;have:=Zm (ZG d) v;simp only[*,go_sem,seval];iterate 2 refine yB h (fun _ h=>?_) fun _ h=>?_
 refine Zc h fun k w h=>Zd (ZdP w)<|yA ?_;refine Zk h (fun i e st=>IV [(1,yM (.int .i64 B)),(2,.bp 0 0),(5,.p false [.row 1]),(6,yL b),(7,.p false [.row 2]),(8,yL i),(16,yL b),(17,yM (.int .i64 B)),(18,yM (.bool (decide ((b:Int)<B))))] [zF 87 (ZF C),.row 9 1 (A0 ZC e) 2,.row 9 1 (A0 ZC k) 2] st) [] [0,1,370] yF yD ?_ ?_;rintro _ _ e ⟨_,_,_⟩ _ f l x h _;simp only[go_sem,seval,Zb]at l;obtain ⟨⟨_,_,_,_,_,_,_,_,_⟩,_,_,y,D⟩:=l;subst D;have z:=WF.rowL x y;have:=ZH f;have:=ZI f;have:=Zm (ZG f) z;simp only[*,go_sem,seval];refine Zc h fun _ A h=>Zd (XX A)<|yA ?_;exact yR h [0,147,2];rintro e ⟨_,_,_⟩ m _ h;simp only[go_sem,seval,Zb]at m;obtain ⟨⟨_,_,_,_,_,_,_,_,_⟩,_,_,_,D⟩:=m;subst D;have:=ZE (k.length);simp only[*,go_sem,seval];exact yR h [0,1];exact yR h [0,1];replace h:=Zr h t;cases h;exact yD;rintro a ⟨_,_,_⟩ o _ h;simp only[go_sem,seval,Zb]at o;obtain ⟨⟨_,_,_,_⟩,_,_,D⟩:=o
 subst D;have:=ZE (C.cond.length);cases h;exact yD
theorem Zbs{A:Zu}{r:List ByteArray}(h:Qr A=some r):Zp prog J0 168 [(true,ZT A)] [(false,[(false,.sl 9 1 (A0 ZC r))])]:=by
 refine fnk func168 rfl ?_;unfold Qr at h;simp only[fnS,f168,Zt,go_sem,seval];refine Zc h fun v1 a h=>Zd (ZdP a)<|yA ?_;refine Zc h fun _ b h=>Zd (Q9 b)<|yA ?_;refine yB h (fun _ h=>?_) fun _ h=>?_;refine Zc h fun _ c h=>Zd (XX c)<|yA ?_;refine Zc h fun _ d h=>Zd (Q9 d)<|yA ?_;refine yB h (fun _ h=>?_) fun _ h=>?_;refine Zc h fun _ e h=>Zd (XX e) ?_;iterate 2 (cases h;exact yD)
 refine Zc h fun _ f h=>Zd (Q9 f)<|yA ?_;refine yB h (fun _ h=>?_) fun _ h=>?_;refine Zc h fun _ g h=>Zd (XX g) ?_;iterate 2 (cases h;exact yD)
theorem ZjC{A:List Za}{r:Bool}(h:ZcZ A=some r):Zp prog J0 104 [(false,[.sl 35 2 (A0 Zq A)])] [(false,[(false,.bool r)])]:=by
 refine fnk func104 rfl ?_;unfold ZcZ at h;simp only[fnS,f104,Zt,go_sem,seval];refine Zk h (fun i _ st=>IV [(0,yM (yU A)),(3,yL i)] [] st) [] [] yF yD ?_ ?_;rintro _ _ ⟨⟩ ⟨_,_,_⟩ _ a b f h d;simp only[go_sem,seval,Zb]at b;obtain ⟨⟨g,_⟩,B⟩:=b;subst B;have k:=WF.slotL f g (j:=0) rfl;have:=ZH a;have:=ZI a;have:=Zm (ZG a) k;simp only[*,go_sem,seval];refine Zc h fun _ l h=>Zd (ZmA l)<|yA ?_;iterate 2 refine yB h (fun _ h=>?_) fun _ h=>?_
 obtain ⟨_,_,_,_,h⟩:=Zbl h;simp only[*,go_sem,seval];refine Zc h fun _ m h=>Zd (Zcu m)<|yA ?_;refine yB h (fun _ h=>?_) fun _ h=>?_;replace h:=Zr h d;cases h;exact yD;exact yR h [];exact yR h [];replace h:=Zr h d;cases h;exact yD;rintro ⟨⟩ ⟨_,_,_⟩ e _ h;simp only[go_sem,seval,Zb]at e;obtain ⟨⟨_,_⟩,B⟩:=e;subst B;have:=ZE (A.length);cases h;exact yD
theorem ZbM{a:List Za}{F:Za}{r:List Za}(h:YS a F=some r):Zp prog J0 106 [(false,[.sl 35 2 (A0 Zq a)]),(true,Zq F)] [(false,[(false,.sl 35 2 (A0 Zq r))])]:=by
 refine fnk func106 rfl ?_;unfold YS at h;simp only[fnS,f106,Zt,go_sem,seval];refine Zk h (fun i s st=>match s with|(b,d)=>IV [(0,yM (yU a)),(3,.bp 0 0),(5,.p false [.row 1]),(6,yM (.bool d)),(7,yL i)] [zF 35 (Zq F),.row 35 2 (A0 Zq b) 2] st) [] [0,32] yF yD ?_ ?_;rintro _ _ ⟨b,d⟩ ⟨_,_,_⟩ _ e f k h _;simp only[go_sem,seval,Zb]at f;obtain ⟨⟨l,_,_,_,_⟩,_,_,G⟩:=f;subst G;have m:=WF.slotL k l (j:=0) rfl;have:=ZH e;have:=ZI e;have:=Zm (ZG e) m;simp only[*,go_sem,seval];refine yB h (fun _ h=>?_) fun _ h=>?_;refine Zc h fun _ o h=>Zd (Y7 o) ?_;obtain ⟨q,h⟩:=Zs h;try simp only[Nat.reduceLeDiff]at q
 simp only[*,go_sem,seval];exact yR h [0,354];refine Zc h fun _ t h=>Zd (Zcu t)<|yA ?_;refine yB h (fun _ h=>?_) fun _ h=>?_;refine Zc h fun _ u h=>Zd (Zcu u)<|yA ?_;refine yB h (fun _ h=>?_) fun _ h=>?_;refine Zc h fun _ v h=>Zd (Y7 v) ?_;obtain ⟨w,h⟩:=Zs h;try simp only[Nat.reduceLeDiff]at w
 simp only[*,go_sem,seval];refine Zc h fun _ x h=>Zd (Y7 x) ?_;obtain ⟨y,h⟩:=Zs h;try simp only[Nat.reduceLeDiff]at y
 simp only[*,go_sem,seval];exact yR h [0,578];refine Zc h fun _ z h=>Zd (Y7 z) ?_;obtain ⟨A,h⟩:=Zs h;try simp only[Nat.reduceLeDiff]at A
 simp only[*,go_sem,seval];exact yR h [0,482];refine Zc h fun _ B h=>Zd (Y7 B) ?_;obtain ⟨C,h⟩:=Zs h;try simp only[Nat.reduceLeDiff]at C
 simp only[*,go_sem,seval];exact yR h [0,354];rintro ⟨b,d⟩ ⟨_,_,_⟩ g _ h;simp only[go_sem,seval,Zb]at g;obtain ⟨⟨_,_,_,_,_⟩,_,_,G⟩:=g;subst G;have:=ZE (a.length);simp only[*,go_sem,seval];refine yB h (fun _ h=>?_) fun _ h=>?_;cases h;exact yD;refine Zc h fun _ D h=>Zd (Y7 D) ?_;obtain ⟨E,h⟩:=Zs h;try simp only[Nat.reduceLeDiff]at E
 cases h;exact yD
theorem ZpN{b:Zl}{r:List Int}(h:Zff b=some r):Zp prog J0 129 [(true,YY b)] [(false,[(false,.sl 3 1 (A0 ZP r))])]:=by
 refine fnk func129 rfl ?_;unfold Zff at h;simp only[fnS,f129,Zt,go_sem,seval];refine Zc h fun v1 B h=>Zd (ZfD B)<|yA ?_;refine yB h (fun _ h=>?_) fun _ h=>?_;obtain ⟨_,h⟩:=Zs h;simp only[*,go_sem,seval];refine Ym h (fun s st=>match s with|(q,e)=>IV [(1,.bp 0 0),(3,.p false [.row 1]),(4,yM (.int .i64 e))] [.box 53 [.c (.int .i64 b.nodes),.c (zB b.reasons)],.row 3 1 (A0 ZP q) 2] st) [] [0,112] yF yD ?_;rintro ⟨q,e⟩ ⟨_,_,_⟩ _ t _ h C;simp only[go_sem,seval,Zb]at t;obtain ⟨⟨_,_,_⟩,_,_,M⟩:=t;subst M;simp only[*,go_sem,seval];refine yB h (fun _ h=>?_) fun _ h=>?_;refine Zk h (fun i f st=>IV [(1,.bp 0 0),(3,.p false [.row 1]),(4,yM (.int .i64 e)),(5,yL i)] [.box 53 [.c (.int .i64 b.nodes),.c (zB b.reasons)],.row 3 1 (A0 ZP f) 2] st) [] [0,1] yF yD ?_ ?_;rintro u d f ⟨_,_,_⟩ _ g v D h _;simp only[go_sem,seval,Zb]at v;obtain ⟨⟨_,_,_,_⟩,E,_,M⟩:=v;subst M;have F:=WF.boxL D E (j:=1) rfl
 have:=ZH g;have:=ZI g;have:=Zm (ZG g) F;simp only[*,go_sem,seval];refine Zk h (fun i k st=>IV [(1,.bp 0 0),(3,.p false [.row 1]),(4,yM (.int .i64 e)),(5,yL u),(6,.bp 2 0),(7,yL i)] [.box 53 [.c (.int .i64 b.nodes),.c (zB b.reasons)],.row 3 1 (A0 ZP k) 2,zF 109 (ZJ d)] st) [] [0,1,162] yF yD ?_ ?_;rintro _ _ k ⟨_,_,_⟩ _ l w G h _;simp only[go_sem,seval,Zb]at w;obtain ⟨⟨_,_,_,_,_,_⟩,_,_,H,M⟩:=w;subst M;have I:=WF.boxL G H (j:=1) rfl;have:=ZH l;have:=ZI l;have:=Zm (ZG l) I;obtain ⟨_,h⟩:=Zs h;obtain ⟨_,_,h⟩:=Zn h;obtain ⟨_,h⟩:=Zs h;obtain ⟨_,_,h⟩:=Zn h;simp only[*,go_sem,seval];exact yR h [0,1,2];rintro k ⟨_,_,_⟩ x _ h;simp only[go_sem,seval,Zb]at x;obtain ⟨⟨_,_,_,_,_,_⟩,_,_,_,M⟩:=x;subst M;have:=ZE (d.inn.length);simp only[*,go_sem,seval]
 refine Zk h (fun i m st=>IV [(1,.bp 0 0),(3,.p false [.row 1]),(4,yM (.int .i64 e)),(5,yL u),(6,.bp 2 0),(8,yL i)] [.box 53 [.c (.int .i64 b.nodes),.c (zB b.reasons)],.row 3 1 (A0 ZP m) 2,zF 109 (ZJ d)] st) [] [0,1,2] yF yD ?_ ?_;rintro _ _ m ⟨_,_,_⟩ _ o y J h _;simp only[go_sem,seval,Zb]at y;obtain ⟨⟨_,_,_,_,_,_⟩,_,_,K,M⟩:=y;subst M;have L:=WF.boxL J K (j:=2) rfl;have:=ZH o;have:=ZI o;have:=Zm (ZG o) L;obtain ⟨_,h⟩:=Zs h;obtain ⟨_,_,h⟩:=Zn h;obtain ⟨_,h⟩:=Zs h;obtain ⟨_,_,h⟩:=Zn h;simp only[*,go_sem,seval];exact yR h [0,1,2];rintro m ⟨_,_,_⟩ z _ h;simp only[go_sem,seval,Zb]at z;obtain ⟨⟨_,_,_,_,_,_⟩,_,_,_,M⟩:=z;subst M;have:=ZE (d.outs.length);simp only[*,go_sem,seval];exact yR h [0,1];rintro f ⟨_,_,_⟩ A _ h;simp only[go_sem,seval,Zb]at A;obtain ⟨⟨_,_,_,_⟩,_,_,M⟩:=A;subst M;have:=ZE (b.reasons.length);simp only[*,go_sem,seval];exact yR h [0,1];replace h:=Zr h C
 iterate 2 (cases h;exact yD)
theorem Zmo{b:Zi}{r:(Za×Zi)}(h:ZeL b=some r):Ys prog J0 JF0 70 (.box 77 (ZS b)) [] [(true,[(false,.str r.1.rel),(false,.sl 9 1 (A0 ZC r.1.args))])] (.box 77 (ZS r.2)):=by
 refine Zyy [(6,[0,1,2,3,4,5,6,7],true)] func70 rfl ?_;unfold ZeL at h;simp only[fnH,f70,YF,YE,Yh,go_sem,Zg,seval];obtain ⟨v1,N,h⟩:=Zn h;refine ZA (by have hh:=ZnZ N;first|exact hh|(simp only[go_sem,Zg, *]at hh;exact hh)) ?_;simp only[go_sem,Zg,seval, *];refine Ym h (fun s st=>match s with|(d,e,f,a,g)=>IV [(0,.bp 0 0),(2,.bp 1 0),(4,.p false [.c (.int .i64 v1.2.1)]),(5,.bp 2 0),(6,.p false [.c (.int .i64 g)])] [.box 77 [.c (.sl 5 1 (A0 ZbA d)),.c (.int .i64 e),.c (.int .i64 f)],.box 35 [.c (.str ⟨#[]⟩),.nil 9 1],.box 35 [.c (.str v1.1),.row 3],.row 9 1 (A0 ZC a) 2] st) [(true,161,1)] [0,1,161,209] yF ?_ ?_
 .simp only[go_sem,Zg,seval, *]
 .rintro ⟨d,e,f,a,g⟩ ⟨sl,ob,n⟩ P i L h j;simp only[go_sem,Zg,seval,Zb]at i;obtain ⟨⟨I,H,G,F,E⟩,D,C,B,A,K⟩:=i;subst K;simp only[go_sem,Zg,seval, *];refine Ze h (fun O h=>?_) (fun O h=>?_)<;>try simp only[go_sem,Zg,seval, *]
  .obtain ⟨R,M,h⟩:=Zn h;refine ZA (by have hh:=Zib M;first|exact hh|(simp only[go_sem,Zg, *]at hh;exact hh)) ?_;obtain ⟨J,h⟩:=Zs h;try simp only[Nat.reduceLeDiff]at J
   simp only[go_sem,Zg,seval, *];refine ⟨_,[],[0,1,2,132],(A9 h).symm,yF,?_⟩;simp only[go_sem,Zg,seval, *]
  .replace h:=Zr h j;obtain rfl:=A9 h;simp only[go_sem,Zg,seval, *]
theorem ZiI{A:Zi}{r:(ByteArray×Zi)}(h:ZdF A=some r):Ys prog J0 JF0 249 (.box 77 (ZS A)) [] [(false,[(false,.str r.1)])] (.box 77 (ZS r.2)):=by
 refine fnh func249 rfl ?_;unfold ZdF at h;have a:ZB ⟨#[63,120]⟩=true:=by decide
 have b:ZB ⟨#[63,121]⟩=true:=by decide
 have c:ZB ⟨#[63,122]⟩=true:=by decide
 have d:ZB ⟨#[]⟩=true:=by decide
 simp only[fnH,f249,YF,YE,Yh,go_sem,seval,a,b,c,d];obtain ⟨v1,e,h⟩:=Zn h;refine ZA (ZdS e)<|yA ?_;refine yB h (fun _ h=>?_) fun _ h=>?_;obtain ⟨_,f,h⟩:=Zn h;refine ZA (Zib f) ?_;cases h;exact yD;obtain ⟨_,g,h⟩:=Zn h;refine ZA (ZaU g) ?_;cases h;exact yD
theorem Zdf{A:Zo}{B:List Zx}{r:(Za×Bool)}(h:Xu A B=some r):Zp prog J0 48 [(true,ZaW A),(false,[.sl 149 2 (A0 Yi B)])] [(true,[(false,.str r.1.rel),(false,.sl 9 1 (A0 ZC r.1.args))]),(false,[(false,.bool r.2)])]:=by
 refine fnk func48 rfl ?_;unfold Xu at h;simp only[fnS,f48,Zt,go_sem,seval];refine Zc h fun v1 f h=>Zd (QM f)<|yA ?_;refine yB h (fun _ h=>?_) fun _ h=>?_;refine Zc h fun _ g h=>Zd (ZaN g)<|yA ?_;refine yB h (fun _ h=>?_) fun _ h=>?_;refine Zk h (fun i a st=>IV [(1,yM (yZ B)),(4,.bp 0 0),(6,.bp 1 0),(24,yM (yV A.args)),(25,yL A.args.length),(26,yL i)] [.box 35 [.c (.str ⟨#[]⟩),.nil 9 1],.box 35 [.c (.str A.rel),.row 2],.row 9 1 (A0 ZC a) 2] st) [(true,224,1)] [16,224,320] yF yD ?_ ?_;rintro _ _ a ⟨_,_,_⟩ _ b d k h l;simp only[go_sem,seval,Zb]at d;obtain ⟨⟨_,_,_,m,_,_⟩,_,_,_,C⟩:=d;subst C;have o:=WF.slotL k m (j:=0) rfl;have:=ZH b;have:=ZI b;have:=Zm (ZG b) o;simp only[*,go_sem,seval];refine Zc h fun _ q h=>Zd (Zea q)<|yA ?_;refine yB h (fun _ h=>?_) fun _ h=>?_;obtain ⟨t,h⟩:=Zs h;try simp only[Nat.reduceLeDiff]at t
 simp only[*,go_sem,seval];exact yR h [0,1,291];replace h:=Zr h l;cases h;exact yD;rintro a ⟨_,_,_⟩ e _ h;simp only[go_sem,seval,Zb]at e;obtain ⟨⟨_,_,_,_,_,_⟩,_,_,_,C⟩:=e;subst C;have:=ZE (A.args.length);iterate 3 (cases h;exact yD)
theorem ZkO{a:List Za}{D:Za}{r:List Za}(h:X8 a D=some r):Zp prog J0 29 [(false,[.sl 35 2 (A0 Zq a)]),(true,Zq D)] [(false,[(false,.sl 35 2 (A0 Zq r))])]:=by
 refine fnk func29 rfl ?_;unfold X8 at h;simp only[fnS,f29,Zt,go_sem,seval];refine Zk h (fun i s st=>match s with|(b,d)=>IV [(3,.bp 0 0),(5,.p false [.row 1]),(6,yM (.bool d)),(9,yM (yU a)),(10,yL a.length),(11,yL i)] [zF 35 (Zq D),.row 35 2 (A0 Zq b) 2] st) [(false,5,0)] [0,112] yF yD ?_ ?_;rintro _ _ ⟨b,d⟩ ⟨_,_,_⟩ _ e f l h _;simp only[go_sem,seval,Zb]at f;obtain ⟨⟨_,_,_,m,_,_⟩,_,_,E⟩:=f;subst E;have o:=WF.slotL l m (j:=0) rfl;have:=ZH e;have:=ZI e;have:=Zm (ZG e) o;simp only[*,go_sem,seval];refine yB h (fun _ h=>?_) fun _ h=>?_;refine Zc h fun _ q h=>Zd (Xi q) ?_;obtain ⟨t,h⟩:=Zs h;try simp only[Nat.reduceLeDiff]at t
 simp only[*,go_sem,seval];exact yR h [0,274];refine Zc h fun _ u h=>Zd (Zfs u)<|yA ?_;refine yB h (fun _ h=>?_) fun _ h=>?_;refine Zc h fun _ v h=>Zd (Xi v) ?_;obtain ⟨w,h⟩:=Zs h;try simp only[Nat.reduceLeDiff]at w
 simp only[*,go_sem,seval];refine Zc h fun _ x h=>Zd (Xi x) ?_;obtain ⟨y,h⟩:=Zs h;try simp only[Nat.reduceLeDiff]at y
 simp only[*,go_sem,seval];exact yR h [0,386];refine Zc h fun _ z h=>Zd (Xi z) ?_;obtain ⟨A,h⟩:=Zs h;try simp only[Nat.reduceLeDiff]at A
 simp only[*,go_sem,seval];exact yR h [0,274];rintro ⟨b,d⟩ ⟨_,_,_⟩ g _ h;simp only[go_sem,seval,Zb]at g;obtain ⟨⟨_,_,_,_,_,_⟩,_,_,E⟩:=g;subst E;have:=ZE (a.length);simp only[*,go_sem,seval];refine yB h (fun _ h=>?_) fun _ h=>?_;cases h;exact yD;refine Zc h fun _ B h=>Zd (Xi B) ?_;obtain ⟨C,h⟩:=Zs h;try simp only[Nat.reduceLeDiff]at C
 cases h;exact yD
theorem Ziw{A:Zu}{r:Bool}(h:ZeB A=some r):Zp prog J0 158 [(true,ZT A)] [(false,[(false,.bool r)])]:=by
 refine fnk func158 rfl ?_;unfold ZeB at h;have a:ZB ⟨#[]⟩=true:=by decide
 simp only[fnS,f158,Zt,go_sem,seval,a];refine yB h (fun _ h=>?_) fun _ h=>?_;refine Zc h fun v1 b h=>Zd (QM b)<|yA ?_;iterate 2 refine yB h (fun _ h=>?_) fun _ h=>?_
 iterate 3 (cases h;exact yD)
 refine yB h (fun _ h=>?_) fun _ h=>?_;refine Zc h fun _ c h=>Zd (QM c)<|yA ?_;iterate 2 refine yB h (fun _ h=>?_) fun _ h=>?_
 iterate 3 (cases h;exact yD)
 refine yB h (fun _ h=>?_) fun _ h=>?_;refine Zc h fun _ d h=>Zd (Za0 d)<|yA ?_;refine yB h (fun _ h=>?_) fun _ h=>?_;refine Zc h fun _ e h=>Zd (Za0 e)<|yA ?_;refine yB h (fun _ h=>?_) fun _ h=>?_;refine Zc h fun _ f h=>Zd (Zba f) ?_;iterate 3 (cases h;exact yD)
 refine yB h (fun _ h=>?_) fun _ h=>?_;refine Zc h fun _ g h=>Zd (Za0 g)<|yA ?_;refine yB h (fun _ h=>?_) fun _ h=>?_;refine Zc h fun _ i h=>Zd (Za0 i)<|yA ?_;refine yB h (fun _ h=>?_) fun _ h=>?_;refine Zc h fun _ j h=>Zd (Zba j) ?_;iterate 3 (cases h;exact yD)
 refine yB h (fun _ h=>?_) fun _ h=>?_;refine Zc h fun _ k h=>Zd (Za0 k)<|yA ?_;refine yB h (fun _ h=>?_) fun _ h=>?_;refine Zc h fun _ l h=>Zd (Za0 l)<|yA ?_;refine yB h (fun _ h=>?_) fun _ h=>?_;refine Zc h fun _ m h=>Zd (Zba m) ?_;iterate 4 (cases h;exact yD)
end
section
theorem ZsL{A:Zf}{r:List ByteArray}(h:ZcR A=some r):Zp prog J0 232 [(true,ZF A)] [(false,[(false,.sl 9 1 (A0 ZC r))])]:=by
 refine fnk func232 rfl ?_;unfold ZcR at h;simp only[fnS,f232,Zt,go_sem,seval];refine Zk h (fun i a st=>IV [(3,.p false [.row 0]),(7,yM (yY A.cond)),(8,yL A.cond.length),(9,yL i)] [.row 9 1 (A0 ZC a) 2] st) [(false,3,0)] [112] yF yD ?_ ?_;rintro _ _ a ⟨_,_,_⟩ _ b d f h _;simp only[go_sem,seval,Zb]at d;obtain ⟨⟨_,g,_,_⟩,_,B⟩:=d;subst B;have k:=WF.slotL f g (j:=0) rfl;have:=ZH b;have:=ZI b;have:=Zm (ZG b) k;simp only[*,go_sem,seval];refine yB h (fun _ h=>?_) fun _ h=>?_;obtain ⟨l,h⟩:=Zs h;try simp only[Nat.reduceLeDiff]at l
 simp only[*,go_sem,seval];exact yR h [289];refine yB h (fun _ h=>?_) fun _ h=>?_;obtain ⟨m,h⟩:=Zs h;try simp only[Nat.reduceLeDiff]at m
 simp only[*,go_sem,seval];exact yR h [289];exact yR h [0];rintro a ⟨_,_,_⟩ e _ h;simp only[go_sem,seval,Zb]at e;obtain ⟨⟨_,_,_,_⟩,_,B⟩:=e;subst B;have:=ZE (A.cond.length);simp only[*,go_sem,seval];refine Zc h fun _ o h=>Zd (QI o) ?_;cases h;exact yD
theorem ZmW{B A:Zh}{r:Bool}(h:Zcj B A=some r):Zp prog J0 155 [(true,ZJ B),(true,ZJ A)] [(false,[(false,.bool r)])]:=by
 refine fnk func155 rfl ?_;unfold Zcj at h;simp only[fnS,f155,Zt,go_sem,seval];refine yB h (fun _ h=>?_) fun _ h=>?_;refine Zc h fun v1 a h=>Zd (Zjs a)<|yA ?_;refine yB h (fun _ h=>?_) fun _ h=>?_;refine Zc h fun _ b h=>Zd (Zjs b) ?_;iterate 3 (cases h;exact yD)
theorem Zvb{b:Zl}{r:List Int}(h:Zif b=some r):Zp prog J0 115 [(true,YY b)] [(false,[(false,.sl 3 1 (A0 ZP r))])]:=by
 refine fnk func115 rfl ?_;unfold Zif at h;simp only[fnS,f115,Zt,go_sem,seval];refine Zc h fun v1 A h=>Zd (ZuZ A) ?_;obtain ⟨_,h⟩:=Zs h;simp only[*,go_sem,seval];refine Ym h (fun s st=>match s with|(q,t,e)=>IV [(1,.bp 0 0),(3,.p false [.row 1]),(4,.p false [.row 2]),(5,yM (.int .i64 e)),(20,yM (.int .i64 ((AC b.nodes:Nat):Int))),(21,yM (.int .i64 t))] [.box 53 [.c (.int .i64 b.nodes),.c (zB b.reasons)],.row 3 1 (A0 ZP v1) 2,.row 3 1 (A0 ZP q) 2] st) [] [0,48,112] yF yD ?_;rintro ⟨q,t,e⟩ ⟨_,_,_⟩ _ u _ h B;simp only[go_sem,seval,Zb]at u;obtain ⟨⟨_,_,_,_,_,_⟩,_,_,_,L⟩:=u;subst L;simp only[*,go_sem,seval];refine yB h (fun _ h=>?_) fun _ h=>?_;obtain ⟨_,h⟩:=Zs h;obtain ⟨_,_,h⟩:=Zn h;obtain ⟨_,h⟩:=Zs h;obtain ⟨_,_,h⟩:=Zn h;simp only[*,go_sem,seval];exact yR h [0,1,2]
 refine Ym h (fun s st=>match s with|(k,f,g)=>IV [(1,.bp 0 0),(3,.p false [.row 1]),(4,.p false [.row 2]),(5,yM (.int .i64 e)),(7,yM (.int .i64 f)),(8,yM (.int .i64 g))] [.box 53 [.c (.int .i64 b.nodes),.c (zB b.reasons)],.row 3 1 (A0 ZP v1) 2,.row 3 1 (A0 ZP k) 2] st) [] [0,1,2] yF yD ?_;rintro ⟨k,f,g⟩ ⟨_,_,_⟩ _ v _ h C;simp only[go_sem,seval,Zb]at v;obtain ⟨⟨_,_,_,_,_,_⟩,_,_,_,L⟩:=v;subst L;simp only[*,go_sem,seval];refine yB h (fun _ h=>?_) fun _ h=>?_;refine Zk h (fun i d st=>IV [(1,.bp 0 0),(3,.p false [.row 1]),(4,.p false [.row 2]),(5,yM (.int .i64 e)),(7,yM (.int .i64 f)),(8,yM (.int .i64 g)),(9,.p false [.row 3]),(38,yM (zB b.reasons)),(39,yL b.reasons.length),(40,yL i)] [.box 53 [.c (.int .i64 b.nodes),.c (zB b.reasons)],.row 3 1 (A0 ZP v1) 2,.row 3 1 (A0 ZP k) 2,.row 3 1 (A0 ZP d) 2] st) [(false,9,0)] [0,1,2,131] yF yD ?_ ?_;rintro _ _ d ⟨_,_,_⟩ _ l w D h _
 simp only[go_sem,seval,Zb]at w;obtain ⟨⟨_,_,_,_,_,_,_,E,_,_⟩,_,_,_,_,L⟩:=w;subst L;have F:=WF.slotL D E (j:=0) rfl;have:=ZH l;have:=ZI l;have:=Zm (ZG l) F;obtain ⟨_,h⟩:=Zs h;obtain ⟨_,_,h⟩:=Zn h;simp only[*,go_sem,seval];refine yB h (fun _ h=>?_) fun _ h=>?_;obtain ⟨_,h⟩:=Zs h;obtain ⟨_,_,h⟩:=Zn h;simp only[*,go_sem,seval];refine yB h (fun _ h=>?_) fun _ h=>?_;refine Zc h fun _ G h=>Zd (Zo0 G)<|yA ?_;refine yB h (fun _ h=>?_) fun _ h=>?_;obtain ⟨H,h⟩:=Zs h;try simp only[Nat.reduceLeDiff]at H
 simp only[*,go_sem,seval];exact yR h [0,1,2,484];exact yR h [0,1,2,3];exact yR h [0,1,2,3];exact yR h [0,1,2,3];rintro d ⟨_,_,_⟩ x _ h;simp only[go_sem,seval,Zb]at x;obtain ⟨⟨_,_,_,_,_,_,_,_,_,_⟩,_,_,_,_,L⟩:=x;subst L;have:=ZE (b.reasons.length);simp only[*,go_sem,seval];refine yB h (fun _ h=>?_) fun _ h=>?_;exact yR h [0,1,2];refine Zk h (fun i m st=>IV [(1,.bp 0 0),(3,.p false [.row 1]),(4,.p false [.row 2]),(5,yM (.int .i64 e)),(7,yM (.int .i64 f)),(8,yM (.int .i64 g)),(76,.p false [.row 3]),(77,yL d.length),(78,yL i)] [.box 53 [.c (.int .i64 b.nodes),.c (zB b.reasons)],.row 3 1 (A0 ZP v1) 2,.row 3 1 (A0 ZP m) 2,.row 3 1 (A0 ZP d) 2] st) [] [0,1,2,3] yF yD ?_ ?_;rintro _ _ m ⟨_,_,_⟩ _ o y I h _;simp only[go_sem,seval,Zb]at y;obtain ⟨⟨_,_,_,_,_,_,_,_,_⟩,_,_,_,J,L⟩:=y;subst L;have K:=WF.rowL I J;have:=ZH o;have:=ZI o;have:=Zm (ZG o) K;obtain ⟨_,h⟩:=Zs h;obtain ⟨_,_,h⟩:=Zn h
 simp only[*,go_sem,seval];exact yR h [0,1,2,3];rintro m ⟨_,_,_⟩ z _ h;simp only[go_sem,seval,Zb]at z;obtain ⟨⟨_,_,_,_,_,_,_,_,_⟩,_,_,_,_,L⟩:=z;subst L;have:=ZE (d.length);simp only[*,go_sem,seval];exact yR h [0,1,2];replace h:=Zr h C;replace h:=Zr h B;cases h;exact yD
end
end Go.Proofs.YtnacpkmpdlodoaaGreatDoor
