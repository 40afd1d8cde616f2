/- Texts of this proof, joined: PL, E1, P1, E2, E3, E15, P5, F3, F4, P14, R14, S14, F6, F7, M13, P13. What each holds is said at its theorems. -/
import Derived.Test.YtojnhepgnbhaaaaGreatDoorProvesQ1
import Derived.Lib.ItoaLen
import Derived.Laws.BitsLemmas
import Derived.Lib.Bytealg
set_option linter.unusedSimpArgs false
set_option linter.unusedVariables false
namespace Go.Proofs.YtojnhepgnbhaaaaGreatDoor
section
variable {α σ ρ:Type} {body:Nat→α→σ→Option (σ ⊕ ρ)} {fin:σ→Option ρ}
theorem Zj7 (i:Nat) (s:σ):Zp body fin [] i s=fin s:=rfl
theorem Ye {x:α} {l:List α} {i:Nat} {s s':σ} (h:body i x s=some (.inl s')):Zp body fin (x::l) i s=Zp body fin l (i+1) s':=by simp only [Zp,h]
theorem Yy {x:α} {l:List α} {i:Nat} {s:σ} {r:ρ} (h:body i x s=some (.inr r)):Zp body fin (x::l) i s=some r:=by simp only [Zp,h]
theorem Yf {p:α→Bool} {r:ρ}:∀{l:List α} {i:Nat} {s:σ},(∀i x,x∈l→body i x s=some (bif p x then .inl s else .inr r))→Zp body fin l i s=if l.all p=true then fin s else some r
 | [],_,_,_=>by simp [Zp]
 | x::l,i,s,h=>by
  have hx:=h i x (by simp)
  by_cases hp:p x=true
  ·rw [hp,cond_true] at hx
   rw [Ye hx,Yf fun j y my=>h j y (by simp [my])]
   simp [hp]
  ·rw [eq_false_of_ne_true hp,cond_false] at hx
   rw [Yy hx]
   simp [hp]
theorem ZcB {p:α→Bool} {r:ρ}:∀{l:List α} {i:Nat} {s:σ},(∀i x,x∈l→body i x s=some (bif p x then .inr r else .inl s))→Zp body fin l i s=if l.any p=true then some r else fin s
 | [],_,_,_=>by simp [Zp]
 | x::l,i,s,h=>by
  have hx:=h i x (by simp)
  by_cases hp:p x=true
  ·rw [hp,cond_true] at hx
   rw [Yy hx]
   simp [hp]
  ·rw [eq_false_of_ne_true hp,cond_false] at hx
   rw [Ye hx,ZcB fun j y my=>h j y (by simp [my])]
   simp [hp]
theorem ZaR {f:σ→α→σ} (I:Nat→σ→Prop):∀{l:List α} {i:Nat} {s:σ},I i s→(∀j x s,x∈l→i≤j→j<i+l.length→I j s→body j x s=some (.inl (f s x))∧I (j+1) (f s x))→Zp body fin l i s=fin (l.foldl f s)
 | [],_,_,_,_=>rfl
 | x::l,i,s,h0,h=>by
  obtain ⟨h1,h2⟩:=h i x s (by simp) (by omega) (by simp) h0
  rw [Ye h1,ZaR I h2 fun j y s my hj hl=>h j y s (by simp [my]) (by omega) (by simp at hl ⊢;omega)]
  rfl
theorem ZBD {f:σ→α→σ} {l:List α} {i:Nat} {s:σ} (h:∀j x s,x∈l→body j x s=some (.inl (f s x))):Zp body fin l i s=fin (l.foldl f s):=
 ZaR (fun _ _=>True) trivial fun j x s mx _ _ _=>⟨h j x s mx,trivial⟩
theorem Zad (g:List α→Nat→σ→Option ρ) (I:List α→Nat→σ→Prop) (h0:∀i s,I [] i s→fin s=g [] i s)
  (h1:∀x l i s,I (x::l) i s→(∃s',body i x s=some (.inl s')∧I l (i+1) s'∧g (x::l) i s=g l (i+1) s')∨(∃r,body i x s=some (.inr r)∧g (x::l) i s=some r)):∀(l:List α) (i:Nat) (s:σ),I l i s→Zp body fin l i s=g l i s
 | [],i,s,h=>h0 i s h
 | x::l,i,s,h=>by
  rcases h1 x l i s h with ⟨s',e1,e2,e3⟩ | ⟨r,e1,e2⟩
  ·rw [Ye e1,Zad g I h0 h1 l (i+1) s' e2,e3]
  ·rw [Yy e1,e2]
end
def Zbr {α:Type} (p:Nat→α→Bool):List α→Nat→Bool
 | [],_=>true
 | x::l,i=>p i x&&Zbr p l (i+1)
theorem Zm3 {α:Type} {p:Nat→α→Bool}:∀{l:List α} {i:Nat},Zbr p l i=true→∀j x,l[j]?=some x→p (i+j) x=true
 | [],_,_,j,x,hx=>by simp at hx
 | y::l,i,h,0,x,hx=>by simp only [Zbr,Bool.and_eq_true] at h;simp at hx;subst hx;exact h.1
 | y::l,i,h,j+1,x,hx=>by
  simp only [Zbr,Bool.and_eq_true] at h
  have:=Zm3 h.2 j x (by simpa using hx)
  rwa [show i+(j+1)=i+1+j by omega]
section
variable {α σ ρ:Type} {body:Nat→α→σ→Option (σ ⊕ ρ)} {fin:σ→Option ρ}
theorem X7 {p:Nat→α→Bool} {r:ρ}:∀{l:List α} {i:Nat} {s:σ},(∀j x,l[j]?=some x→body (i+j) x s=some (bif p (i+j) x then .inl s else .inr r))→Zp body fin l i s=if Zbr p l i=true then fin s else some r
 | [],_,_,_=>by simp [Zp,Zbr]
 | x::l,i,s,h=>by
  have hx:=h 0 x (by simp)
  simp only [Nat.add_zero] at hx
  by_cases hp:p i x=true
  ·rw [hp,cond_true] at hx
   rw [Ye hx,X7 fun j y hy=>by have:=h (j+1) y (by simpa using hy);rwa [show i+(j+1)=i+1+j by omega] at this]
   simp [Zbr,hp]
  ·rw [eq_false_of_ne_true hp,cond_false] at hx
   rw [Yy hx]
   simp [Zbr,hp]
theorem YY {β:Type} {g:α→Option β} {fin:List β→Option ρ} {body:Nat→α→List β→Option (List β ⊕ ρ)}:∀{l:List α} {i:Nat} {acc:List β},(∀j x s,x∈l→s.length+1≤acc.length+l.length→body j x s=some (.inl (s++(g x).toList)))→Zp body fin l i acc=fin (acc++l.filterMap g)
 | [],_,acc,_=>by simp [Zp]
 | x::l,i,acc,h=>by
  rw [Ye (h i x acc (by simp) (by simp))]
  rw [YY fun j y s my hs=>h j y s (by simp [my]) (by cases hg:g x<;>simp [hg] at hs ⊢<;>omega)]
  congr 1
  cases hg:g x<;>simp [hg]
theorem Zov {β:Type} {g:α→β} {fin:List β→Option ρ} {body:Nat→α→List β→Option (List β ⊕ ρ)} {l:List α} {i:Nat} {acc:List β} (h:∀j x s,x∈l→s.length+1≤acc.length+l.length→body j x s=some (.inl (s++[g x]))):Zp body fin l i acc=fin (acc++l.map g):=by
 rw [YY (g:=fun x=>some (g x)) h,List.filterMap_eq_map']
theorem ZdE {p:α→Bool} {fin:List α→Option ρ} {body:Nat→α→List α→Option (List α ⊕ ρ)} {l:List α} {i:Nat} {acc:List α} (h:∀j x s,x∈l→s.length+1≤acc.length+l.length→body j x s=some (.inl (if p x=true then s++[x] else s))):Zp body fin l i acc=fin (acc++l.filter p):=by
 rw [YY (g:=fun x=>if p x=true then some x else none) fun j x s mx hs=>by rw [h j x s mx hs];split<;>simp]
 congr 2
 induction l with
 | nil=>rfl
 | cons x l ih=>
  have ih:=ih fun j y s my hs=>h j y s (by simp [my]) (by simp at hs ⊢;omega)
  by_cases hp:p x=true<;>simp [hp,ih]
end
/- texts -/
theorem ZT {x y:ByteArray}:sEq x y=true↔x=y:=by simp [sEq]
theorem ZC3 {x y:ByteArray}:sEq x y=false↔¬x=y:=by simp [sEq]
theorem Ztb (x:ByteArray):sEq x x=true:=ZT.2 rfl
theorem ZeE {x y:ByteArray} (h:toL x=toL y):x=y:=by rw [←Zid x,←Zid y,h]
theorem Zck (x:ByteArray):(toL x).length=x.size:=by rw [toL,ByteArray.size,Array.length_toList]
theorem ZgW:∀(a b:List UInt8),Op.bytesLess a b=true↔a<b
 | [],[]=>by simp [Op.bytesLess]
 | [],_::_=>by simp [Op.bytesLess]
 | _::_,[]=>by simp [Op.bytesLess]
 | x::a,y::b=>by
  rw [List.cons_lt_cons_iff,←ZgW a b]
  simp only [Op.bytesLess]
  by_cases h:x<y
  ·simp [h]
  ·by_cases h2:x=y
   ·subst h2;simp [h]
   ·simp [h,h2]
theorem Ze0 {x y:ByteArray}:sLt x y=true↔toL x<toL y:=by
 unfold sLt toL
 rw [ZgW,ByteArray.toList_eq,ByteArray.toList_eq]
theorem Zhh (x:ByteArray):sLt x x=false:=by
 cases h:sLt x x with
 | false=>rfl
 | true=>exact absurd (Ze0.1 h) (List.lt_irrefl _)
theorem Zed {x y z:ByteArray} (h1:sLt x y=true) (h2:sLt y z=true):sLt x z=true:=Ze0.2 (List.lt_trans (Ze0.1 h1) (Ze0.1 h2))
theorem ZiK {x y:ByteArray} (h1:sLt x y=true):sLt y x=false:=by
 cases h:sLt y x with
 | false=>rfl
 | true=>have:=Zed h1 h;rw [Zhh] at this;simp at this
theorem Znd {x y:ByteArray} (h:sLt x y=true):¬x=y:=fun e=>by rw [e,Zhh] at h;simp at h
theorem Zeb {x y:ByteArray} (h1:sLt x y=false) (h2:¬x=y):sLt y x=true:=by
 rcases Std.lt_trichotomy (toL x) (toL y) with h | h | h
 ·rw [Ze0.2 h] at h1;simp at h1
 ·exact absurd (ZeE h) h2
 ·exact Ze0.2 h
def Asc (l:List ByteArray):Prop:=l.Pairwise fun x y=>sLt x y=true
theorem Znu:∀{a b:List ByteArray},Asc a→Asc b→(∀x,x∈a↔x∈b)→a=b
 | [],[],_,_,_=>rfl
 | [],y::b,_,_,h=>by have:=(h y).2 (by simp);simp at this
 | x::a,[],_,_,h=>by have:=(h x).1 (by simp);simp at this
 | x::a,y::b,ha,hb,h=>by
  unfold Asc at ha hb
  rw [List.pairwise_cons] at ha hb
  have hxy:x=y:=by
   have h1:=(h x).1 (by simp)
   have h2:=(h y).2 (by simp)
   rcases List.mem_cons.1 h1 with h1 | h1
   ·exact h1
   ·rcases List.mem_cons.1 h2 with h2 | h2
    ·exact h2.symm
    ·have:=ZiK (ha.1 y h2);rw [hb.1 x h1] at this;simp at this
  subst hxy
  congr 1
  refine Znu ha.2 hb.2 fun z=>?_
  have hz:=h z
  simp only [List.mem_cons] at hz
  constructor
  ·intro m
   rcases hz.1 (.inr m) with e | m'
   ·exact absurd e.symm (Znd (ha.1 z m))
   ·exact m'
  ·intro m
   rcases hz.2 (.inr m) with e | m'
   ·exact absurd e.symm (Znd (hb.1 z m))
   ·exact m'
def Qk:List ByteArray→ByteArray→List ByteArray
 | [],s=>[s]
 | x::r,s=>if sLt x s=true then x::Qk r s else if sEq x s=true then x::r else s::x::r
theorem ZhU {y s:ByteArray}:∀{l:List ByteArray},y∈Qk l s↔y=s∨y∈l
 | []=>by simp [Qk]
 | x::r=>by
  simp only [Qk]
  split
  ·simp only [List.mem_cons,ZhU (l:=r)]
   constructor<;>(intro h;rcases h with h | h | h<;>simp [h])
  ·split
   ·rename_i h
    have:=ZT.1 h
    subst this
    simp
   ·simp
theorem Zfm {s:ByteArray}:∀{l:List ByteArray},Asc l→Asc (Qk l s)
 | [],_=>by simp [Qk,Asc]
 | x::r,h=>by
  have h':=h
  unfold Asc at h'
  rw [List.pairwise_cons] at h'
  simp only [Qk]
  split
  ·rename_i hx
   refine List.pairwise_cons.2 ⟨fun y my=>?_,Zfm h'.2⟩
   rcases ZhU.1 my with rfl | my
   ·exact hx
   ·exact h'.1 y my
  ·split
   ·exact h
   ·rename_i hx hne
    have hsx:sLt s x=true:=Zeb (by simpa using hx) (fun e=>hne (ZT.2 e))
    refine List.pairwise_cons.2 ⟨fun y my=>?_,h⟩
    rcases List.mem_cons.1 my with rfl | my
    ·exact hsx
    ·exact Zed hsx (h'.1 y my)
theorem ZcC (s:ByteArray):∀l:List ByteArray,(Qk l s).length≤l.length+1
 | []=>by simp [Qk]
 | x::r=>by
  have:=ZcC s r
  simp only [Qk]
  split
  ·simp;omega
  ·split<;>simp
def ZR (l:List ByteArray):List ByteArray:=l.foldl Qk []
theorem XY:∀(l acc:List ByteArray),Asc acc→Asc (l.foldl Qk acc)∧(∀x,x∈l.foldl Qk acc↔x∈l∨x∈acc)∧(l.foldl Qk acc).length≤l.length+acc.length
 | [],acc,h=>⟨h,fun x=>by simp,by simp⟩
 | y::l,acc,h=>by
  obtain ⟨h1,h2,h3⟩:=XY l (Qk acc y) (Zfm h)
  refine ⟨h1,fun x=>?_,?_⟩
  ·rw [List.foldl_cons,h2 x,ZhU]
   rw [List.mem_cons]
   constructor
   ·rintro (h | h | h)<;>simp [h]
   ·rintro ((h | h) | h)<;>simp [h]
  ·have:=ZcC y acc
   rw [List.foldl_cons]
   simp only [List.length_cons]
   omega
theorem Zca (l:List ByteArray):Asc (ZR l):=(XY l [] List.Pairwise.nil).1
theorem ZW {x:ByteArray} {l:List ByteArray}:x∈ZR l↔x∈l:=by have:=(XY l [] List.Pairwise.nil).2.1 x;rw [ZR,this];simp
theorem ZdQ (l:List ByteArray):(ZR l).length≤l.length:=(XY l [] List.Pairwise.nil).2.2
theorem ZeX {a l:List ByteArray} (h:Asc a) (hm:∀x,x∈a↔x∈l):a=ZR l:=Znu h (Zca l) fun x=>by rw [hm,ZW]
theorem ZlC {a b:List ByteArray} (h:∀x,x∈a↔x∈b):ZR a=ZR b:=ZeX (Zca a) fun x=>by rw [ZW,h]
def YE (l:List ByteArray) (s:ByteArray):Bool:=l.any fun x=>sEq x s
theorem X8 {l:List ByteArray} {s:ByteArray}:YE l s=true↔s∈l:=by
 simp only [YE,List.any_eq_true,ZT]
 constructor
 ·rintro ⟨x,h,rfl⟩;exact h
 ·exact fun h=>⟨s,h,rfl⟩
/- sorting -/
theorem Zrc {x:ByteArray} {l:List ByteArray}:x∈Zes l↔x∈l:=by
 simp only [Zes,List.mem_map,List.mem_mergeSort]
 constructor
 ·rintro ⟨y,⟨z,hz,rfl⟩,rfl⟩;rw [Zid];exact hz
 ·exact fun h=>⟨toL x,⟨x,h,rfl⟩,Zid x⟩
theorem Zrj (l:List ByteArray):(Zes l).length=l.length:=by simp [Zes]
theorem Zs6 (l:List ByteArray):(Zes l).Pairwise fun x y=>sLt y x=false:=by
 unfold Zes
 rw [List.pairwise_map]
 have:=List.pairwise_mergeSort (le:=fun x y:List UInt8=>decide (x≤y)) (fun a b c h1 h2=>by simp at h1 h2 ⊢;exact List.le_trans h1 h2) (fun a b=>by simp;exact List.le_total a b) (l.map toL)
 refine this.imp fun {a b} h=>?_
 cases hh:sLt (ofL b) (ofL a) with
 | false=>rfl
 | true=>
  have h1:=Ze0.1 hh
  rw [ZbN,ZbN] at h1
  have h2:a≤b:=by simpa using h
  exact absurd h1 (List.not_lt.2 h2)
end Go.Proofs.YtojnhepgnbhaaaaGreatDoor
namespace Go.Proofs.YtojnhepgnbhaaaaGreatDoor
theorem Zdc (a b:ByteArray):toL (a++b)=toL a++toL b:=by simp [toL]
theorem ZpB (a b:List UInt8):ofL (a++b)=ofL a++ofL b:=ZeE (by rw [Zdc,ZbN,ZbN,ZbN])
theorem ZhH (a:List UInt8):(ofL a).size=a.length:=by rw [←Zck,ZbN]
theorem ZsS (a b c:ByteArray):(a++b)++c=a++(b++c):=ZeE (by simp only [Zdc,List.append_assoc])
theorem Zuh (a b:ByteArray):(a++b).size=a.size+b.size:=by rw [←Zck,←Zck,←Zck,Zdc,List.length_append]
theorem ZdA {n:Int} (h0:-9223372036854775808≤n) (h1:n≤9223372036854775807):IntKind.i64.wrap n=n:=by rw [IntKind.wrap_i64];omega
theorem Zsi (u:Nat) (hu:u<9223372036854775808):Y9 [IntKind.u8.wrap (IntKind.i64.wrap (48+Int.tmod (u:Int) 10))]=ofL [UInt8.ofNat (48+u % 10)]:=by
 have h1:Int.tmod (u:Int) 10=((u % 10:Nat):Int):=by rw [Int.tmod_eq_emod_of_nonneg (by omega)];omega
 rw [h1,ZdA (by omega) (by omega),IntKind.wrap_u8,show (48+((u % 10:Nat):Int)) % 256=((48+u % 10:Nat):Int) by omega]
 apply ZeE
 rw [ZbN]
 simp only [Y9,List.map_cons,List.map_nil,toL,Int.toNat_natCast]
theorem Zt1 (u:Nat) (hu:u<9223372036854775808):IntKind.i64.wrap (Int.tdiv (u:Int) 10)=((u / 10:Nat):Int):=by
 rw [Int.tdiv_eq_ediv_of_nonneg (by omega),ZdA (by omega) (by omega)]
 omega
theorem Zr5 {body:Int × ByteArray→Option ((Int × ByteArray) ⊕ ByteArray)} (hb:∀n t,body (n,t)=chk ((Y9 [IntKind.u8.wrap (IntKind.i64.wrap (48+Int.tmod n 10))]).size+t.size≤9223372036854775807)
   (if (IntKind.i64.wrap (Int.tdiv n 10)==0)=true then some (.inr (Y9 [IntKind.u8.wrap (IntKind.i64.wrap (48+Int.tmod n 10))]++t)) else some (.inl (IntKind.i64.wrap (Int.tdiv n 10),Y9 [IntKind.u8.wrap (IntKind.i64.wrap (48+Int.tmod n 10))]++t)))):
  ∀(u:Nat) (t:ByteArray),u<9223372036854775808→t.size+Lib.nDigits u≤1000→Zdu body ((u:Int),t)=some (ofL (Lib.decDigits u)++t):=by
 intro u
 induction u using Nat.strongRecOn with
 | ind u ih=>
  intro t hu ht
  rw [Zic,hb,Zsi u hu,Zt1 u hu]
  have hp:=Lib.nDigits_pos u
  rw [Zj _ (by rw [ZhH];simp;omega)]
  by_cases h:u<10
  ·have h0:u / 10=0:=by omega
   rw [h0,Lib.decDigits_one h,show u % 10=u by omega]
   rfl
  ·have h0:¬(((u / 10:Nat):Int)==0)=true:=by simp;omega
   rw [if_neg h0]
   have hd:=Lib.nDigits_big h
   show Zdu body (((u / 10:Nat):Int),ofL [UInt8.ofNat (48+u % 10)]++t)=_
   rw [ih (u / 10) (by omega) _ (by omega) (by rw [Zuh,ZhH];simp;omega),←ZsS,←ZpB]
   congr 2
   rw [show Lib.decDigits u=Lib.decDigits (u / 10)++[UInt8.ofNat (48+u % 10)] by rw [Lib.decDigits,dif_neg h]]
theorem ZvX (t:ByteArray):t++(⟨#[]⟩:ByteArray)=t:=ZeE (by rw [Zdc];simp [toL])
theorem Zmc {body:Int × ByteArray→Option ((Int × ByteArray) ⊕ ByteArray)} (hb:∀n t,body (n,t)=chk ((Y9 [IntKind.u8.wrap (IntKind.i64.wrap (48+Int.tmod n 10))]).size+t.size≤9223372036854775807)
   (if (IntKind.i64.wrap (Int.tdiv n 10)==0)=true then some (.inr (Y9 [IntKind.u8.wrap (IntKind.i64.wrap (48+Int.tmod n 10))]++t)) else some (.inl (IntKind.i64.wrap (Int.tdiv n 10),Y9 [IntKind.u8.wrap (IntKind.i64.wrap (48+Int.tmod n 10))]++t))))
  {n:Int} (h0:0≤n) (h1:n≤9223372036854775807):Zdu body (n,⟨#[]⟩)=some (ofL (Lib.itoa n)):=by
 obtain ⟨u,rfl⟩:∃u:Nat,n=(u:Int):=⟨n.toNat,by omega⟩
 have:=Lib.nDigits_le20 u (by omega)
 rw [Zr5 hb u _ (by omega) (by show 0+_≤_;omega),ZvX,Lib.itoa_nonneg]
theorem Zp0:ofL (Lib.itoa (-9223372036854775808))=(⟨#[45,57,50,50,51,51,55,50,48,51,54,56,53,52,55,55,53,56,48,56]⟩:ByteArray):=by
 rw [show (-9223372036854775808:Int)=-((9223372036854775808:Nat):Int) by rfl,Lib.itoa_neg _ (by omega),Lib.decDigits_eq,Lib.nDigits_unique 18 _ (by decide) (by decide)]
 decide +kernel
theorem Zir {n:Int} (h0:0≤n) (h1:n≤9223372036854775807):Zab n=some (ofL (Lib.itoa n)):=by
 unfold Zab
 rw [if_neg (by simp;omega),if_neg (by simp;omega)]
 exact Zmc (fun _ _=>rfl) h0 h1
theorem Zlb {n:Int} (h:Zjk n):ZaQ n=some (ofL (Lib.itoa n)):=by
 unfold ZaQ
 by_cases hm:n=-9223372036854775808
 ·subst hm
  rw [if_pos (by decide),Zp0]
 ·rw [if_neg (by simpa using hm)]
  by_cases hn:n<0
  ·have h2:Zjk n:=h
   unfold Zjk at h2
   rw [if_pos (by simpa using hn),ZdA (by omega) (by omega),Zir (by omega) (by omega),Option.bind_some]
   obtain ⟨u,rfl⟩:∃u:Nat,n=-(u:Int):=⟨n.natAbs,by omega⟩
   rw [show (0 - -(u:Int))=(u:Int) by omega,Lib.itoa_nonneg,Lib.itoa_neg u (by omega)]
   have:=Lib.nDigits_le20 u (by omega)
   rw [Zj _ (by rw [ZhH,Lib.decDigits_length];show 1+_≤_;omega)]
   exact congrArg some (ZeE (by rw [Zdc,ZbN,ZbN];rfl))
  ·rw [if_neg (by simpa using hn)]
   exact Zmc (fun _ _=>rfl) (by omega) h.2
theorem Zdi {n:Int} (h:Zjk n):ZaJ n=some (ofL (Lib.itoa n)):=by
 have h2:-9223372036854775808≤n∧n≤9223372036854775807:=h
 unfold ZaJ Zm7
 rw [Zj _ h2]
 rfl
end Go.Proofs.YtojnhepgnbhaaaaGreatDoor
namespace Go.Proofs.YtojnhepgnbhaaaaGreatDoor
def Za1 (b:UInt8):Bool:=(decide (97≤b.toNat)&&decide (b.toNat≤122))||(decide (48≤b.toNat)&&decide (b.toNat≤57))
def ZO (s:ByteArray):Bool:=decide (1≤s.size)&&decide (s.size≤8)&&(toL s).all Za1
theorem Zgi (x a b:Int):ZaU x a b=some (decide (a≤x)&&decide (x≤b)):=by
 unfold ZaU
 by_cases h:a≤x<;>simp [h]
theorem ZmK (b:UInt8):IntKind.i64.wrap ((b.toNat:Nat):Int)=((b.toNat:Nat):Int):=ZjU (by omega) (by have:=b.toNat_lt;omega)
theorem QX {b:UInt8}:Za1 b=true↔(97≤b.toNat∧b.toNat≤122)∨(48≤b.toNat∧b.toNat≤57):=by
 simp only [Za1,Bool.or_eq_true,Bool.and_eq_true,decide_eq_true_eq]
theorem Qd (s:ByteArray):Qq s=some (ZO s):=by
 unfold Qq ZO
 rw [show s.data.toList=toL s from rfl,Yf (p:=Za1) (r:=false)]
 ·simp only [Zgi,Option.bind_some]
  cases (toL s).all Za1 with
  | true=>
   simp only [if_true,Bool.and_true]
   congr 1
   rw [Bool.eq_iff_iff]
   simp only [Bool.and_eq_true,decide_eq_true_eq]
   omega
  | false=>simp
 ·intro i x _
  simp only [Zgi,Option.bind_some,ZmK,Bool.and_eq_true,decide_eq_true_eq]
  cases hp:Za1 x with
  | true=>
   have:=QX.1 hp
   repeat' split
   all_goals first | rfl | (exfalso;omega) | (exfalso;simp_all;done)
  | false=>
   have:=mt (QX (b:=x)).2 (by simp [hp])
   repeat' split
   all_goals first | rfl | (exfalso;omega) | (exfalso;simp_all;done)
theorem Qe (s:ByteArray):Qr s=some (ZO s):=by
 unfold Qr ZO
 simp only [decide_eq_true_eq]
 rw [show s.data.toList=toL s from rfl,Yf (p:=Za1) (r:=false)]
 ·repeat' split
  ·rw [decide_eq_false (show ¬1≤s.size by omega)];rfl
  ·rw [decide_eq_false (show ¬s.size≤8 by omega)];simp
  ·rename_i h;rw [h,decide_eq_true (show 1≤s.size by omega),decide_eq_true (show s.size≤8 by omega)];rfl
  ·rename_i h;rw [eq_false_of_ne_true h];simp
 ·intro i x _
  cases hp:Za1 x with
  | true=>
   have:=QX.1 hp
   repeat' split
   all_goals first | rfl | (exfalso;omega) | (exfalso;simp_all;done)
  | false=>
   have:=mt (QX (b:=x)).2 (by simp [hp])
   repeat' split
   all_goals first | rfl | (exfalso;omega) | (exfalso;simp_all;done)
def ZgV (s:ByteArray):UInt8:=(toL s).headD 0
theorem ZhT {s:ByteArray} (h:1≤s.size):sAt s 0=some (ZgV s):=by
 unfold sAt ZgV
 have hl:0<(toL s).length:=by rw [Zck];omega
 have:(toL s)[0]?=some ((toL s).headD 0):=by
  cases hh:toL s with
  | nil=>rw [hh] at hl;simp at hl
  | cons a r=>simp
 rw [if_pos (by omega)]
 exact ZnD this
def Qi (s:ByteArray):Bool:=ZO s&&decide (97≤(ZgV s).toNat)
theorem Zbh {s:ByteArray} (h:ZO s=true):1≤s.size∧s.size≤8:=by
 simp only [ZO,Bool.and_eq_true,decide_eq_true_eq] at h
 exact h.1
theorem Zhu {s:ByteArray} (h:ZO s=true):Za1 (ZgV s)=true:=by
 have hs:=Zbh h
 simp only [ZO,Bool.and_eq_true] at h
 have hl:0<(toL s).length:=by rw [Zck];omega
 refine List.all_eq_true.1 h.2 _ ?_
 unfold ZgV
 cases hh:toL s with
 | nil=>rw [hh] at hl;simp at hl
 | cons a r=>simp
theorem ZfC (s:ByteArray):Zc4 s=some (Qi s):=by
 unfold Zc4 Qi
 rw [Qd,Option.bind_some]
 cases h:ZO s with
 | false=>simp
 | true=>
  simp only [if_true,ZhT (Zbh h).1,Option.bind_some,Zgi,ZmK,Bool.true_and]
  have hb:=QX.1 (Zhu h)
  congr 1
  rw [Bool.eq_iff_iff]
  simp only [Bool.and_eq_true,decide_eq_true_eq]
  omega
theorem Zfk (s:ByteArray):ZcZ s=some (Qi s):=by
 unfold ZcZ Qi
 rw [Qe,Option.bind_some]
 cases h:ZO s with
 | false=>simp
 | true=>
  simp only [if_true,ZhT (Zbh h).1,Option.bind_some,Bool.true_and]
  congr 1
  rw [Bool.eq_iff_iff]
  simp only [decide_eq_true_eq]
  omega
def Zsf (s:ByteArray):ByteArray:=s.extract 1 s.size
def Yt (s:ByteArray):Bool:=decide (1<s.size)&&decide ((ZgV s).toNat=63)&&ZO (Zsf s)
theorem QC (s:ByteArray):Zap s=some (Yt s):=by
 unfold Zap Yt Zsf
 by_cases h:1<s.size
 ·have h':(1:Int)<((s.size:Nat):Int):=by omega
  simp only [h',h,decide_true,if_true,ZhT (show 1≤s.size by omega),Option.bind_some,Bool.true_and]
  rw [Zj _ ⟨by omega,by omega⟩,show Int.toNat 1=1 from rfl,Qd,Option.bind_some]
  by_cases h2:(ZgV s).toNat=63
  ·simp [h2]
  ·have:¬((ZgV s).toNat:Int)=63:=by omega
   simp [h2,this]
 ·have h':¬(1:Int)<((s.size:Nat):Int):=by omega
  simp [h',h]
theorem Zc0 (s:ByteArray):Zcn s=some (Yt s):=by
 unfold Zcn Yt Zsf
 by_cases h:1<s.size
 ·have h':(1:Int)<((s.size:Nat):Int):=by omega
  simp only [h',h,decide_true,if_true,ZhT (show 1≤s.size by omega),Option.bind_some,Bool.true_and]
  rw [Zj _ ⟨by omega,by omega⟩,show Int.toNat 1=1 from rfl,Qe,Option.bind_some]
  by_cases h2:(ZgV s).toNat=63
  ·simp [h2]
  ·have:¬((ZgV s).toNat:Int)=63:=by omega
   simp [h2,this]
 ·have h':¬(1:Int)<((s.size:Nat):Int):=by omega
  simp [h',h]
def YD (s:ByteArray):Bool:=ZO s||Yt s
theorem Zjd (s:ByteArray):QL s=some (YD s):=by
 unfold QL YD
 rw [Qd,QC]
 cases ZO s<;>simp
theorem Zjs (s:ByteArray):QU s=some (YD s):=by
 unfold QU YD
 rw [Qe,Zc0]
 cases ZO s<;>simp
theorem YW (l:List ByteArray) (s:ByteArray):ZS l s=some (YE l s):=by
 unfold ZS YE
 rw [ZcB (p:=fun x=>sEq x s) (r:=true)]
 ·cases l.any fun x=>sEq x s<;>simp
 ·intro i x _
  cases sEq x s<;>simp
theorem QY (l:List ByteArray) (s:ByteArray):Xh l s=some (YE l s):=by
 unfold Xh YE
 rw [ZcB (p:=fun x=>sEq x s) (r:=true)]
 ·cases l.any fun x=>sEq x s<;>simp
 ·intro i x _
  cases sEq x s<;>simp
theorem Qh (l:List ByteArray) (s:ByteArray) (h:l.length+1≤1073741824):XW l s=some (Qk l s):=by
 unfold XW
 refine (Zad (fun l _ (st:List ByteArray × Bool)=>some (if st.2=true then st.1++l else st.1++Qk l s)) (fun l _ (st:List ByteArray × Bool)=>st.1.length+l.length+(if st.2=true then 0 else 1)≤1073741824) ?_ ?_ l 0 ([],false) (by simpa using h)).trans (by simp)
 ·rintro i ⟨row,d⟩ hI
  cases d with
  | true=>simp
  | false=>simp only [Bool.false_eq_true,if_false,Qk];simp at hI;rw [Zj _ (by omega)]
 ·rintro x l i ⟨row,d⟩ hI
  left
  cases d with
  | true=>
   simp at hI
   exact ⟨(row++[x],true),by simp only [if_true];rw [Zj _ (by omega)],by simp;omega,by simp⟩
  | false=>
   simp at hI
   cases h1:sLt x s with
   | true=>exact ⟨(row++[x],false),by simp only [Bool.false_eq_true,if_false,if_true];rw [Zj _ (by omega)],by simp;omega,by simp [Qk,h1]⟩
   | false=>
    cases h2:sEq x s with
    | true=>exact ⟨(row++[x],true),by simp only [Bool.false_eq_true,if_false,if_true];rw [Zj _ (by omega)],by simp;omega,by simp [Qk,h1,h2]⟩
    | false=>exact ⟨(row++[s]++[x],true),by simp only [Bool.false_eq_true,if_false];rw [Zj _ (by omega),Zj _ (by omega)],by simp;omega,by simp [Qk,h1,h2]⟩
def Xk:ByteArray→List ByteArray→List ByteArray
 | _,[]=>[]
 | y,x::r=>if sEq y x=true then Xk x r else x::Xk x r
def Zlv:List ByteArray→List ByteArray
 | []=>[]
 | x::r=>x::Xk x r
theorem ZeP {z:ByteArray}:∀{l:List ByteArray} {y:ByteArray},z∈Xk y l→z∈l
 | [],_,h=>by simp [Xk] at h
 | x::r,y,h=>by
  simp only [Xk] at h
  split at h
  ·exact List.mem_cons_of_mem _ (ZeP h)
  ·rcases List.mem_cons.1 h with rfl | h
   ·simp
   ·exact List.mem_cons_of_mem _ (ZeP h)
theorem Zhx {z:ByteArray}:∀{l:List ByteArray} {y:ByteArray},z∈l→z=y∨z∈Xk y l
 | [],_,h=>by simp at h
 | x::r,y,h=>by
  simp only [Xk]
  rcases List.mem_cons.1 h with rfl | h
  ·split
   ·rename_i e;exact .inl (ZT.1 e).symm
   ·simp
  ·rcases Zhx (y:=x) h with rfl | h'
   ·split
    ·rename_i e;exact .inl (ZT.1 e).symm
    ·simp
   ·split
    ·exact .inr h'
    ·exact .inr (List.mem_cons_of_mem _ h')
theorem Zii:∀{l:List ByteArray} {y:ByteArray},(y::l).Pairwise (fun a b=>sLt b a=false)→Asc (y::Xk y l)
 | [],_,_=>by simp [Xk,Asc]
 | x::r,y,h=>by
  rw [List.pairwise_cons] at h
  have ih:=Zii h.2
  simp only [Xk]
  split
  ·rename_i e
   have e':=ZT.1 e
   subst e'
   exact ih
  ·rename_i e
   have hyx:sLt y x=true:=Zeb (h.1 x (by simp)) (fun h=>e (ZT.2 h.symm))
   refine List.pairwise_cons.2 ⟨fun z mz=>?_,ih⟩
   rcases List.mem_cons.1 mz with rfl | mz
   ·exact hyx
   ·exact Zed hyx ((List.pairwise_cons.1 ih).1 z mz)
theorem Zm5 (l:List ByteArray):Zlv (Zes l)=ZR l:=by
 have hs:=Zs6 l
 refine ZeX ?_ fun x=>?_
 ·cases h:Zes l with
  | nil=>simp [Zlv,Asc]
  | cons y r=>rw [h] at hs;exact Zii hs
 ·rw [←Zrc (l:=l)]
  cases h:Zes l with
  | nil=>simp [Zlv]
  | cons y r=>
   simp only [Zlv,List.mem_cons]
   constructor
   ·rintro (rfl | h)
    ·exact .inl rfl
    ·exact .inr (ZeP h)
   ·rintro (rfl | h)
    ·exact .inl rfl
    ·exact Zhx h
theorem X9 (l:List ByteArray) (h:l.length≤1073741824):Yp l=some (ZR l):=by
 unfold Yp
 rw [Zj _ h,ZbI,Zj _ (by omega),Option.bind_some]
 have hl:=Zrj l
 rw [←Zm5]
 generalize Zes l=v at hl
 refine (Zad (fun r i (row:List ByteArray)=>some (row++match i with | 0=>Zlv r | i+1=>(match v[i]? with | some y=>Xk y r | none=>[]))) (fun r i row=>v.drop i=r∧row.length≤i∧i≤v.length) ?_ ?_ v 0 [] ⟨by simp,by simp,by simp⟩).trans (by simp)
 ·rintro i row ⟨h1,h2,h3⟩
  cases i with
  | zero=>simp [Zlv]
  | succ i=>cases hv:v[i]?<;>simp [Xk,hv]
 ·rintro x r i row ⟨h1,h2,h3⟩
  left
  have hi:v[i]?=some x:=by have:=congrArg (fun l=>l[0]?) h1;simpa using this
  have hlt:i<v.length:=(List.getElem?_eq_some_iff.1 hi).1
  have hr:v.drop (i+1)=r:=by have:=congrArg List.tail h1;simpa using this
  cases i with
  | zero=>
   refine ⟨row++[x],?_,⟨hr,by simp at h2 ⊢;simp [h2],by omega⟩,?_⟩
   ·simp only [Int.natCast_zero,beq_self_eq_true,if_true]
    rw [Zj _ (by omega)]
   ·simp [Zlv,hi]
  | succ i=>
   have hw:IntKind.i64.wrap (((i+1:Nat):Int) - 1)=((i:Nat):Int):=by rw [ZjU (by omega) (by omega)];omega
   have hne:((((i+1:Nat):Int))==0)=false:=by rw [beq_eq_false_iff_ne];omega
   obtain ⟨y,hy⟩:∃y,v[i]?=some y:=⟨v[i],by simp⟩
   simp only [hne,Bool.false_eq_true,if_false,hw,Int.toNat_natCast,hy,Option.bind_some]
   cases he:sEq y x with
   | true=>
    refine ⟨row,?_,⟨hr,by omega,by omega⟩,?_⟩
    ·rw [Zj _ ⟨by omega,by omega⟩];rfl
    ·simp [Xk,he,hi]
   | false=>
    refine ⟨row++[x],?_,⟨hr,by simp;omega,by omega⟩,?_⟩
    ·rw [Zj _ ⟨by omega,by omega⟩]
     simp only [Bool.false_eq_true,if_false]
     rw [Zj _ (by omega)]
    ·simp [Xk,he,hi]
theorem Zfi (l:List ByteArray) (h:l.length≤1073741824):ZaI l=some l:=by
 unfold ZaI
 rw [Zj _ h]
theorem Zns (l:List ByteArray) (h:l.length≤1073741824):Zee l=some l:=by
 unfold Zee
 rw [Zj _ h]
theorem ZkI {ρ:Type} {fin:List ByteArray→Option ρ} {body:Nat→ByteArray→List ByteArray→Option (List ByteArray ⊕ ρ)} (hb:∀j x s,body j x s=(XW s x).bind fun v=>some (.inl v)) {l acc:List ByteArray} (h:acc.length+l.length≤1073741824):Zp body fin l 0 acc=fin (l.foldl Qk acc):=by
 refine ZaR (f:=Qk) (fun j s=>s.length≤acc.length+j) (by omega) fun j x s mx hj hl hI=>?_
 have hp:=ZcC x s
 exact ⟨by rw [hb,Qh _ _ (by omega)];rfl,by omega⟩
end Go.Proofs.YtojnhepgnbhaaaaGreatDoor
namespace Go.Proofs.YtojnhepgnbhaaaaGreatDoor
theorem ZaP {α σ ρ:Type} {body:Nat→α→σ→Option (σ ⊕ ρ)} {fin:σ→Option ρ} (st:List α→σ) (l:List α) (h:∀p x q,l=p++x::q→body p.length x (st p)=some (.inl (st (p++[x])))):Zp body fin l 0 (st [])=fin (st l):=by
 have key:∀(q p:List α),l=p++q→Zp body fin q p.length (st p)=fin (st l):=by
  intro q
  induction q with
  | nil=>intro p e;rw [Zj7,e,List.append_nil]
  | cons x q ih=>
   intro p e
   rw [Ye (h p x q e)]
   have:=ih (p++[x]) (by rw [e];simp)
   simpa using this
 exact key l [] rfl
def YV (f:Zc):Bool:=Qi f.rel&&decide (f.args.length≤3)&&f.args.all ZO
theorem ZiZ (f:Zc):Zey f=some (YV f):=by
 unfold Zey YV
 rw [Yf (p:=ZO) (r:=false)]
 ·rw [ZfC,Option.bind_some]
  cases Qi f.rel<;>cases h:f.args.all ZO<;>simp<;>omega
 ·intro i x _
  rw [Qd,Option.bind_some]
  cases ZO x<;>rfl
theorem Zi8 (f:Zc):Zen f=some (YV f):=by
 unfold Zen YV
 rw [Zfk,Option.bind_some]
 cases Qi f.rel with
 | false=>rfl
 | true=>
  rw [if_pos rfl]
  by_cases h:f.args.length≤3
  ·rw [if_neg (by simp;omega),Yf (p:=ZO) (r:=false)]
   ·cases h2:f.args.all ZO<;>simp [h]
   ·intro i x _
    rw [Qe,Option.bind_some]
    cases ZO x<;>rfl
  ·rw [if_pos (by simp;omega)]
   simp [h]
end Go.Proofs.YtojnhepgnbhaaaaGreatDoor
namespace Go.Proofs.YtojnhepgnbhaaaaGreatDoor
structure ZmE {α:Type} (c:α→α→Int):Prop where
 eq:∀a b,c a b=0↔a=b
 anti:∀a b,c b a=- c a b
 tr:∀a b d,c a b<0→c b d<0→c a d<0
def Zhm (a b:ByteArray):Int:=Lib.compareBytes (toL a) (toL b)
theorem ZgX:∀(x y:List UInt8),Lib.compareBytes x y=if Op.bytesLess x y=true then -1 else if x=y then 0 else 1
 | [],[]=>by simp [Lib.compareBytes,Op.bytesLess]
 | [],_::_=>by simp [Lib.compareBytes,Op.bytesLess]
 | _::_,[]=>by simp [Lib.compareBytes,Op.bytesLess]
 | a::x,b::y=>by
  have ih:=ZgX x y
  unfold Lib.compareBytes Op.bytesLess
  by_cases h1:a<b
  ·simp [h1]
  ·rw [if_neg h1]
   by_cases h2:b<a
   ·have h3:¬a=b:=fun e=>by rw [e] at h2;exact absurd h2 (UInt8.lt_irrefl _)
    rw [if_pos h2]
    simp [h1,h3]
   ·have h3:a=b:=by
     apply UInt8.toNat_inj.1
     rw [UInt8.lt_iff_toNat_lt] at h1 h2
     omega
    subst h3
    rw [if_neg h2,ih]
    simp [h1]
theorem Zge (a b:ByteArray):Zhm a b=if sLt a b=true then -1 else if a=b then 0 else 1:=by
 unfold Zhm
 rw [ZgX]
 have h1:Op.bytesLess (toL a) (toL b)=sLt a b:=by unfold sLt toL;rw [ByteArray.toList_eq,ByteArray.toList_eq]
 rw [h1]
 by_cases h:a=b
 ·subst h;simp
 ·rw [if_neg h,if_neg (fun e=>h (ZeE e))]
theorem Za8:ZmE Zhm where
 eq:=fun a b=>by
  rw [Zge]
  by_cases h:sLt a b=true
  ·simp [h,Znd h]
  ·rw [if_neg h]
   by_cases h2:a=b<;>simp [h2]
 anti:=fun a b=>by
  rw [Zge,Zge]
  by_cases h:sLt a b=true
  ·have h2:=ZiK h
   have h3:=Znd h
   rw [if_pos h,if_neg (by simp [h2]),if_neg (fun e=>h3 e.symm)];rfl
  ·rw [if_neg h]
   by_cases h2:a=b
   ·subst h2;rw [if_neg h];simp
   ·rw [if_pos (Zeb (by simpa using h) h2),if_neg h2]
 tr:=fun a b d h1 h2=>by
  have key:∀x y,Zhm x y<0→sLt x y=true:=fun x y h=>by
   rw [Zge] at h
   by_cases hx:sLt x y=true
   ·exact hx
   ·rw [if_neg hx] at h;split at h<;>omega
  rw [Zge,if_pos (Zed (key _ _ h1) (key _ _ h2))]
  omega
theorem Zkg (a b:ByteArray):Zgh a b=some (Zhm a b):=by
 unfold Zgh
 rw [Zge]
 by_cases h:sLt a b=true
 ·rw [if_pos h,if_pos h]
 ·rw [if_neg h,if_neg h]
  by_cases h2:a=b
  ·subst h2;rw [if_pos (by rw [Ztb];simp),if_pos rfl]
  ·rw [if_neg (by simp only [Bool.or_eq_true,ZT];rintro (h3 | h3);exact h h3;exact h2 h3),if_neg h2]
theorem ZhG (a b:ByteArray):Zeg a b=some (Zhm a b):=rfl
/- numbers -/
theorem ZlW {u:Nat} {b:UInt8} (h:b∈Lib.decDigits u):48≤b.toNat∧b.toNat≤57:=by
 rw [Lib.decDigits_eq,List.mem_map] at h
 obtain ⟨t,_,rfl⟩:=h
 unfold Lib.dg
 have:u / 10 ^ (Lib.nDigits u - 1 - t) % 10<10:=Nat.mod_lt _ (by omega)
 rw [UInt8.toNat_ofNat']
 omega
def Qy (s:ByteArray):Option Nat:=
 if 1≤s.size∧s.size≤4 then (match Lib.decNat (toL s) with | some n=>if ofL (Lib.decDigits n)=s then some n else none | none=>none) else none
def Zds (s:ByteArray):Int × Bool:=match Qy s with | some n=>((n:Int),true) | none=>(0,false)
theorem Zim {s:ByteArray} {n:Nat} (h:Qy s=some n):s=ofL (Lib.decDigits n)∧n≤9999:=by
 unfold Qy at h
 split at h
 ·rename_i hs
  split at h
  ·split at h
   ·rename_i m _ he
    obtain rfl:=Option.some.inj h
    refine ⟨he.symm,?_⟩
    have hl:Lib.nDigits m≤4:=by
     have:=congrArg ByteArray.size he
     rw [ZhH,Lib.decDigits_length] at this
     omega
    have:=Lib.lt_pow_nDigits m
    have h2:10 ^ Lib.nDigits m≤10 ^ 4:=Nat.pow_le_pow_right (by omega) hl
    omega
   ·simp at h
  ·simp at h
 ·simp at h
theorem ZsQ {a b:ByteArray} {n:Nat} (h1:Qy a=some n) (h2:Qy b=some n):a=b:=(Zim h1).1.trans (Zim h2).1.symm
theorem ZoC {body:Nat→UInt8→Int→Option (Int ⊕ (Int × Bool))} {fin:Int→Option (Int × Bool)}
  (hb:∀i (x:UInt8) n,body i x n=if (decide (((x.toNat:Nat):Int)<48))=true then some (.inr (0,false)) else if (decide (57<((x.toNat:Nat):Int)))=true then some (.inr (0,false)) else some (.inl (IntKind.i64.wrap ((IntKind.i64.wrap (10 * n))+IntKind.i64.wrap (IntKind.u8.wrap (((x.toNat:Nat):Int) - 48)))))):
  ∀(l:List UInt8) (i acc:Nat),(acc+1) * 10 ^ l.length≤100000→Zp body fin l i (acc:Int)=match Lib.decFrom acc l with | some n=>fin (n:Int) | none=>some (0,false)
 | [],i,acc,_=>rfl
 | x::l,i,acc,h=>by
  unfold Lib.decFrom Lib.digitVal
  by_cases h1:48≤x.toNat∧x.toNat≤57
  ·have e:body i x (acc:Int)=some (.inl ((acc * 10+(x.toNat - 48):Nat):Int)):=by
    have hp:1≤10 ^ (x::l).length:=Nat.one_le_pow _ _ (by omega)
    have h2:acc+1≤100000:=Nat.le_trans (Nat.le_mul_of_pos_right _ hp) h
    rw [hb,if_neg (by simp;omega),if_neg (by simp;omega),ZdA (n:=10 * (acc:Int)) (by omega) (by omega),IntKind.wrap_u8,ZdA (n:=(((x.toNat:Nat):Int) - 48) % 256) (by omega) (by omega),ZdA (by omega) (by omega)]
    congr 2
    omega
   rw [Ye e,if_pos h1]
   refine ZoC hb l (i+1) _ ?_
   rw [List.length_cons,Nat.pow_succ] at h
   refine Nat.le_trans ?_ h
   rw [show (acc+1) * (10 ^ l.length * 10)=((acc+1) * 10) * 10 ^ l.length by rw [Nat.mul_assoc,Nat.mul_comm 10]]
   exact Nat.mul_le_mul_right _ (by omega)
  ·have e:body i x (acc:Int)=some (.inr (0,false)):=by
    rw [hb]
    by_cases h2:x.toNat<48
    ·rw [if_pos (by simp;omega)]
    ·rw [if_neg (by simp;omega),if_pos (by simp;omega)]
   rw [Yy e,if_neg h1]
theorem Zta (n a b:Int):ZaU n a b=some (decide (a≤n)&&decide (n≤b)):=by
 unfold ZaU
 by_cases h:a≤n<;>simp [h]
theorem ZbG (s:ByteArray):QS s=some (Zds s):=by
 unfold QS Zds Qy
 rw [Zta,Option.bind_some]
 by_cases hs:1≤s.size∧s.size≤4
 ·rw [if_pos (by simp;omega),if_pos hs]
  have hl:s.data.toList.length=s.size:=Zck s
  refine (ZoC (fun _ _ _=>rfl) s.data.toList 0 0 (by
   rw [hl,Nat.zero_add,Nat.one_mul]
   exact Nat.le_trans (Nat.pow_le_pow_right (by omega) hs.2) (by omega))).trans ?_
  have hd:Lib.decNat (toL s)=Lib.decFrom 0 s.data.toList:=by
   unfold Lib.decNat
   rw [if_neg]
   ·rfl
   ·intro e
    have:=Zck s
    rw [List.isEmpty_iff.1 e] at this
    simp at this;omega
  rw [hd]
  cases hv:Lib.decFrom 0 s.data.toList with
  | none=>rfl
  | some n=>
   have hb:n<1000000000000000000:=Lib.decFrom_lt18 hv (by omega)
   show (ZaQ ((n:Nat):Int)).bind _=_
   rw [Zlb ⟨by omega,by omega⟩,Option.bind_some,Lib.itoa_nonneg]
   by_cases he:ofL (Lib.decDigits n)=s
   ·rw [if_pos (ZT.2 he)]
    simp only [he,if_true]
   ·rw [if_neg (by rw [ZT];exact he)]
    simp only [he,if_false]
 ·rw [if_neg (by simp;omega),if_neg hs]
theorem Zsn {b:UInt8} {r:List UInt8} (h:b=45∨b=43):Lib.decNat (b::r)=none:=by
 rcases h with rfl | rfl<;>simp [Lib.decNat,Lib.decFrom,Lib.digitVal]
theorem Zmm {s:ByteArray} (h:Lib.decNat (toL s)=none):Qy s=none:=by
 unfold Qy
 rw [h]
 split<;>rfl
theorem ZbQ (s:ByteArray):QK s=some (Zds s):=by
 unfold QK
 by_cases h1:s.size<1
 ·rw [if_pos (by simp;omega)]
  unfold Zds Qy
  rw [if_neg (by omega)]
 by_cases h2:4<s.size
 ·rw [if_neg (by simp;omega),if_pos (by simp;omega)]
  unfold Zds Qy
  rw [if_neg (by omega)]
 rw [if_neg (by simp;omega),if_neg (by simp;omega)]
 have hl:=Zck s
 have hx:ZkL s=some (match Lib.atoi (toL s) with | some n=>(n,true) | none=>(0,false)):=by
  unfold ZkL
  exact Zj _ (by omega)
 rw [hx,Option.bind_some]
 cases hL:toL s with
 | nil=>rw [hL] at hl;simp at hl;omega
 | cons b r=>
  have sgn:b=45∨b=43→Zds s=(0,false):=fun h=>by
   unfold Zds
   rw [Zmm (by rw [hL];exact Zsn h)]
  have bad:∀m,(b=45∨b=43)→¬ofL (Lib.decDigits m)=s:=fun m h e=>by
   have hm:b∈Lib.decDigits m:=by
    have:toL s=Lib.decDigits m:=by rw [←e,ZbN]
    rw [←this,hL];simp
   have:=ZlW hm
   rcases h with rfl | rfl<;>simp at this
  by_cases hb1:b=45
  ·rw [sgn (.inl hb1)]
   cases hd:Lib.decNat r with
   | none=>simp [Lib.atoi,hb1,hd]
   | some m=>
    have e:Lib.atoi (b::r)=some (-(m:Int)):=by simp [Lib.atoi,hb1,hd]
    rw [e]
    simp only [if_true]
    by_cases hm:m=0
    ·subst hm
     rw [if_neg (by simp),if_neg (by simp)]
     show (ZaJ ((0:Nat):Int)).bind _=_
     rw [Zdi ⟨by omega,by omega⟩,Option.bind_some,Lib.itoa_nonneg,if_neg (by rw [ZT];exact bad 0 (.inl hb1))]
    ·rw [if_pos (by simp;omega)]
  ·by_cases hb2:b=43
   ·rw [sgn (.inr hb2)]
    cases hd:Lib.decNat r with
    | none=>simp [Lib.atoi,hb2,hd]
    | some m=>
     have e:Lib.atoi (b::r)=some (m:Int):=by simp [Lib.atoi,hb2,hd]
     rw [e]
     simp only [if_true]
     rw [if_neg (by simp)]
     by_cases hm:9999<m
     ·rw [if_pos (by simp;omega)]
     ·rw [if_neg (by simp;omega),Zdi ⟨by omega,by omega⟩,Option.bind_some,Lib.itoa_nonneg,if_neg (by rw [ZT];exact bad m (.inr hb2))]
   ·have e:Lib.atoi (b::r)=(Lib.decNat (b::r)).map fun (m:Nat)=>(m:Int):=by simp [Lib.atoi,hb1,hb2]
    rw [e]
    cases hd:Lib.decNat (b::r) with
    | none=>
     unfold Zds
     rw [Zmm (by rw [hL];exact hd)]
     rfl
    | some m=>
     simp only [Option.map_some,if_true]
     rw [if_neg (by simp)]
     have hn:Qy s=if ofL (Lib.decDigits m)=s then some m else none:=by
      unfold Qy
      rw [if_pos (by omega),hL,hd]
     by_cases hm:9999<m
     ·rw [if_pos (by simp;omega)]
      have:Qy s=none:=by
       cases hq:Qy s with
       | none=>rfl
       | some n=>
        have h3:=(Zim hq).2
        rw [hn] at hq
        split at hq
        ·obtain rfl:=Option.some.inj hq;omega
        ·simp at hq
      unfold Zds
      rw [this]
     ·rw [if_neg (by simp;omega),Zdi ⟨by omega,by omega⟩,Option.bind_some,Lib.itoa_nonneg]
      unfold Zds
      rw [hn]
      by_cases he:ofL (Lib.decDigits m)=s
      ·rw [if_pos (ZT.2 he),if_pos he]
      ·rw [if_neg (by rw [ZT];exact he),if_neg he]
def Zjv (x y:Nat):Int:=if x<y then -1 else if y<x then 1 else 0
theorem ZnA:ZmE Zjv where
 eq:=fun a b=>by unfold Zjv;split<;>(try split)<;>omega
 anti:=fun a b=>by unfold Zjv;split<;>(try split)<;>(try split)<;>omega
 tr:=fun a b d h1 h2=>by
  unfold Zjv at *
  split at h1
  ·split at h2
   ·rw [if_pos (by omega)];omega
   ·split at h2<;>omega
  ·split at h1<;>omega
def Zfd (a b:ByteArray):Int:=
 match Qy a,Qy b with
 | some x,some y=>Zjv x y
 | some _,none=>-1
 | none,some _=>1
 | none,none=>Zhm a b
theorem Znl:ZmE Zfd where
 eq:=fun a b=>by
  unfold Zfd
  cases ha:Qy a with
  | none=>
   cases hb:Qy b with
   | none=>exact Za8.eq a b
   | some y=>simp only;exact ⟨fun h=>by omega,fun h=>by rw [h,hb] at ha;simp at ha⟩
  | some x=>
   cases hb:Qy b with
   | none=>simp only;exact ⟨fun h=>by omega,fun h=>by rw [h,hb] at ha;simp at ha⟩
   | some y=>
    simp only
    rw [ZnA.eq]
    exact ⟨fun h=>ZsQ ha (h ▸ hb),fun h=>by rw [h,hb] at ha;exact (Option.some.inj ha).symm⟩
 anti:=fun a b=>by
  unfold Zfd
  cases Qy a<;>cases Qy b<;>simp only
  ·exact Za8.anti a b
  ·rfl
  ·exact ZnA.anti _ _
 tr:=fun a b d h1 h2=>by
  unfold Zfd at *
  cases ha:Qy a<;>cases hb:Qy b<;>cases hd:Qy d<;>simp only [ha,hb,hd] at h1 h2 ⊢<;>first | omega | exact Za8.tr a b d h1 h2 | exact ZnA.tr _ _ _ h1 h2
theorem Zbw (x y:Nat):XP (x:Int) (y:Int)=some (Zjv x y):=by
 unfold XP Zjv
 by_cases h1:x<y
 ·rw [if_pos (by simpa using h1),if_pos h1]
 ·rw [if_neg (by simpa using h1),if_neg h1]
  by_cases h2:y<x
  ·rw [if_pos (by simpa using h2),if_pos h2]
  ·rw [if_neg (by simpa using h2),if_neg h2]
theorem ZdO (a b:ByteArray):Xo a b=some (Zfd a b):=by
 unfold Xo Zfd
 rw [ZbG,Option.bind_some,ZbG,Option.bind_some]
 unfold Zds
 cases Qy a with
 | none=>
  cases Qy b with
  | none=>simp only [Bool.false_eq_true,if_false];rw [Zkg];rfl
  | some y=>rfl
 | some x=>
  cases Qy b with
  | none=>rfl
  | some y=>
   simp only [if_true]
   unfold Zjv
   by_cases h1:x<y
   ·rw [if_pos (by simpa using h1),if_pos h1]
   ·rw [if_neg (by simpa using h1),if_neg h1]
    by_cases h2:y<x
    ·rw [if_pos (by simpa using h2),if_pos h2]
    ·rw [if_neg (by simpa using h2),if_neg h2]
theorem Zib (a b:ByteArray):QI a b=some (Zfd a b):=by
 unfold QI Zfd
 rw [ZbQ,Option.bind_some,ZbQ,Option.bind_some]
 unfold Zds
 cases Qy a with
 | none=>
  cases Qy b with
  | none=>simp only [Bool.false_eq_true,if_false];rw [ZhG];rfl
  | some y=>rfl
 | some x=>
  cases Qy b with
  | none=>rfl
  | some y=>simp only [if_true];rw [Zbw];rfl
def ZfM {α:Type} (c:α→α→Int):List α→List α→Int
 | [],[]=>0
 | [],_::_=>-1
 | _::_,[]=>1
 | x::l,y::r=>if c x y=0 then ZfM c l r else c x y
theorem Zno {α:Type} {c:α→α→Int} (h:ZmE c):ZmE (ZfM c) where
 eq:=fun a=>by
  induction a with
  | nil=>intro b;cases b<;>simp [ZfM]
  | cons x l ih=>
   intro b
   cases b with
   | nil=>simp [ZfM]
   | cons y r=>
    simp only [ZfM]
    by_cases hx:c x y=0
    ·rw [if_pos hx,ih,(h.eq x y).1 hx];simp
    ·rw [if_neg hx]
     exact ⟨fun e=>absurd e hx,fun e=>absurd ((h.eq x y).2 (by simp at e;exact e.1)) hx⟩
 anti:=fun a=>by
  induction a with
  | nil=>intro b;cases b<;>simp [ZfM]
  | cons x l ih=>
   intro b
   cases b with
   | nil=>simp [ZfM]
   | cons y r=>
    simp only [ZfM]
    have hy:=h.anti x y
    by_cases hx:c x y=0
    ·rw [if_pos hx,if_pos (by omega),ih]
    ·rw [if_neg hx,if_neg (by omega),hy]
 tr:=fun a=>by
  induction a with
  | nil=>
   intro b d h1 h2
   cases b with
   | nil=>simp [ZfM] at h1
   | cons y r=>cases d with
    | nil=>simp [ZfM] at h2
    | cons z q=>simp [ZfM]
  | cons x l ih=>
   intro b d h1 h2
   cases b with
   | nil=>simp [ZfM] at h1
   | cons y r=>cases d with
    | nil=>simp [ZfM] at h2
    | cons z q=>
     simp only [ZfM] at h1 h2 ⊢
     by_cases hx:c x y=0
     ·rw [if_pos hx] at h1
      obtain rfl:=(h.eq x y).1 hx
      by_cases hz:c x z=0
      ·rw [if_pos hz] at h2 ⊢;exact ih r q h1 h2
      ·rw [if_neg hz] at h2 ⊢;exact h2
     ·rw [if_neg hx] at h1
      by_cases hz:c y z=0
      ·obtain rfl:=(h.eq y z).1 hz
       rw [if_neg hx];exact h1
      ·rw [if_neg hz] at h2
       have:=h.tr x y z h1 h2
       rw [if_neg (by omega)];exact this
def Zdt (a b:Zc):Int:=if Zhm a.rel b.rel=0 then ZfM Zfd a.args b.args else Zhm a.rel b.rel
theorem Zn9 {a b:Zc} (h1:a.rel=b.rel) (h2:a.args=b.args):a=b:=by cases a;cases b;simp_all
theorem Zdy:ZmE Zdt where
 eq:=fun a b=>by
  unfold Zdt
  by_cases h:Zhm a.rel b.rel=0
  ·rw [if_pos h,(Zno Znl).eq]
   exact ⟨fun e=>Zn9 ((Za8.eq _ _).1 h) e,fun e=>by rw [e]⟩
  ·rw [if_neg h]
   exact ⟨fun e=>absurd e h,fun e=>absurd ((Za8.eq _ _).2 (by rw [e])) h⟩
 anti:=fun a b=>by
  unfold Zdt
  have hy:=Za8.anti a.rel b.rel
  by_cases h:Zhm a.rel b.rel=0
  ·rw [if_pos h,if_pos (by omega),(Zno Znl).anti]
  ·rw [if_neg h,if_neg (by omega),hy]
 tr:=fun a b d h1 h2=>by
  unfold Zdt at *
  by_cases hx:Zhm a.rel b.rel=0
  ·rw [if_pos hx] at h1
   have e:=(Za8.eq _ _).1 hx
   rw [e]
   by_cases hz:Zhm b.rel d.rel=0
   ·rw [if_pos hz] at h2 ⊢;exact (Zno Znl).tr _ _ _ h1 h2
   ·rw [if_neg hz] at h2 ⊢;exact h2
  ·rw [if_neg hx] at h1
   by_cases hz:Zhm b.rel d.rel=0
   ·rw [←(Za8.eq _ _).1 hz,if_neg hx];exact h1
   ·rw [if_neg hz] at h2
    have:=Za8.tr _ _ _ h1 h2
    rw [if_neg (by omega)];exact this
theorem Zcm {α:Type} (l:List α) (i:Nat):atI l (i:Int)=l[i]?:=by unfold atI;rw [if_pos (by omega),Int.toNat_natCast]
theorem ZiD {A B:List ByteArray} {body:Nat→ByteArray→Unit→Option (Unit ⊕ Int)} {fin:Unit→Option Int}
  (hlt:∀i x y,B[i]?=some y→body i x ()=if Zfd x y=0 then some (.inl ()) else some (.inr (Zfd x y))) (hge:∀x,B.length<A.length→body B.length x ()=some (.inr 1)) (hfin:A.length≤B.length→fin ()=some (if A.length<B.length then -1 else 0)):
  ∀(l:List ByteArray) (i:Nat),i+l.length=A.length→i≤B.length→Zp body fin l i ()=some (ZfM Zfd l (B.drop i))
 | [],i,h,hi=>by
  simp at h
  rw [Zj7,hfin (by omega)]
  by_cases hb:A.length<B.length
  ·rw [if_pos hb]
   cases hd:B.drop i with
   | nil=>have:=congrArg List.length hd;simp at this;omega
   | cons y r=>rfl
  ·rw [if_neg hb,List.drop_eq_nil_of_le (by omega)]
   rfl
 | x::l,i,h,hi=>by
  simp only [List.length_cons] at h
  by_cases hb:i<B.length
  ·have hy:B[i]?=some B[i]:=List.getElem?_eq_getElem hb
   rw [List.drop_eq_getElem_cons hb]
   simp only [ZfM]
   by_cases hc:Zfd x B[i]=0
   ·rw [Ye (by rw [hlt i x _ hy,if_pos hc]),if_pos hc]
    exact ZiD hlt hge hfin l (i+1) (by omega) (by omega)
   ·rw [Yy (by rw [hlt i x _ hy,if_neg hc]),if_neg hc]
  ·obtain rfl:i=B.length:=by omega
   rw [Yy (hge x (by omega)),List.drop_eq_nil_of_le (Nat.le_refl _)]
   rfl
theorem ZdG (a b:Zc):Xj a b=some (Zdt a b):=by
 unfold Xj Zdt
 by_cases h:a.rel=b.rel
 ·rw [if_pos (ZT.2 h),if_pos ((Za8.eq _ _).2 h)]
  refine ZiD (A:=a.args) (B:=b.args) (fun i x y hy=>?_) (fun x hx=>?_) (fun hx=>?_) a.args 0 (by simp) (Nat.zero_le _)
  ·have hi:=(List.getElem?_eq_some_iff.1 hy).1
   rw [if_pos (by simpa using hi),Zcm,hy,Option.bind_some,ZdO,Option.bind_some]
   by_cases hc:Zfd x y=0
   ·rw [hc];rfl
   ·rw [if_pos (by simpa using hc),if_neg hc]
  ·rw [if_neg (by simp),if_neg (by simp;omega),if_pos (by simpa using hx)]
  ·by_cases h2:a.args.length<b.args.length
   ·rw [if_pos (by simpa using h2),if_pos h2]
   ·rw [if_neg (by simpa using h2),if_neg (by simp;omega),if_neg h2]
 ·rw [if_neg (by rw [ZT];exact h),if_neg (fun e=>h ((Za8.eq _ _).1 e)),Zkg]
  rfl
theorem Zdx (a b:Zc):Qb a b=some (Zdt a b):=by
 unfold Qb Zdt
 rw [ZhG,Option.bind_some]
 by_cases h:Zhm a.rel b.rel=0
 ·rw [if_neg (by simpa using h),if_pos h]
  refine ZiD (A:=a.args) (B:=b.args) (fun i x y hy=>?_) (fun x hx=>?_) (fun hx=>?_) a.args 0 (by simp) (Nat.zero_le _)
  ·have hi:=(List.getElem?_eq_some_iff.1 hy).1
   rw [if_pos (by simpa using hi),Zcm,hy,Option.bind_some,Zib,Option.bind_some]
   by_cases hc:Zfd x y=0
   ·rw [hc];rfl
   ·rw [if_pos (by simpa using hc),if_neg hc]
  ·rw [if_neg (by simp),Zbw]
   unfold Zjv
   rw [if_neg (by omega),if_pos hx]
   rfl
  ·rw [Zbw]
   unfold Zjv
   by_cases h2:a.args.length<b.args.length
   ·rw [if_pos h2,if_pos h2];rfl
   ·rw [if_neg h2,if_neg (by omega),if_neg h2];rfl
 ·rw [if_pos (by simpa using h),if_neg h]
end Go.Proofs.YtojnhepgnbhaaaaGreatDoor
namespace Go.Proofs.YtojnhepgnbhaaaaGreatDoor
theorem XE (f:Zc) (h:f.args.length≤1048576):X1 f=some f:=by
 unfold X1
 rw [Zns _ (by omega)]
 rfl
theorem Xd (f:Zc) (h:f.args.length≤1048576):Y3 f=some f:=by
 unfold Y3
 rw [Zfi _ (by omega)]
 rfl
theorem Zkm {B:List ByteArray} {body:Nat→ByteArray→Unit→Option (Unit ⊕ Bool)} (hb:∀i x y,B[i]?=some y→body i x ()=if x=y then some (.inl ()) else some (.inr false)):
  ∀(l:List ByteArray) (i:Nat),i+l.length=B.length→Zp body (fun _=>some true) l i ()=some (decide (l=B.drop i))
 | [],i,h=>by
  simp at h
  rw [Zj7,List.drop_eq_nil_of_le (by omega)]
  simp
 | x::l,i,h=>by
  simp only [List.length_cons] at h
  have hi:i<B.length:=by omega
  have hd:(x::l=B.drop i)↔(x=B[i]∧l=B.drop (i+1)):=by rw [List.drop_eq_getElem_cons hi,List.cons.injEq]
  rw [Bool.eq_iff_iff.2 (show decide (x::l=B.drop i)=true↔decide (x=B[i]∧l=B.drop (i+1))=true by rw [decide_eq_true_iff,decide_eq_true_iff];exact hd)]
  by_cases hx:x=B[i]
  ·rw [Ye (by rw [hb i x _ (List.getElem?_eq_getElem hi),if_pos hx]),Zkm hb l (i+1) (by omega)]
   simp [hx]
  ·rw [Yy (by rw [hb i x _ (List.getElem?_eq_getElem hi),if_neg hx])]
   simp [hx]
theorem ZkT (a b:List ByteArray):Zb0 a b=some (decide (a=b)):=by
 unfold Zb0
 by_cases h:a.length=b.length
 ·rw [if_neg (by simp;omega)]
  have:=Zkm (B:=b) (body:=fun i6 x7 _=>(atI b ((i6:Nat):Int)).bind fun x8=>if (sEq x7 x8)=true then some (.inl ()) else some (.inr false)) (fun i x y hy=>by
   show (atI b ((i:Nat):Int)).bind _=_
   rw [Zcm,hy,Option.bind_some]
   by_cases hx:x=y
   ·rw [if_pos (ZT.2 hx),if_pos hx]
   ·rw [if_neg (by rw [ZT];exact hx),if_neg hx]) a 0 (by omega)
  simpa using this
 ·rw [if_pos (by simp;omega),decide_eq_false (fun e=>h (by rw [e]))]
open Classical
theorem ZbM (a b:Zc):Zbp a b=some (decide (a=b)):=by
 unfold Zbp
 by_cases h:a.rel=b.rel
 ·rw [if_pos (ZT.2 h),ZkT,Option.bind_some]
  congr 1
  rw [Bool.eq_iff_iff,decide_eq_true_iff,decide_eq_true_iff]
  exact ⟨fun e=>Zn9 h e,fun e=>by rw [e]⟩
 ·rw [if_neg (by rw [ZT];exact h),decide_eq_false (fun e=>h (by rw [e]))]
theorem ZlU (l:List Zc) (f:Zc):∃z,Yh l f=some z∧(z<0↔f∉l):=by
 unfold Yh
 have key:∀(l:List Zc) (i:Nat),∃z,Zp (σ:=Unit) (fun (i6:Nat) (x7:Zc) _=>(Zbp x7 f).bind fun v8=>if v8=true then some (.inr ((i6:Nat):Int)) else some (.inl ())) (fun _=>some (-1)) l i ()=some z∧(z<0↔f∉l):=by
  intro l
  induction l with
  | nil=>intro i;exact ⟨-1,rfl,by simp⟩
  | cons x l ih=>
   intro i
   by_cases hx:x=f
   ·refine ⟨(i:Int),Yy (by rw [ZbM,Option.bind_some,if_pos (decide_eq_true hx)]),by simp [hx]⟩
   ·obtain ⟨z,e,hz⟩:=ih (i+1)
    refine ⟨z,(Ye (by rw [ZbM,Option.bind_some,if_neg (by simpa using hx)])).trans e,?_⟩
    rw [hz,List.mem_cons]
    exact ⟨fun h=>by rintro (h1 | h1);exact hx h1.symm;exact h h1,fun h h1=>h (.inr h1)⟩
 exact key l 0
def Zdq:List Zc→Zc→List Zc
 | [],f=>[f]
 | x::l,f=>if Zdt x f<0 then x::Zdq l f else if Zdt x f=0 then x::l else f::x::l
def Ziv (l:List Zc):Prop:=l.Pairwise fun x y=>Zdt x y<0
theorem Zac {y f:Zc}:∀{l:List Zc},y∈Zdq l f↔y=f∨y∈l
 | []=>by simp [Zdq]
 | x::l=>by
  simp only [Zdq]
  split
  ·rw [List.mem_cons,Zac,List.mem_cons]
   exact ⟨fun h=>by rcases h with h | h | h<;>simp [h],fun h=>by rcases h with h | h | h<;>simp [h]⟩
  ·split
   ·rename_i h
    have e:=(Zdy.eq _ _).1 h
    rw [List.mem_cons,e]
    exact ⟨fun h=>by rcases h with h | h<;>simp [h],fun h=>by rcases h with h | h | h<;>simp [h]⟩
   ·rw [List.mem_cons]
theorem Zpn (f:Zc):∀l:List Zc,(Zdq l f).length≤l.length+1
 | []=>by simp [Zdq]
 | x::l=>by
  have:=Zpn f l
  simp only [Zdq]
  split
  ·simp;omega
  ·split<;>simp
theorem Zoq {f:Zc}:∀{l:List Zc},Ziv l→Ziv (Zdq l f)
 | [],_=>by simp [Zdq,Ziv]
 | x::l,h=>by
  unfold Ziv at *
  rw [List.pairwise_cons] at h
  simp only [Zdq]
  split
  ·rename_i hx
   rw [List.pairwise_cons]
   refine ⟨fun y my=>?_,Zoq h.2⟩
   rcases Zac.1 my with rfl | my
   ·exact hx
   ·exact h.1 y my
  ·rename_i hx
   split
   ·rw [List.pairwise_cons];exact h
   ·rename_i h0
    have hfx:Zdt f x<0:=by rw [Zdy.anti x f];omega
    rw [List.pairwise_cons,List.pairwise_cons]
    refine ⟨fun y my=>?_,h⟩
    rcases List.mem_cons.1 my with rfl | my
    ·exact hfx
    ·exact Zdy.tr _ _ _ hfx (h.1 y my)
theorem Zp5 (l:List Zc) (f:Zc) (hl:l.length≤1048576) (ha:∀x∈l,x.args.length≤1048576) (hf:f.args.length≤1048576):ZbK l f=some (Zdq l f):=by
 unfold ZbK
 rw [Zad (fun l _ s=>some (s.1++(if s.2=true then l else Zdq l f))) (fun l _ s=>s.1.length+2 * l.length+1≤4000000∧∀x∈l,x.args.length≤1048576) ?_ ?_ l 0 ([],false) ⟨by simp;omega,ha⟩]
 ·simp
 ·rintro i ⟨row,done⟩ ⟨h1,_⟩
  cases done with
  | true=>simp
  | false=>
   simp only [Bool.false_eq_true,if_false]
   simp only [List.length_nil] at h1
   rw [XE f hf,Option.bind_some,Zj _ (by omega)]
   rfl
 ·rintro x l i ⟨row,done⟩ ⟨h1,h2⟩
  simp only [List.length_cons] at h1
  have hx:=h2 x (by simp)
  left
  cases done with
  | true=>
   simp only [if_true]
   rw [XE x hx,Option.bind_some,Zj _ (by omega)]
   exact ⟨_,rfl,⟨by simp;omega,fun y my=>h2 y (by simp [my])⟩,by simp⟩
  | false=>
   simp only [Bool.false_eq_true,if_false]
   rw [ZdG,Option.bind_some]
   by_cases hlt:Zdt x f<0
   ·rw [if_neg (by simp;omega),XE x hx,Option.bind_some,Zj _ (by omega)]
    exact ⟨_,rfl,⟨by simp;omega,fun y my=>h2 y (by simp [my])⟩,by simp [Zdq,hlt]⟩
   ·rw [if_pos (by simp;omega),Option.bind_some]
    by_cases h0:Zdt x f=0
    ·rw [if_neg (by simp;omega),XE x hx,Option.bind_some,Zj _ (by omega)]
     exact ⟨_,rfl,⟨by simp;omega,fun y my=>h2 y (by simp [my])⟩,by simp [Zdq,h0]⟩
    ·rw [if_pos (by simp;omega),XE f hf,Option.bind_some,Zj _ (by omega),XE x hx,Option.bind_some,Zj _ (by omega)]
     exact ⟨_,rfl,⟨by simp;omega,fun y my=>h2 y (by simp [my])⟩,by simp [Zdq,h0,hlt]⟩
theorem Znm (l:List Zc) (f:Zc) (hn:f∉l) (hl:l.length≤1048576) (ha:∀x∈l,x.args.length≤1048576) (hf:f.args.length≤1048576):X2 l f=some (Zdq l f):=by
 unfold X2
 rw [Zad (fun l _ s=>some (s.1++(if s.2=true then l else Zdq l f))) (fun l _ s=>s.1.length+2 * l.length+1≤4000000∧f∉l∧∀x∈l,x.args.length≤1048576) ?_ ?_ l 0 ([],false) ⟨by simp;omega,hn,ha⟩]
 ·simp
 ·rintro i ⟨row,done⟩ ⟨h1,_⟩
  cases done with
  | true=>simp
  | false=>
   simp only [Bool.false_eq_true,if_false]
   simp only [List.length_nil] at h1
   rw [Xd f hf,Option.bind_some,Zj _ (by omega)]
   rfl
 ·rintro x l i ⟨row,done⟩ ⟨h1,h3,h2⟩
  simp only [List.length_cons] at h1
  have hx:=h2 x (by simp)
  have h3':f∉l:=fun m=>h3 (by simp [m])
  left
  cases done with
  | true=>
   simp only [if_true]
   rw [Xd x hx,Option.bind_some,Zj _ (by omega)]
   exact ⟨_,rfl,⟨by simp;omega,h3',fun y my=>h2 y (by simp [my])⟩,by simp⟩
  | false=>
   simp only [Bool.false_eq_true,if_false]
   rw [Zdx,Option.bind_some]
   have h0:¬Zdt x f=0:=fun e=>h3 (by rw [(Zdy.eq _ _).1 e];simp)
   by_cases hlt:Zdt x f<0
   ·rw [if_neg (by simp;omega),Xd x hx,Option.bind_some,Zj _ (by omega)]
    exact ⟨_,rfl,⟨by simp;omega,h3',fun y my=>h2 y (by simp [my])⟩,by simp [Zdq,hlt]⟩
   ·rw [if_pos (by simp;omega),Xd f hf,Option.bind_some,Zj _ (by omega),Xd x hx,Option.bind_some,Zj _ (by omega)]
    exact ⟨_,rfl,⟨by simp;omega,h3',fun y my=>h2 y (by simp [my])⟩,by simp [Zdq,h0,hlt]⟩
end Go.Proofs.YtojnhepgnbhaaaaGreatDoor
namespace Go.Proofs.YtojnhepgnbhaaaaGreatDoor
def Z1 (p:Zv):Bool:=Qi p.rel&&decide (p.args.length≤3)&&p.args.all YD
theorem Za6 (p:Zv):Xb p=some (Z1 p):=by
 unfold Xb Z1
 rw [Yf (p:=YD) (r:=false)]
 ·simp only [ZfC,Option.bind_some]
  have:decide (((p.args.length:Nat):Int)≤3)=decide (p.args.length≤3):=by rw [Bool.eq_iff_iff];simp only [decide_eq_true_eq];omega
  rw [this]
  cases p.args.all YD<;>cases Qi p.rel<;>simp
 ·intro i x _
  rw [Zjd]
  cases YD x<;>simp
theorem ZaY (p:Zv):Xe p=some (Z1 p):=by
 unfold Xe Z1
 rw [Zfk,Yf (p:=YD) (r:=false)]
 ·by_cases h:p.args.length≤3
  ·have h':¬(3:Int)<((p.args.length:Nat):Int):=by omega
   cases p.args.all YD<;>cases Qi p.rel<;>simp [h,h']
  ·have h':(3:Int)<((p.args.length:Nat):Int):=by omega
   cases Qi p.rel<;>simp [h,h']
 ·intro i x _
  rw [Zjs]
  cases YD x<;>simp
def Y6 (p:Zv):Bool:=sEq p.rel ⟨#[]⟩&&decide (p.args.length=0)
theorem ZrL {α:Type} (l:List α):((((l.length:Nat):Int))==0)=decide (l.length=0):=by
 rw [Bool.eq_iff_iff,beq_iff_eq,decide_eq_true_eq];omega
theorem Zer (p:Zv):Xc p=some (Y6 p):=by
 unfold Xc Y6
 rw [ZrL]
 cases sEq p.rel ⟨#[]⟩<;>simp
def YT (x:Zm):Bool:=
 if x.kind=1∨x.kind=2 then Z1 x.pattern&&sEq x.left ⟨#[]⟩&&sEq x.right ⟨#[]⟩
 else if x.kind=3∨x.kind=4∨x.kind=5 then Y6 x.pattern&&YD x.left&&YD x.right
 else false
theorem ZdL (x:Zm):Zc9 x=some (YT x):=by
 unfold Zc9 YT
 simp only [Za6,Zjd,Option.bind_some,Y6,ZrL,beq_iff_eq]
 by_cases h1:x.kind=1
 ·simp only [h1,if_true,true_or];cases Z1 x.pattern<;>cases sEq x.left ⟨#[]⟩<;>simp
 by_cases h2:x.kind=2
 ·simp only [h2,if_true,or_true];cases Z1 x.pattern<;>cases sEq x.left ⟨#[]⟩<;>simp
 simp only [h1,h2,if_false,or_self]
 by_cases h3:x.kind=3
 ·simp only [h3,if_true,true_or];cases sEq x.pattern.rel ⟨#[]⟩<;>cases decide (x.pattern.args.length=0)<;>cases YD x.left<;>simp
 by_cases h4:x.kind=4
 ·simp only [h4,if_true,true_or,or_true];cases sEq x.pattern.rel ⟨#[]⟩<;>cases decide (x.pattern.args.length=0)<;>cases YD x.left<;>simp
 by_cases h5:x.kind=5
 ·simp only [h5,if_true,or_true];cases sEq x.pattern.rel ⟨#[]⟩<;>cases decide (x.pattern.args.length=0)<;>cases YD x.left<;>simp
 simp [h3,h4,h5]
theorem ZfG (x:Zm):Zdf x=some (YT x):=by
 unfold Zdf YT
 simp only [ZaY,Zjs,Zer,Option.bind_some,beq_iff_eq]
 by_cases h1:x.kind=1
 ·simp only [h1,if_true,true_or];cases Z1 x.pattern<;>cases sEq x.left ⟨#[]⟩<;>simp
 by_cases h2:x.kind=2
 ·simp only [h2,if_true,or_true];cases Z1 x.pattern<;>cases sEq x.left ⟨#[]⟩<;>simp
 simp only [h1,h2,if_false,or_self]
 by_cases h3:x.kind=3
 ·simp only [h3,if_true,true_or];cases Y6 x.pattern<;>cases YD x.left<;>cases YD x.right<;>simp
 by_cases h4:x.kind=4
 ·simp only [h4,if_true,true_or,or_true];cases Y6 x.pattern<;>cases YD x.left<;>cases YD x.right<;>simp
 by_cases h5:x.kind=5
 ·simp only [h5,if_true,or_true];cases Y6 x.pattern<;>cases YD x.left<;>cases YD x.right<;>simp
 simp [h3,h4,h5]
theorem Zm6 {x:Zm} (h:YT x=true):x.kind=1∨x.kind=2∨x.kind=3∨x.kind=4∨x.kind=5:=by
 unfold YT at h
 split at h
 ·rename_i h1;omega
 ·split at h
  ·rename_i h1;omega
  ·simp at h
theorem Zpu (x:Zm):Za9 x=some (YT x&&decide (3≤x.kind)):=by
 unfold Za9
 rw [ZdL]
 cases YT x<;>simp
def Xu (a:Zr):Bool:=
 if a.kind=1∨a.kind=2 then Z1 a.pattern else if a.kind=3 then Y6 a.pattern else false
theorem ZlG (a:Zr):Zdm a=some (Xu a):=by
 unfold Zdm Xu
 simp only [Za6,Option.bind_some,Y6,ZrL,beq_iff_eq]
 by_cases h1:a.kind=1
 ·simp [h1]
 by_cases h2:a.kind=2
 ·simp [h2]
 by_cases h3:a.kind=3
 ·simp only [h3,if_true];cases sEq a.pattern.rel ⟨#[]⟩<;>simp
 simp [h1,h2,h3]
theorem Zl0 (a:Zr):ZcH a=some (Xu a):=by
 unfold ZcH Xu
 simp only [ZaY,Zer,Option.bind_some,beq_iff_eq]
 by_cases h1:a.kind=1
 ·simp [h1]
 by_cases h2:a.kind=2
 ·simp [h2]
 by_cases h3:a.kind=3
 ·simp [h3]
 simp [h1,h2,h3]
def Y5 (l:List ByteArray):List ByteArray:=l.filter Yt
theorem Zcw (l:List ByteArray):(Y5 l).length≤l.length:=List.length_filter_le _ _
theorem Zbq {x:ByteArray} {l:List ByteArray}:x∈Y5 l↔x∈l∧Yt x=true:=by simp [Y5]
theorem ZcV (l:List ByteArray) (h:l.length≤1073741824):QJ l=some (Y5 l):=by
 unfold QJ
 rw [ZdE (p:=Yt)]
 ·simp [Y5]
 ·intro j x s _ hs
  rw [Zc0,Option.bind_some]
  split
  ·rw [Zj _ (by simp at hs;omega)]
  ·rfl
theorem ZiY {p:ByteArray→Bool}:∀(l acc:List ByteArray),l.foldl (fun s x=>if p x=true then Qk s x else s) acc=(l.filter p).foldl Qk acc
 | [],_=>rfl
 | x::l,acc=>by
  rw [List.foldl_cons,ZiY l]
  by_cases h:p x=true<;>simp [h]
theorem Zb8 (p:Zv) (h:p.args.length≤1073741823):Za4 p=some (ZR (Y5 p.args)):=by
 unfold Za4
 rw [ZaR (f:=fun s x=>if Yt x=true then Qk s x else s) (fun j s=>s.length≤j) (by simp)]
 ·rw [ZiY];rfl
 ·intro j x s _ _ hl hI
  simp at hl
  have:=ZcC x s
  rw [QC,Option.bind_some]
  split
  ·rw [Qh _ _ (by omega)]
   exact ⟨rfl,by omega⟩
  ·exact ⟨rfl,by omega⟩
def ZfL (x:Zm):List ByteArray:=x.pattern.args++[x.left,x.right]
def YN (x:Zm):List ByteArray:=ZR (Y5 (ZfL x))
theorem ZbL (x:Zm) (h:x.pattern.args.length≤1073741822):Qn x=some (YN x):=by
 unfold Qn Zgk
 rw [Zfi _ (by omega),Option.bind_some,Zj _ (by omega),Option.bind_some,ZcV _ (by simp;omega),Option.bind_some]
 have:=Zcw (x.pattern.args++[x.left,x.right])
 simp at this
 rw [X9 _ (by omega)]
 rfl
theorem ZbF (x:Zm) (h:x.pattern.args.length≤1073741820):XR x=some (YN x):=by
 unfold XR
 have h1:=ZdQ (Y5 x.pattern.args)
 have h2:=Zcw x.pattern.args
 have h3:=ZcC x.left (ZR (Y5 x.pattern.args))
 have key:∀l:List ByteArray,(∀y,y∈l↔y∈Y5 (ZfL x))→Asc l→l=YN x:=fun l hm ha=>ZeX ha hm
 rw [Zb8 _ (by omega),Option.bind_some,QC,Option.bind_some,QC]
 simp only [Option.bind_some]
 rw [Qh _ _ (by omega),Option.bind_some,Qh (Qk _ _) _ (by omega),Option.bind_some,Qh _ x.right (by omega),Option.bind_some]
 cases hl:Yt x.left<;>cases hr:Yt x.right<;>simp only [if_true,Bool.false_eq_true,if_false]<;>congr 1<;>apply key<;>(try intro y)<;>(try simp only [ZhU,ZW,Zbq,ZfL,List.mem_append,List.mem_cons,List.not_mem_nil,or_false])
 all_goals first
  | exact Zca _
  | exact Zfm (Zca _)
  | exact Zfm (Zfm (Zca _))
  | skip
 ·constructor
  ·rintro ⟨a,b⟩;exact ⟨.inl a,b⟩
  ·rintro ⟨a | rfl | rfl,b⟩
   ·exact ⟨a,b⟩
   ·rw [hl] at b;simp at b
   ·rw [hr] at b;simp at b
 ·constructor
  ·rintro (rfl | ⟨a,b⟩)
   ·exact ⟨by simp,hr⟩
   ·exact ⟨.inl a,b⟩
  ·rintro ⟨a | rfl | rfl,b⟩
   ·exact .inr ⟨a,b⟩
   ·rw [hl] at b;simp at b
   ·exact .inl rfl
 ·constructor
  ·rintro (rfl | ⟨a,b⟩)
   ·exact ⟨by simp,hl⟩
   ·exact ⟨.inl a,b⟩
  ·rintro ⟨a | rfl | rfl,b⟩
   ·exact .inr ⟨a,b⟩
   ·exact .inl rfl
   ·rw [hr] at b;simp at b
 ·constructor
  ·rintro (rfl | rfl | ⟨a,b⟩)
   ·exact ⟨by simp,hr⟩
   ·exact ⟨by simp,hl⟩
   ·exact ⟨.inl a,b⟩
  ·rintro ⟨a | rfl | rfl,b⟩
   ·exact .inr (.inr ⟨a,b⟩)
   ·exact .inr (.inl rfl)
   ·exact .inl rfl
theorem Zf8 (x:Zm):(YN x).length≤x.pattern.args.length+2:=by
 have h1:=ZdQ (Y5 (ZfL x))
 have h2:=Zcw (ZfL x)
 have h3:(ZfL x).length=x.pattern.args.length+2:=by simp [ZfL]
 unfold YN
 omega
theorem Zq3 {x:Zm} {v:ByteArray} (h:v∈YN x):Yt v=true:=(Zbq.1 (ZW.1 h)).2
structure Zbf (r:Zf):Prop where
 cl:r.cond.length≤1048576
 tl:r.thn.length≤1048576
 ca:∀x∈r.cond,x.pattern.args.length≤1048576
 ta:∀a∈r.thn,a.pattern.args.length≤1048576
def YK (l:List Zm):List ByteArray:=l.flatMap fun x=>if x.kind=1 then Y5 x.pattern.args else []
def YJ (r:Zf) (n:Nat):List ByteArray:=ZR (YK (r.cond.take n))
theorem ZcK (r:Zf) (n:Int) (h:Zbf r) (h4:r.cond.length≤4):QR r n=some (YJ r n.toNat):=by
 unfold QR YJ
 refine (Zad (fun l i (row:List ByteArray)=>some (ZR (row++YK (l.take (n.toNat - i))))) (fun l i row=>r.cond.drop i=l∧row.length≤1048576 * i∧i≤r.cond.length) ?_ ?_ r.cond 0 [] ⟨by simp,by simp,by simp⟩).trans (by simp)
 ·rintro i row ⟨h1,h2,h3⟩
  rw [X9 _ (by omega)]
  simp [YK]
 ·rintro x l i row ⟨h1,h2,h3⟩
  left
  have hi:r.cond[i]?=some x:=by have:=congrArg (fun l=>l[0]?) h1;simpa using this
  have hlt:i<r.cond.length:=(List.getElem?_eq_some_iff.1 hi).1
  have hr:r.cond.drop (i+1)=l:=by have:=congrArg List.tail h1;simpa using this
  have hx:=h.ca x (List.mem_of_getElem? hi)
  have hv:=Zcw x.pattern.args
  by_cases hn:((i:Nat):Int)<n
  ·have e:n.toNat - i=(n.toNat - (i+1))+1:=by omega
   by_cases hk:x.kind=1
   ·refine ⟨row++Y5 x.pattern.args,?_,⟨hr,by simp;omega,by omega⟩,?_⟩
    ·simp only [hn,hk,decide_true,beq_self_eq_true,if_true]
     rw [ZcV _ (by omega),Option.bind_some,Zj _ (by omega)]
    ·rw [e];simp [YK,hk]
   ·refine ⟨row,?_,⟨hr,by omega,by omega⟩,?_⟩
    ·simp [hn,hk]
    ·rw [e];simp [YK,hk]
  ·have e:n.toNat - i=0:=by omega
   have e':n.toNat - (i+1)=0:=by omega
   refine ⟨row,?_,⟨hr,by omega,by omega⟩,?_⟩
   ·simp [hn]
   ·rw [e,e'];simp
theorem ZcN (r:Zf) (n:Int) (h:Zbf r) (h4:r.cond.length≤4):Qf r n=some (YJ r n.toNat):=by
 unfold Qf YJ
 refine (Zad (fun l i (row:List ByteArray)=>some ((YK (l.take (n.toNat - i))).foldl Qk row)) (fun l i row=>r.cond.drop i=l∧row.length≤1048576 * i∧i≤r.cond.length∧Asc row) ?_ ?_ r.cond 0 [] ⟨by simp,by simp,by simp,List.Pairwise.nil⟩).trans (by simp [ZR])
 ·rintro i row ⟨h1,h2,h3,h5⟩
  simp [YK]
 ·rintro x l i row ⟨h1,h2,h3,h5⟩
  have hi:r.cond[i]?=some x:=by have:=congrArg (fun l=>l[0]?) h1;simpa using this
  have hlt:i<r.cond.length:=(List.getElem?_eq_some_iff.1 hi).1
  have hr:r.cond.drop (i+1)=l:=by have:=congrArg List.tail h1;simpa using this
  have hx:=h.ca x (List.mem_of_getElem? hi)
  have hv:=Zcw x.pattern.args
  have hs:=ZdQ (Y5 x.pattern.args)
  by_cases hn:((i:Nat):Int)<n
  ·left
   have e:n.toNat - i=(n.toNat - (i+1))+1:=by omega
   by_cases hk:x.kind=1
   ·obtain ⟨f1,f2,f3⟩:=XY (ZR (Y5 x.pattern.args)) row h5
    refine ⟨(ZR (Y5 x.pattern.args)).foldl Qk row,?_,⟨hr,by omega,by omega,f1⟩,?_⟩
    ·simp only [hn,hk,decide_true,beq_self_eq_true,if_true]
     rw [Zb8 _ (by omega),Option.bind_some,ZkI (fun _ _ _=>rfl) (by omega)]
    ·rw [e]
     simp only [YK,List.take_succ_cons,List.flatMap_cons,hk,if_true,List.foldl_append]
     congr 2
     obtain ⟨g1,g2,_⟩:=XY (Y5 x.pattern.args) row h5
     exact Znu g1 f1 fun y=>by rw [g2,f2,ZW]
   ·refine ⟨row,?_,⟨hr,by omega,by omega,h5⟩,?_⟩
    ·simp [hn,hk]
    ·rw [e];simp [YK,hk]
  ·right
   have e:n.toNat - i=0:=by omega
   refine ⟨row,by simp [hn],by rw [e];simp [YK]⟩
def Zkr (r:Zf) (i:Int) (v:ByteArray):Bool:=!(Zbr (fun k x=>!(decide ((k:Int)≠i)&&YE (YN x) v)) r.cond 0&&r.thn.all fun a=>!YE a.pattern.args v)
theorem Zf3 {r:Zf} {i:Int} {v:ByteArray} {f:Zm→Option (List ByteArray)} {g:List ByteArray→ByteArray→Option Bool} (hf:∀x∈r.cond,f x=some (YN x)) (hg:∀l,g l v=some (YE l v)) {fin:Unit→Option Bool} (hfin:fin ()=some (!(r.thn.all fun a=>!YE a.pattern.args v))):
  Zp (σ:=Unit) (fun (k:Nat) (x:Zm) _=>if (((k:Nat):Int) != i)=true then (f x).bind fun l=>(g l v).bind fun b=>if b=true then some (.inr true) else some (.inl ()) else some (.inl ())) fin r.cond 0 ()=some (Zkr r i v):=by
 rw [X7 (p:=fun k x=>!(decide ((k:Int)≠i)&&YE (YN x) v)) (r:=true)]
 ·unfold Zkr
  cases Zbr (fun k x=>!(decide ((k:Int)≠i)&&YE (YN x) v)) r.cond 0 with
  | true=>simp only [if_true,hfin,Bool.true_and]
  | false=>simp
 ·intro j x hj
  rw [hf x (List.mem_of_getElem? hj),Option.bind_some,hg,Option.bind_some,Nat.zero_add]
  by_cases h:(j:Int)=i
  ·simp [h]
  ·have:((j:Int) != i)=true:=by simpa using h
   simp only [this,if_true]
   cases YE (YN x) v<;>simp [h]
theorem ZfV (r:Zf) (i:Int) (v:ByteArray) (h:Zbf r):XB r i v=some (Zkr r i v):=by
 unfold XB
 refine Zf3 (f:=Qn) (g:=Xh) (fun x mx=>ZbL x (by have:=h.ca x mx;omega)) (fun l=>QY l v) ?_
 rw [ZcB (p:=fun a=>YE a.pattern.args v) (r:=true)]
 ·simp only [←List.not_any_eq_all_not,Bool.not_not]
  cases r.thn.any fun a=>YE a.pattern.args v<;>rfl
 ·intro j a _
  rw [QY]
  cases YE a.pattern.args v<;>simp
theorem ZiF (r:Zf) (i:Int) (v:ByteArray) (h:Zbf r) (hv:Yt v=true):XS r i v=some (Zkr r i v):=by
 unfold XS
 refine Zf3 (f:=XR) (g:=ZS) (fun x mx=>ZbF x (by have:=h.ca x mx;omega)) (fun l=>YW l v) ?_
 rw [ZcB (p:=fun a=>YE a.pattern.args v) (r:=true)]
 ·simp only [←List.not_any_eq_all_not,Bool.not_not]
  cases r.thn.any fun a=>YE a.pattern.args v<;>rfl
 ·intro j a ma
  rw [Zb8 _ (by have:=h.ta a ma;omega),Option.bind_some,YW,Option.bind_some]
  have:YE (ZR (Y5 a.pattern.args)) v=YE a.pattern.args v:=by
   rw [Bool.eq_iff_iff,X8,X8,ZW,Zbq]
   simp [hv]
  rw [this]
  cases YE a.pattern.args v<;>simp
def ZkO (r:Zf) (i:Nat) (x:Zm) (v:ByteArray):Bool:=decide (x.kind=1)||YE (YJ r i) v||(decide (x.kind=2)&&!Zkr r i v)
def Zf6 (r:Zf) (i:Nat) (x:Zm):Bool:=(YN x).all (ZkO r i x)
theorem Zmb (r:Zf) (i:Nat) (x:Zm) (h:Zbf r) (h4:r.cond.length≤4) (hx:r.cond[i]?=some x):ZbE r i=some (Zf6 r i x):=by
 unfold ZbE Zf6
 have ha:atI r.cond (i:Int)=some x:=by unfold atI;rw [if_pos (by omega),Int.toNat_natCast];exact hx
 rw [ha,Option.bind_some,ZcK r _ h h4,Option.bind_some,ZbL x (by have:=h.ca x (List.mem_of_getElem? hx);omega),Option.bind_some,Int.toNat_natCast]
 rw [Yf (p:=ZkO r i x) (r:=false)]
 ·cases (YN x).all (ZkO r i x)<;>rfl
 ·intro j v mv
  rw [QY,ZfV r _ v h]
  simp only [Option.bind_some,ZkO,beq_iff_eq,bne_iff_ne,ne_eq]
  by_cases h1:x.kind=1
  ·simp [h1]
  ·simp only [h1,if_false,decide_false,Bool.false_or]
   cases YE (YJ r i) v with
   | true=>simp
   | false=>
    by_cases h2:x.kind=2
    ·simp only [h2,not_true_eq_false,if_false,Bool.false_eq_true,decide_true,Bool.true_and,Bool.false_or]
     cases Zkr r i v<;>simp
    ·simp [h2]
def Qj (r:Zf):Bool:=
 Qi r.name&&decide (0≤r.priority)&&decide (r.priority≤9)&&decide (1≤r.cond.length)&&decide (r.cond.length≤4)&&decide (1≤r.thn.length)&&decide (r.thn.length≤2)
  && Zbr (fun i x=>YT x&&(decide (i≠0)||decide (x.kind=1))&&Zf6 r i x) r.cond 0
  && r.thn.all (fun a=>Xu a&&(Y5 a.pattern.args).all (YE (YJ r r.cond.length)))
  && decide ((ZR (r.cond.flatMap YN)).length≤6)
theorem ZjJ (l:List Zm) (h:∀x∈l,x.pattern.args.length≤1048576) (h4:l.length≤4):Zbj l=some (l.flatMap YN):=by
 unfold Zbj
 rw [ZaR (f:=fun s x=>s++YN x) (fun j s=>s.length≤1048578 * j) (by simp)]
 ·congr 1
  have:∀(l:List Zm) (acc:List ByteArray),l.foldl (fun s x=>s++YN x) acc=acc++l.flatMap YN:=by
   intro l
   induction l with
   | nil=>simp
   | cons x l ih=>intro acc;rw [List.foldl_cons,ih];simp
  simpa using this l []
 ·intro j x s mx _ hl hI
  have:=h x mx
  have:=Zf8 x
  rw [ZbL x (by omega),Option.bind_some,Zj _ (by omega)]
  exact ⟨rfl,by simp;omega⟩
theorem ZiV (r:Zf) (h:Zbf r):Zek r=some (Qj r):=by
 unfold Zek Qj
 rw [Zfk,Option.bind_some]
 cases Qi r.name with
 | false=>simp
 | true=>
 simp only [if_true,decide_eq_true_eq,Bool.true_and]
 split
 ·rw [decide_eq_false (show ¬0≤r.priority by omega)];simp
 split
 ·rw [decide_eq_false (show ¬r.priority≤9 by omega)];simp
 split
 ·rw [decide_eq_false (show ¬1≤r.cond.length by omega)];simp
 split
 ·rw [decide_eq_false (show ¬r.cond.length≤4 by omega)];simp
 split
 ·rw [decide_eq_false (show ¬1≤r.thn.length by omega)];simp
 split
 ·rw [decide_eq_false (show ¬r.thn.length≤2 by omega)];simp
 rw [decide_eq_true (show 0≤r.priority by omega),decide_eq_true (show r.priority≤9 by omega),decide_eq_true (show 1≤r.cond.length by omega),decide_eq_true (show r.cond.length≤4 by omega),decide_eq_true (show 1≤r.thn.length by omega),decide_eq_true (show r.thn.length≤2 by omega)]
 simp only [Bool.true_and]
 have h4:r.cond.length≤4:=by omega
 rw [X7 (p:=fun i x=>YT x&&(decide (i≠0)||decide (x.kind=1))&&Zf6 r i x) (r:=false)]
 ·cases Zbr (fun i x=>YT x&&(decide (i≠0)||decide (x.kind=1))&&Zf6 r i x) r.cond 0 with
  | false=>simp
  | true=>
   simp only [if_true,Bool.true_and]
   rw [ZcK r _ h h4,Option.bind_some,Int.toNat_natCast,Yf (p:=fun a=>Xu a&&(Y5 a.pattern.args).all (YE (YJ r r.cond.length))) (r:=false)]
   ·cases r.thn.all fun a=>Xu a&&(Y5 a.pattern.args).all (YE (YJ r r.cond.length)) with
    | false=>simp
    | true=>
     have hl:(r.cond.flatMap YN).length≤1048578 * r.cond.length:=by
      have:∀l:List Zm,(∀x∈l,x.pattern.args.length≤1048576)→(l.flatMap YN).length≤1048578 * l.length:=by
       intro l
       induction l with
       | nil=>simp
       | cons x l ih=>
        intro hl
        have h1:=ih fun y my=>hl y (by simp [my])
        have h2:=hl x (by simp)
        have h3:=Zf8 x
        simp only [List.flatMap_cons,List.length_append,List.length_cons]
        omega
      exact this r.cond h.ca
     simp only [if_true,Bool.true_and]
     rw [ZjJ _ h.ca h4,Option.bind_some,X9 _ (by omega),Option.bind_some]
     congr 1
     rw [Bool.eq_iff_iff]
     simp only [decide_eq_true_eq]
     omega
   ·intro j a ma
    rw [Zl0,Option.bind_some]
    cases Xu a with
    | false=>simp
    | true=>
     simp only [if_true,Bool.true_and]
     rw [ZcV _ (by have:=h.ta a ma;omega),Option.bind_some,Yf (p:=YE (YJ r r.cond.length)) (r:=.inr false)]
     ·cases (Y5 a.pattern.args).all (YE (YJ r r.cond.length))<;>rfl
     ·intro k v _
      rw [QY,Option.bind_some]
      cases YE (YJ r r.cond.length) v<;>simp
 ·intro j x hj
  rw [Nat.zero_add,ZfG,Option.bind_some,Zmb r j x h h4 hj]
  simp only [Option.bind_some]
  cases YT x with
  | false=>simp
  | true=>
   by_cases h0:j=0
   ·subst h0
    by_cases hk:x.kind=1
    ·simp only [hk];cases Zf6 r 0 x<;>simp
    ·simp [hk]
   ·have:((j:Int)==0)=false:=by rw [beq_eq_false_iff_ne];omega
    simp only [this]
    cases Zf6 r j x<;>simp [h0]
theorem ZeD {α:Type} (f:α→List ByteArray):∀(l:List α) (acc:List ByteArray),Asc acc→l.foldl (fun s x=>(f x).foldl Qk s) acc=(l.flatMap f).foldl Qk acc
 | [],_,_=>rfl
 | x::l,acc,h=>by rw [List.foldl_cons,ZeD f l _ (XY (f x) acc h).1,List.flatMap_cons,List.foldl_append]
def Zll (r:Zf):List ByteArray:=ZR (r.cond.flatMap YN++r.thn.flatMap fun a=>Y5 a.pattern.args)
theorem Zlx (r:Zf) (h:Zbf r) (h4:r.cond.length≤4) (h2:r.thn.length≤2):Zdg r=some (Zll r):=by
 unfold Zdg Zll
 rw [ZaR (f:=fun s x=>(YN x).foldl Qk s) (fun j s=>s.length≤1048578 * j∧Asc s) ⟨by simp,List.Pairwise.nil⟩]
 ·have hA:=ZeD YN r.cond [] List.Pairwise.nil
  have hB:Asc (r.cond.foldl (fun s x=>(YN x).foldl Qk s) []):=by rw [hA];exact (XY _ [] List.Pairwise.nil).1
  have hl:(r.cond.foldl (fun s x=>(YN x).foldl Qk s) []).length≤1048578 * 4:=by
   rw [hA]
   have:=(XY (r.cond.flatMap YN) [] List.Pairwise.nil).2.2
   have h3:(r.cond.flatMap YN).length≤1048578 * r.cond.length:=by
    have:∀l:List Zm,(∀x∈l,x.pattern.args.length≤1048576)→(l.flatMap YN).length≤1048578 * l.length:=by
     intro l
     induction l with
     | nil=>simp
     | cons x l ih=>
      intro hl
      have h1:=ih fun y my=>hl y (by simp [my])
      have h2:=hl x (by simp)
      have h3:=Zf8 x
      simp only [List.flatMap_cons,List.length_append,List.length_cons]
      omega
    exact this r.cond h.ca
   simp only [List.length_nil,Nat.add_zero] at this
   omega
  rw [ZaR (f:=fun s a=>(ZR (Y5 a.pattern.args)).foldl Qk s) (fun j s=>s.length≤1048578 * 4+1048576 * j∧Asc s) ⟨by omega,hB⟩]
  ·congr 1
   rw [ZeD (fun a:Zr=>ZR (Y5 a.pattern.args)) r.thn _ hB,hA]
   refine ZeX (XY _ _ (XY _ [] List.Pairwise.nil).1).1 fun y=>?_
   rw [(XY _ _ (XY _ [] List.Pairwise.nil).1).2.1 y,(XY _ [] List.Pairwise.nil).2.1 y]
   simp only [List.mem_append,List.mem_flatMap,ZW,List.not_mem_nil,or_false]
   exact Or.comm
  ·intro j a s ma _ hj hI
   have h5:=h.ta a ma
   have h6:=Zcw a.pattern.args
   have h7:=ZdQ (Y5 a.pattern.args)
   obtain ⟨f1,f2,f3⟩:=XY (ZR (Y5 a.pattern.args)) s hI.2
   rw [Zb8 _ (by omega),Option.bind_some,ZkI (fun _ _ _=>rfl) (by omega)]
   exact ⟨rfl,by omega,f1⟩
 ·intro j x s mx _ hj hI
  have h5:=h.ca x mx
  have h6:=Zf8 x
  obtain ⟨f1,f2,f3⟩:=XY (YN x) s hI.2
  rw [ZbF _ (by omega),Option.bind_some,ZkI (fun _ _ _=>rfl) (by omega)]
  exact ⟨rfl,by omega,f1⟩
theorem ZoO {l:List Zm} {y:ByteArray} (h:y∈YK l):y∈l.flatMap YN:=by
 simp only [YK,List.mem_flatMap] at h ⊢
 obtain ⟨x,hx,hy⟩:=h
 refine ⟨x,hx,?_⟩
 split at hy
 ·rw [YN,ZW,Zbq]
  rw [Zbq] at hy
  exact ⟨by simp [ZfL,hy.1],hy.2⟩
 ·simp at hy
theorem Zji (r:Zf) (h:Zbf r):Zev r=some (Qj r):=by
 unfold Zev Qj
 rw [ZfC,Option.bind_some]
 cases Qi r.name with
 | false=>simp
 | true=>
 simp only [if_true,Zgi,Option.bind_some,Bool.true_and,Bool.and_eq_true,decide_eq_true_eq]
 split
 rotate_left
 ·rename_i hh
  have:(decide (0≤r.priority)&&decide (r.priority≤9))=false:=by simp;omega
  rw [this];simp
 rename_i hp
 rw [decide_eq_true hp.1,decide_eq_true hp.2]
 split
 rotate_left
 ·rename_i hh
  have:(decide (1≤r.cond.length)&&decide (r.cond.length≤4))=false:=by simp;omega
  simp only [Bool.true_and,this,Bool.false_and]
 rename_i hc
 rw [decide_eq_true (show 1≤r.cond.length by omega),decide_eq_true (show r.cond.length≤4 by omega)]
 split
 rotate_left
 ·rename_i hh
  have:(decide (1≤r.thn.length)&&decide (r.thn.length≤2))=false:=by simp;omega
  simp only [Bool.true_and,this,Bool.false_and]
 rename_i ht
 rw [decide_eq_true (show 1≤r.thn.length by omega),decide_eq_true (show r.thn.length≤2 by omega)]
 simp only [Bool.true_and]
 have h4:r.cond.length≤4:=by omega
 rw [ZcN r _ h h4,Option.bind_some,Int.toNat_natCast]
 rw [X7 (p:=fun i x=>YT x&&(decide (i≠0)||decide (x.kind=1))&&Zf6 r i x) (r:=false)]
 ·cases Zbr (fun i x=>YT x&&(decide (i≠0)||decide (x.kind=1))&&Zf6 r i x) r.cond 0 with
  | false=>simp
  | true=>
   simp only [if_true,Bool.true_and]
   rw [Yf (p:=fun a=>Xu a&&(Y5 a.pattern.args).all (YE (YJ r r.cond.length))) (r:=false)]
   ·cases ha:r.thn.all fun a=>Xu a&&(Y5 a.pattern.args).all (YE (YJ r r.cond.length)) with
    | false=>simp
    | true=>
     simp only [if_true,Bool.true_and]
     rw [Zlx r h h4 (by omega),Option.bind_some]
     have e:Zll r=ZR (r.cond.flatMap YN):=ZlC fun y=>by
      simp only [List.mem_append]
      refine ⟨fun hy=>?_,.inl⟩
      rcases hy with hy | hy
      ·exact hy
      ·obtain ⟨a,ma,hy⟩:=List.mem_flatMap.1 hy
       have:=List.all_eq_true.1 ha a ma
       simp only [Bool.and_eq_true] at this
       have:=List.all_eq_true.1 this.2 y hy
       rw [X8,YJ,ZW,List.take_length] at this
       exact ZoO this
     rw [e]
     congr 1
     rw [Bool.eq_iff_iff]
     simp only [decide_eq_true_eq]
     omega
   ·intro j a ma
    rw [ZlG,Option.bind_some]
    cases Xu a with
    | false=>simp
    | true=>
     simp only [if_true,Bool.true_and]
     rw [Zb8 _ (by have:=h.ta a ma;omega),Option.bind_some,Yf (p:=YE (YJ r r.cond.length)) (r:=.inr false)]
     ·have:(ZR (Y5 a.pattern.args)).all (YE (YJ r r.cond.length))=(Y5 a.pattern.args).all (YE (YJ r r.cond.length)):=by
       rw [Bool.eq_iff_iff,List.all_eq_true,List.all_eq_true]
       simp only [ZW]
      rw [this]
      cases (Y5 a.pattern.args).all (YE (YJ r r.cond.length))<;>rfl
     ·intro k v _
      rw [YW,Option.bind_some]
      cases YE (YJ r r.cond.length) v<;>simp
 ·intro j x hj
  have hxa:=h.ca x (List.mem_of_getElem? hj)
  rw [Nat.zero_add,ZdL,Option.bind_some,ZcN r _ h h4,ZbF x (by omega),Int.toNat_natCast]
  simp only [Option.bind_some]
  cases hic:YT x with
  | false=>simp
  | true=>
   have loop:∀{fin:Unit→Option (Unit ⊕ Bool)} (hfin:fin ()=some (.inl ())),Zp (σ:=Unit) (ρ:=Unit ⊕ Bool) (fun (_:Nat) (v:ByteArray) _=>(ZS (YJ r j) v).bind fun b=>(Za9 x).bind fun t=>if t=true then (if b=true then (if (x.kind==2)=true then some (.inl ()) else some (.inl ())) else some (.inr (.inr false))) else (if (x.kind==2)=true then (if b=true then some (.inl ()) else (XS r ((j:Nat):Int) v).bind fun e=>if e=true then some (.inr (.inr false)) else some (.inl ())) else some (.inl ()))) fin (YN x) 0 ()=some (bif Zf6 r j x then .inl () else .inr false):=fun {fin} hfin=>by
    rw [Yf (p:=ZkO r j x) (r:=.inr false)]
    ·unfold Zf6
     cases (YN x).all (ZkO r j x)<;>simp [hfin]
    ·intro k v mv
     rw [YW,Zpu,ZiF r _ v h (Zq3 mv),hic]
     simp only [Option.bind_some,Bool.true_and,decide_eq_true_eq,beq_iff_eq,ZkO]
     rcases Zm6 hic with hk | hk | hk | hk | hk<;>rw [hk]<;>cases YE (YJ r j) v<;>cases Zkr r j v<;>simp
   by_cases h0:j=0
   ·subst h0
    by_cases hk:x.kind=1
    ·have hk':(x.kind != 1)=false:=by simp [hk]
     simp only [if_true,hk',show (((0:Nat):Int)==0)=true from rfl,Bool.false_eq_true,if_false]
     rw [loop rfl]
     simp [hk]
    ·have hk':(x.kind != 1)=true:=by simpa using hk
     simp [hk',hk]
   ·have:((j:Int)==0)=false:=by rw [beq_eq_false_iff_ne];omega
    simp only [if_true,this,Bool.false_eq_true,if_false]
    rw [loop rfl]
    simp [h0]
end Go.Proofs.YtojnhepgnbhaaaaGreatDoor
namespace Go.Proofs.YtojnhepgnbhaaaaGreatDoor
theorem Zhw {v:ByteArray} (h:Yt v=true):ZO v=false:=by
 cases ha:ZO v with
 | false=>rfl
 | true=>
  have h1:=Zhu ha
  rw [QX] at h1
  unfold Yt at h
  simp only [Bool.and_eq_true,decide_eq_true_iff] at h
  omega
def Qx:List Zl→ByteArray→Option ByteArray
 | [],_=>none
 | x::b,v=>if x.var=v then some x.value else Qx b v
def XN (b:List Zl) (t:ByteArray):Option ByteArray:=if ZO t=true then some t else if Yt t=true then Qx b t else none
theorem Zhi {b:List Zl} {v:ByteArray} (h:Yt v=true):XN b v=Qx b v:=by
 unfold XN
 rw [if_neg (by rw [Zhw h];simp),if_pos h]
def ZeH (x:Zl):Bool:=Yt x.var&&ZO x.value
def Zg9:Option ByteArray→ByteArray→Bool
 | none,_=>true
 | some p,v=>sLt p v
def YM:Option ByteArray→List Zl→Bool
 | _,[]=>true
 | prev,x::r=>ZeH x&&Zg9 prev x.var&&YM (some x.var) r
def Z0 (b:List Zl):Bool:=decide (b.length≤6)&&YM none b
theorem Zq1 {prev:Option ByteArray} {b:List Zl} (h:YM prev b=true):∀x∈b,ZeH x=true∧∀p,prev=some p→sLt p x.var=true:=by
 induction b generalizing prev with
 | nil=>simp
 | cons y r ih=>
  simp only [YM,Bool.and_eq_true] at h
  obtain ⟨⟨h1,h2⟩,h3⟩:=h
  intro x mx
  rcases List.mem_cons.1 mx with rfl | mx
  ·exact ⟨h1,fun p hp=>by subst hp;exact h2⟩
  ·obtain ⟨k1,k2⟩:=ih h3 x mx
   exact ⟨k1,fun p hp=>by subst hp;exact Zed h2 (k2 _ rfl)⟩
theorem ZrH {b:List Zl} {v:ByteArray} (h:Qx b v=none):∀x∈b,¬x.var=v:=by
 induction b with
 | nil=>simp
 | cons y r ih=>
  simp only [Qx] at h
  split at h
  ·simp at h
  ·rename_i hy
   intro x mx
   rcases List.mem_cons.1 mx with rfl | mx
   ·exact hy
   ·exact ih h x mx
theorem Zq5 {b:List Zl} {v w:ByteArray} (h:Qx b v=some w):∃x∈b,x.var=v∧x.value=w:=by
 induction b with
 | nil=>simp [Qx] at h
 | cons y r ih=>
  simp only [Qx] at h
  split at h
  ·rename_i hy
   exact ⟨y,by simp,hy,Option.some.inj h⟩
  ·obtain ⟨x,mx,h1⟩:=ih h
   exact ⟨x,by simp [mx],h1⟩
def ZeS:List Zl→ByteArray→ByteArray→List Zl
 | [],v,w=>[⟨v,w⟩]
 | x::b,v,w=>if sLt v x.var=true then ⟨v,w⟩::x::b else x::ZeS b v w
theorem Zpv (v w:ByteArray):∀b:List Zl,(ZeS b v w).length=b.length+1
 | []=>rfl
 | x::b=>by
  simp only [ZeS]
  split
  ·rfl
  ·rw [List.length_cons,Zpv v w b];rfl
theorem Ziq {v w u:ByteArray}:∀{b:List Zl},Qx b v=none→Qx (ZeS b v w) u=if v=u then some w else Qx b u
 | [],_=>by simp [ZeS,Qx]
 | x::b,h=>by
  simp only [Qx] at h
  split at h
  ·simp at h
  ·rename_i hx
   simp only [ZeS]
   split
   ·simp [Qx]
   ·simp only [Qx]
    rw [Ziq h]
    by_cases hu:x.var=u
    ·rw [if_pos hu,if_pos hu,if_neg (fun e=>hx (hu.trans e.symm))]
    ·rw [if_neg hu,if_neg hu]
theorem ZmO {v w:ByteArray} (hv:Yt v=true) (hw:ZO w=true):∀{b:List Zl} {prev:Option ByteArray},YM prev b=true→Qx b v=none→(∀p,prev=some p→sLt p v=true)→YM prev (ZeS b v w)=true
 | [],prev,_,_,hp=>by
  simp only [ZeS,YM,ZeH,hv,hw,Bool.and_self,Bool.true_and,Bool.and_true]
  cases prev with
  | none=>rfl
  | some p=>exact hp p rfl
 | x::b,prev,h,hg,hp=>by
  have hx:=ZrH hg x (by simp)
  simp only [Qx,hx,if_false] at hg
  simp only [YM,Bool.and_eq_true] at h
  obtain ⟨⟨h1,h2⟩,h3⟩:=h
  simp only [ZeS]
  by_cases hlt:sLt v x.var=true
  ·rw [if_pos hlt]
   have h4:Zg9 prev v=true:=by
    cases prev with
    | none=>rfl
    | some p=>exact hp p rfl
   simp only [YM,Bool.and_eq_true]
   exact ⟨⟨by simp [ZeH,hv,hw],h4⟩,⟨⟨h1,hlt⟩,h3⟩⟩
  ·rw [if_neg hlt]
   simp only [YM,Bool.and_eq_true]
   refine ⟨⟨h1,h2⟩,ZmO hv hw h3 hg fun p hp2=>?_⟩
   obtain rfl:=Option.some.inj hp2
   exact Zeb (by simpa using hlt) (fun e=>hx e.symm)
def Zf0 (b:List Zl) (v w:ByteArray):Option (List Zl):=
 if Z0 b=true∧Yt v=true∧ZO w=true then
  (match Qx b v with
  | some old=>if old=w then some b else none
  | none=>if b.length=6 then none else some (ZeS b v w))
 else none
theorem Zqy {b b':List Zl} {v w:ByteArray} (h:Zf0 b v w=some b'):Z0 b'=true∧Qx b' v=some w∧∀u z,Qx b u=some z→Qx b' u=some z:=by
 unfold Zf0 at h
 split at h
 ·rename_i hc
  obtain ⟨h1,h2,h3⟩:=hc
  cases hg:Qx b v with
  | some old=>
   rw [hg] at h
   simp only at h
   split at h
   ·rename_i he
    obtain rfl:=Option.some.inj h
    exact ⟨h1,by rw [hg,he],fun u z hu=>hu⟩
   ·simp at h
  | none=>
   rw [hg] at h
   simp only at h
   split at h
   ·simp at h
   ·rename_i hl
    obtain rfl:=Option.some.inj h
    unfold Z0 at h1 ⊢
    rw [Bool.and_eq_true,decide_eq_true_iff] at h1
    refine ⟨?_,by rw [Ziq hg,if_pos rfl],fun u z hu=>?_⟩
    ·rw [Bool.and_eq_true,decide_eq_true_iff,Zpv]
     exact ⟨by omega,ZmO h2 h3 h1.2 hg (by simp)⟩
    ·rw [Ziq hg,if_neg (fun e=>by rw [←e,hg] at hu;simp at hu)];exact hu
 ·simp at h
def ZdS:List ByteArray→List ByteArray→List Zl→Option (List Zl)
 | [],_,b=>some b
 | _::_,[],_=>none
 | a::p,w::f,b=>if ZO a=true then (if a=w then ZdS p f b else none) else (Zf0 b a w).bind (ZdS p f)
theorem Zip:∀{p f:List ByteArray} {b b':List Zl},Z0 b=true→ZdS p f b=some b'→Z0 b'=true∧(∀a∈p,Yt a=true→∃z,Qx b' a=some z)∧∀u z,Qx b u=some z→Qx b' u=some z
 | [],_,b,b',hb,h=>by
  simp only [ZdS,Option.some.injEq] at h
  subst h
  exact ⟨hb,by simp,fun u z h=>h⟩
 | _::_,[],_,_,_,h=>by simp [ZdS] at h
 | a::p,w::f,b,b',hb,h=>by
  simp only [ZdS] at h
  by_cases ha:ZO a=true
  ·rw [if_pos ha] at h
   split at h
   ·obtain ⟨h1,h2,h3⟩:=Zip hb h
    refine ⟨h1,fun x mx hx=>?_,h3⟩
    rcases List.mem_cons.1 mx with rfl | mx
    ·rw [Zhw hx] at ha;simp at ha
    ·exact h2 x mx hx
   ·simp at h
  ·rw [if_neg ha] at h
   obtain ⟨b1,e1,h⟩:=Option.bind_eq_some_iff.1 h
   obtain ⟨k1,k2,k3⟩:=Zqy e1
   obtain ⟨h1,h2,h3⟩:=Zip k1 h
   refine ⟨h1,fun x mx hx=>?_,fun u z hu=>h3 u z (k3 u z hu)⟩
   rcases List.mem_cons.1 mx with rfl | mx
   ·exact ⟨w,h3 _ _ k2⟩
   ·exact h2 x mx hx
def ZhZ (p:Zv) (f:Zc) (b:List Zl):Bool:=Z1 p&&YV f&&Z0 b&&decide (p.rel=f.rel)&&decide (p.args.length=f.args.length)
def Za5 (p:Zv) (f:Zc) (b:List Zl):Option (List Zl):=if ZhZ p f b=true then ZdS p.args f.args b else none
theorem ZrA {p:Zv} {f:Zc} {b b':List Zl} (h:Za5 p f b=some b'):Z0 b'=true∧(∀a∈p.args,Yt a=true→∃z,Qx b' a=some z)∧∀u z,Qx b u=some z→Qx b' u=some z:=by
 unfold Za5 at h
 split at h
 ·rename_i hc
  unfold ZhZ at hc
  simp only [Bool.and_eq_true] at hc
  exact Zip hc.1.1.2 h
 ·simp at h
def Zd9:List ByteArray→List Zl→Option (List ByteArray)
 | [],_=>some []
 | a::p,b=>(XN b a).bind fun v=>(Zd9 p b).map fun l=>v::l
theorem Zj0 {b:List Zl}:∀{p:List ByteArray},p.all YD=true→(∀a∈p,Yt a=true→∃z,Qx b a=some z)→∃l,Zd9 p b=some l∧l.length=p.length
 | [],_,_=>⟨[],rfl,rfl⟩
 | a::p,h,hv=>by
  simp only [List.all_cons,Bool.and_eq_true] at h
  obtain ⟨l,e,hl⟩:=Zj0 h.2 fun x mx=>hv x (by simp [mx])
  have:∃v,XN b a=some v:=by
   have ht:=h.1
   unfold YD at ht
   rw [Bool.or_eq_true] at ht
   rcases ht with ht | ht
   ·exact ⟨a,by unfold XN;rw [if_pos ht]⟩
   ·obtain ⟨z,hz⟩:=hv a (by simp) ht
    exact ⟨z,by rw [Zhi ht];exact hz⟩
  obtain ⟨v,hv⟩:=this
  exact ⟨v::l,by simp only [Zd9,hv,e,Option.bind_some,Option.map_some],by simp [hl]⟩
def Ze8 (p:Zv) (b:List Zl):Option Zc:=if Z1 p=true∧Z0 b=true then (Zd9 p.args b).map fun l=>{ rel:=p.rel,args:=l } else none
def Zcu (p:Zv) (b:List Zl) (F:List Zc):List Zc:=F.filter fun f=>(Za5 p f b).isSome
def ZsZ (l r:ByteArray):Bool:=match Qy l,Qy r with | some m,some n=>decide (m<n) | _,_=>false
def Zoi (k:Int) (l r:ByteArray):Bool:=if k=3 then decide (l=r) else if k=4 then !decide (l=r) else ZsZ l r
def ZkD (x:Zm) (b:List Zl):Bool:=
 if YT x=true∧3≤x.kind∧Z0 b=true then (match XN b x.left,XN b x.right with | some l,some r=>Zoi x.kind l r | _,_=>false) else false
def ZfD (x:Zm) (b:List Zl) (F:List Zc):Bool:=
 if YT x=true∧Z0 b=true then
  (if x.kind=1 then decide (0<(Zcu x.pattern b F).length) else if x.kind=2 then decide ((Zcu x.pattern b F).length=0) else ZkD x b)
 else false
def Zil (x:Zm) (F:List Zc) (t:Zt):List Zt:=
 if x.kind=1 then F.filterMap fun f=>(Za5 x.pattern f t.binding).map fun b=>{ facts:=t.facts++[f],binding:=b }
 else if ZfD x t.binding F=true then [t] else []
def Zfe (x:Zm) (F:List Zc) (l:List Zt):List Zt:=l.flatMap (Zil x F)
def ZtY:Zt:={ facts:=[],binding:=[] }
def ZQ (l:List Zm) (F:List Zc):List Zt:=l.foldl (fun ts x=>Zfe x F ts) [ZtY]
theorem Zcj (p:List Zm) (x:Zm) (F:List Zc):ZQ (p++[x]) F=Zfe x F (ZQ p F):=by
 unfold ZQ
 rw [List.foldl_append]
 rfl
structure Zlu (p:List Zm) (F:List Zc) (t:Zt):Prop where
 bind:Z0 t.binding=true
 len:t.facts.length≤p.length
 sub:∀f∈t.facts,f∈F
 vars:∀v∈YK p,∃z,Qx t.binding v=some z
theorem Zts {p:List Zm} {x:Zm} {F:List Zc} {t u:Zt} (h:Zlu p F t) (hu:u∈Zil x F t):Zlu (p++[x]) F u:=by
 unfold Zil at hu
 have hv:YK (p++[x])=YK p++(if x.kind=1 then Y5 x.pattern.args else []):=by simp [YK]
 by_cases hk:x.kind=1
 ·rw [if_pos hk] at hu
  obtain ⟨f,mf,e⟩:=List.mem_filterMap.1 hu
  obtain ⟨b,e2,rfl⟩:=Option.map_eq_some_iff.1 e
  obtain ⟨h1,h2,h3⟩:=ZrA e2
  refine ⟨h1,by have:=h.len;simp;omega,fun g mg=>?_,fun v mv=>?_⟩
  ·rcases List.mem_append.1 mg with mg | mg
   ·exact h.sub g mg
   ·simp at mg;subst mg;exact mf
  ·rw [hv,if_pos hk] at mv
   rcases List.mem_append.1 mv with mv | mv
   ·obtain ⟨z,hz⟩:=h.vars v mv
    exact ⟨z,h3 v z hz⟩
   ·obtain ⟨m1,m2⟩:=Zbq.1 mv
    exact h2 v m1 m2
 ·rw [if_neg hk] at hu
  split at hu
  ·simp at hu
   subst hu
   refine ⟨h.bind,by have:=h.len;simp;omega,h.sub,fun v mv=>?_⟩
   rw [hv,if_neg hk,List.append_nil] at mv
   exact h.vars v mv
  ·simp at hu
theorem ZtG (F:List Zc):Zlu [] F ZtY:=⟨rfl,Nat.le_refl _,by simp [ZtY],by simp [YK]⟩
theorem Zd8 (F:List Zc) (l:List Zm):∀t∈ZQ l F,Zlu l F t:=by
 have:∀n (l:List Zm),l.length=n→∀t∈ZQ l F,Zlu l F t:=by
  intro n
  induction n with
  | zero=>
   intro l h
   rw [List.eq_nil_of_length_eq_zero h]
   intro t mt
   simp [ZQ] at mt
   subst mt
   exact ZtG F
  | succ n ih=>
   intro l h
   obtain ⟨p,x,rfl⟩:∃p x,l=p++[x]:=⟨l.dropLast,l.getLast (by intro e;simp [e] at h),(List.dropLast_concat_getLast _).symm⟩
   intro t mt
   rw [Zcj] at mt
   obtain ⟨s,ms,mt⟩:=List.mem_flatMap.1 mt
   exact Zts (ih p (by simpa using h) s ms) mt
 exact this _ l rfl
theorem Zkj (x:Zm) (F:List Zc) (hF:F.length≤24):∀l:List Zt,(Zfe x F l).length≤24 * l.length
 | []=>Nat.le_refl _
 | t::l=>by
  have ih:=Zkj x F hF l
  have h1:(Zil x F t).length≤24:=by
   unfold Zil
   split
   ·exact Nat.le_trans (List.length_filterMap_le _ _) hF
   ·split<;>simp
  unfold Zfe at *
  rw [List.flatMap_cons,List.length_append,List.length_cons]
  omega
theorem ZeB (F:List Zc) (hF:F.length≤24) (l:List Zm) (hl:l.length≤4):(ZQ l F).length≤331776:=by
 have key:∀(l:List Zm) (ts:List Zt),(l.foldl (fun ts x=>Zfe x F ts) ts).length≤24 ^ l.length * ts.length:=by
  intro l
  induction l with
  | nil=>intro ts;simp
  | cons x l ih=>
   intro ts
   rw [List.foldl_cons,List.length_cons,Nat.pow_succ]
   have h1:=ih (Zfe x F ts)
   have h2:=Zkj x F hF ts
   refine Nat.le_trans h1 (Nat.le_trans (Nat.mul_le_mul_left _ h2) ?_)
   rw [←Nat.mul_assoc]
   exact Nat.le_refl _
 have h1:=key l [ZtY]
 have h2:24 ^ l.length≤24 ^ 4:=Nat.pow_le_pow_right (by omega) hl
 unfold ZQ
 simp only [List.length_singleton,Nat.mul_one] at h1
 omega
end Go.Proofs.YtojnhepgnbhaaaaGreatDoor
namespace Go.Proofs.YtojnhepgnbhaaaaGreatDoor
def ZeC (b:List Zl) (i:Nat):Option ByteArray:=if i=0 then none else (b[i - 1]?).map (·.var)
theorem ZiS {b:List Zl} {body:Nat→Zl→Unit→Option (Unit ⊕ Bool)} {fin:Unit→Option Bool} (hb:∀i x,b[i]?=some x→body i x ()=if (ZeH x&&Zg9 (ZeC b i) x.var)=true then some (.inl ()) else some (.inr false)):
  ∀(l:List Zl) (i:Nat),b.drop i=l→Zp body fin l i ()=if YM (ZeC b i) l=true then fin () else some false
 | [],i,_=>by simp [Zp,YM]
 | x::l,i,h=>by
  have hx:b[i]?=some x:=by rw [←List.head?_drop,h];rfl
  have hd:b.drop (i+1)=l:=by rw [←List.tail_drop,h];rfl
  have hp:ZeC b (i+1)=some x.var:=by unfold ZeC;rw [if_neg (by omega),Nat.add_sub_cancel,hx];rfl
  by_cases hc:(ZeH x&&Zg9 (ZeC b i) x.var)=true
  ·rw [Ye (by rw [hb i x hx,if_pos hc]),ZiS hb l (i+1) hd,hp]
   simp only [YM,hc,Bool.true_and]
  ·rw [Yy (by rw [hb i x hx,if_neg hc])]
   simp only [YM,eq_false_of_ne_true hc,Bool.false_and,Bool.false_eq_true,if_false]
theorem Zml {b:List Zl} (hl:b.length≤1048576) {i:Nat} {x:Zl} (hx:b[i]?=some x):
  (if Yt x.var=true then (if ZO x.value=true then (if (decide (0<((i:Nat):Int)))=true then (atI b (IntKind.i64.wrap (((i:Nat):Int) - 1))).bind fun x13=>if (sLt x13.var x.var)=true then some (.inl ()) else some (.inr false) else some (.inl ())) else some (.inr false)) else some (.inr false):Option (Unit ⊕ Bool))
   = if (ZeH x&&Zg9 (ZeC b i) x.var)=true then some (.inl ()) else some (.inr false):=by
 have hi:=(List.getElem?_eq_some_iff.1 hx).1
 unfold ZeH
 cases Yt x.var with
 | false=>simp
 | true=>
  cases ZO x.value with
  | false=>simp
  | true=>
   rw [if_pos rfl,if_pos rfl]
   by_cases h0:i=0
   ·subst h0
    rw [if_neg (by simp)]
    simp [ZeC,Zg9]
   ·have hp:ZeC b i=some (b[i - 1]).var:=by unfold ZeC;rw [if_neg h0,List.getElem?_eq_getElem (by omega)];rfl
    rw [if_pos (by simp;omega),show ((i:Nat):Int) - 1=((i - 1:Nat):Int) by omega,ZdA (by omega) (by omega),Zcm,List.getElem?_eq_getElem (by omega),Option.bind_some,hp]
    simp [Zg9]
theorem QH (b:List Zl):XL b=some (Z0 b):=by
 unfold XL Z0
 by_cases h6:b.length≤6
 ·rw [if_neg (by simp;omega),ZiS (b:=b) (fun i x hx=>by
   rw [Zc0,Option.bind_some,Qe]
   exact Zml (by omega) hx) b 0 rfl,decide_eq_true h6]
  show (if YM none b=true then some true else some false)=_
  cases YM none b<;>rfl
 ·rw [if_pos (by simp;omega),decide_eq_false h6]
  rfl
theorem QG (b:List Zl) (hl:b.length≤1048576):XI b=some (Z0 b):=by
 unfold XI Z0
 rw [ZiS (b:=b) (fun i x hx=>by
   rw [QC,Option.bind_some,Qd]
   exact Zml hl hx) b 0 rfl]
 show (if YM none b=true then some (decide (((b.length:Nat):Int)≤6)) else some false)=_
 have:decide (((b.length:Nat):Int)≤6)=decide (b.length≤6):=by rw [Bool.eq_iff_iff];simp;omega
 rw [this]
 cases YM none b<;>simp
def ZtR (b:List Zl) (t:ByteArray):ByteArray × Bool:=match XN b t with | some v=>(v,true) | none=>(⟨#[]⟩,false)
def Zs8:Option ByteArray→ByteArray × Bool
 | some v=>(v,true)
 | none=>(⟨#[]⟩,false)
theorem ZbP (b:List Zl) (t:ByteArray):ZtR b t=Zs8 (XN b t):=by unfold ZtR Zs8;cases XN b t<;>rfl
theorem Zk6 {t:ByteArray} {body:Nat→Zl→Unit→Option (Unit ⊕ (ByteArray × Bool))} (hb:∀i x,body i x ()=if x.var=t then some (.inr (x.value,true)) else some (.inl ())):
  ∀(b:List Zl) (i:Nat),Zp body (fun _=>some ((⟨#[]⟩),false)) b i ()=some (Zs8 (Qx b t))
 | [],_=>rfl
 | x::b,i=>by
  by_cases hx:x.var=t
  ·rw [Yy (by rw [hb,if_pos hx])]
   simp [Qx,hx,Zs8]
  ·rw [Ye (by rw [hb,if_neg hx]),Zk6 hb b (i+1)]
   simp [Qx,hx]
theorem Zcs (b:List Zl) (t:ByteArray):ZaL b t=some (ZtR b t):=by
 unfold ZaL
 rw [ZbP,Qe,Option.bind_some]
 unfold XN
 by_cases ha:ZO t=true
 ·rw [if_pos ha,if_pos ha];rfl
 ·rw [if_neg ha,if_neg ha,Zc0,Option.bind_some]
  by_cases hv:Yt t=true
  ·rw [if_pos hv,if_pos hv,Zk6]
   intro i x
   by_cases hx:x.var=t
   ·rw [if_pos (ZT.2 hx),if_pos hx]
   ·rw [if_neg (by rw [ZT];exact hx),if_neg hx]
  ·rw [if_neg hv,if_neg hv];rfl
theorem Zcr (b:List Zl) (t:ByteArray):ZaC b t=some (ZtR b t):=by
 unfold ZaC
 rw [ZbP,Qd,Option.bind_some]
 unfold XN
 by_cases ha:ZO t=true
 ·rw [if_pos ha,if_pos ha];rfl
 ·rw [if_neg ha,if_neg ha]
  by_cases hv:Yt t=true
  ·rw [if_pos hv,Zk6]
   intro i x
   by_cases hx:x.var=t
   ·rw [if_pos (ZT.2 hx),if_pos hx,QC,Option.bind_some,if_pos hv]
   ·rw [if_neg (by rw [ZT];exact hx),if_neg hx]
  ·rw [if_neg hv,Yf (p:=fun _=>true) (r:=((⟨#[]⟩:ByteArray),false))]
   ·simp [Zs8]
   ·intro i x _
    rw [QC,Option.bind_some,if_neg hv]
    split<;>rfl
theorem Zok {a v:ByteArray}:((sLt a v||sEq a v)=true)↔¬sLt v a=true:=by
 rw [Bool.or_eq_true,ZT]
 constructor
 ·rintro (h | h)
  ·rw [ZiK h];simp
  ·rw [h,Zhh];simp
 ·intro h
  by_cases e:a=v
  ·exact .inr e
  ·exact .inl (Zeb (by simpa using h) (fun e2=>e e2.symm))
theorem Zom {ρ:Type} {v w:ByteArray} {K:List Zl→Option ρ} {body:Nat→Zl→(List Zl × Bool)→Option ((List Zl × Bool) ⊕ ρ)} {fin:(List Zl × Bool)→Option ρ}
  (h1:∀i x row,row.length≤1000→body i x (row,true)=some (.inl (row++[x],true)))
  (h2:∀i x row,row.length≤1000→body i x (row,false)=if (sLt x.var v||sEq x.var v)=true then some (.inl (row++[x],false)) else some (.inl ((row++[{ var:=v,value:=w }])++[x],true)))
  (h3:∀row,row.length≤1000→fin (row,true)=K row) (h4:∀row,row.length≤1000→fin (row,false)=K (row++[{ var:=v,value:=w }])) (b:List Zl) (hb:b.length≤100):Zp body fin b 0 ([],false)=K (ZeS b v w):=by
 rw [Zad (fun l _ s=>K (s.1++(if s.2=true then l else ZeS l v w))) (fun l _ s=>s.1.length+2 * l.length≤900) ?_ ?_ b 0 ([],false) (by simp;omega)]
 ·simp
 ·rintro i ⟨row,done⟩ hI
  simp only [List.length_nil] at hI
  cases done with
  | true=>rw [h3 row (by omega)];simp
  | false=>rw [h4 row (by omega)];simp [ZeS]
 ·rintro x l i ⟨row,done⟩ hI
  simp only [List.length_cons] at hI
  left
  cases done with
  | true=>exact ⟨_,h1 i x row (by omega),by simp;omega,by simp⟩
  | false=>
   rw [h2 i x row (by omega)]
   by_cases hs:sLt v x.var=true
   ·rw [if_neg (by rw [Zok];simpa using hs)]
    exact ⟨_,rfl,by simp;omega,by simp [ZeS,hs]⟩
   ·rw [if_pos (Zok.2 hs)]
    exact ⟨_,rfl,by simp;omega,by simp [ZeS,hs]⟩
def Zjo:Option (List Zl)→List Zl × Bool
 | some b=>(b,true)
 | none=>([],false)
theorem Zgj {b:List Zl} {v w:ByteArray} (h:¬(Z0 b=true∧Yt v=true∧ZO w=true)):Zjo (Zf0 b v w)=([],false):=by
 unfold Zf0
 rw [if_neg h]
 rfl
theorem Zh0 {b:List Zl} {v w:ByteArray} (h1:Z0 b=true) (h2:Yt v=true) (h3:ZO w=true):Zf0 b v w=match Qx b v with | some old=>if old=w then some b else none | none=>if b.length=6 then none else some (ZeS b v w):=by
 unfold Zf0
 exact if_pos ⟨h1,h2,h3⟩
theorem QN {b:List Zl} (h:Z0 b=true):b.length≤6:=by
 unfold Z0 at h
 rw [Bool.and_eq_true,decide_eq_true_iff] at h
 exact h.1
theorem Zoe (b:List Zl) (v w:ByteArray):ZfW b v w=some (Zjo (Zf0 b v w)):=by
 unfold ZfW
 rw [QH,Option.bind_some]
 by_cases h1:Z0 b=true
 ·rw [if_pos h1,Zc0,Option.bind_some]
  by_cases h2:Yt v=true
  ·rw [if_pos h2,Qe,Option.bind_some]
   by_cases h3:ZO w=true
   ·have h6:=QN h1
    rw [if_pos h3,Zcs,Option.bind_some,ZbP,Zhi h2]
    cases hg:Qx b v with
    | some old=>
     have hx:Zf0 b v w=if old=w then some b else none:=by rw [Zh0 h1 h2 h3,hg]
     rw [hx]
     show (if true=true then (if sEq old w=true then _ else _) else _)=_
     rw [if_pos rfl]
     by_cases he:old=w
     ·rw [if_pos (ZT.2 he),if_pos he]
      unfold ZaB
      rw [Zj _ (by omega)]
      rfl
     ·rw [if_neg (by rw [ZT];exact he),if_neg he]
      rfl
    | none=>
     have hx:Zf0 b v w=if b.length=6 then none else some (ZeS b v w):=by rw [Zh0 h1 h2 h3,hg]
     rw [hx]
     show (if false=true then _ else _)=_
     rw [if_neg (by simp)]
     by_cases hl:b.length=6
     ·rw [if_pos (by simp;omega),if_pos hl]
      rfl
     ·rw [if_neg (by simp;omega),if_neg hl]
      refine Zom (K:=fun r=>some (r,true)) (fun i x row hr=>?_) (fun i x row hr=>?_) (fun row hr=>?_) (fun row hr=>?_) b (by omega)
      ·show (if true=true then _ else _)=_
       rw [if_pos rfl,Zj _ (by omega)]
      ·show (if false=true then _ else _)=_
       rw [if_neg (by simp)]
       split
       ·rw [Zj _ (by omega)]
       ·rw [Zj _ (by omega),Zj _ (by omega)]
      ·show (if true=true then _ else _)=_
       rw [if_pos rfl]
      ·show (if false=true then _ else _)=_
       rw [if_neg (by simp),Zj _ (by omega)]
   ·rw [if_neg h3,Zgj (fun h=>h3 h.2.2)]
  ·rw [if_neg h2,Zgj (fun h=>h2 h.2.1)]
 ·rw [if_neg h1,Zgj (fun h=>h1 h.1)]
theorem ZpJ (b:List Zl) (v w:ByteArray) (hb:b.length≤100):ZhY b v w=some (ZeS b v w):=by
 unfold ZhY
 refine Zom (K:=fun r=>some r) (fun i x row hr=>?_) (fun i x row hr=>?_) (fun row hr=>?_) (fun row hr=>?_) b hb
 ·show (if true=true then _ else _)=_
  rw [if_pos rfl,Zj _ (by omega)]
 ·show (if false=true then _ else _)=_
  rw [if_neg (by simp)]
  split
  ·rw [Zj _ (by omega)]
  ·rw [Zj _ (by omega),Zj _ (by omega)]
 ·show (if true=true then _ else _)=_
  rw [if_pos rfl]
 ·show (if false=true then _ else _)=_
  rw [if_neg (by simp),Zj _ (by omega)]
theorem Zn1 (b:List Zl) (v w:ByteArray) (hb:b.length≤1048576):Zfx b v w=some (Zjo (Zf0 b v w)):=by
 unfold Zfx
 rw [QG b hb,Option.bind_some]
 by_cases h1:Z0 b=true
 ·rw [if_pos h1,QC,Option.bind_some]
  by_cases h2:Yt v=true
  ·rw [if_pos h2,Qd,Option.bind_some]
   by_cases h3:ZO w=true
   ·have h6:=QN h1
    rw [if_pos h3,Zcr,Option.bind_some,ZbP,Zhi h2]
    cases hg:Qx b v with
    | some old=>
     have hx:Zf0 b v w=if old=w then some b else none:=by rw [Zh0 h1 h2 h3,hg]
     rw [hx]
     show (if true=true then (if sEq old w=true then _ else _) else _)=_
     rw [if_pos rfl]
     by_cases he:old=w
     ·rw [if_pos (ZT.2 he),if_pos he]
      unfold ZbX
      rw [Zj _ (by omega)]
      rfl
     ·rw [if_neg (by rw [ZT];exact he),if_neg he]
      rfl
    | none=>
     have hx:Zf0 b v w=if b.length=6 then none else some (ZeS b v w):=by rw [Zh0 h1 h2 h3,hg]
     rw [hx]
     show (if false=true then _ else _)=_
     rw [if_neg (by simp)]
     by_cases hl:b.length=6
     ·rw [if_pos (by simp;omega),if_pos hl]
      rfl
     ·rw [if_neg (by simp;omega),if_neg hl,ZpJ _ _ _ (by omega)]
      rfl
   ·rw [if_neg h3,Zgj (fun h=>h3 h.2.2)]
  ·rw [if_neg h2,Zgj (fun h=>h2 h.2.1)]
 ·rw [if_neg h1,Zgj (fun h=>h1 h.1)]
theorem ZeI {fa:List ByteArray} {body:Nat→ByteArray→List Zl→Option (List Zl ⊕ (List Zl × Bool))}
  (hb:∀i a w row,fa[i]?=some w→Z0 row=true→body i a row=if ZO a=true then (if a=w then some (.inl row) else some (.inr ([],false))) else (match Zf0 row a w with | some r=>some (.inl r) | none=>some (.inr ([],false)))):
  ∀(l:List ByteArray) (i:Nat) (row:List Zl),i+l.length=fa.length→Z0 row=true→Zp body (fun row=>some (row,true)) l i row=some (Zjo (ZdS l (fa.drop i) row))
 | [],i,row,_,_=>by simp [Zp,ZdS,Zjo]
 | a::l,i,row,h,hr=>by
  simp only [List.length_cons] at h
  have hi:i<fa.length:=by omega
  have hw:fa[i]?=some fa[i]:=List.getElem?_eq_getElem hi
  rw [List.drop_eq_getElem_cons hi]
  simp only [ZdS]
  have e:=hb i a _ row hw hr
  by_cases ha:ZO a=true
  ·rw [if_pos ha] at e ⊢
   by_cases hq:a=fa[i]
   ·rw [if_pos hq] at e ⊢
    rw [Ye e]
    exact ZeI hb l (i+1) row (by omega) hr
   ·rw [if_neg hq] at e ⊢
    rw [Yy e]
    rfl
  ·rw [if_neg ha] at e ⊢
   cases hx:Zf0 row a fa[i] with
   | none=>
    rw [hx] at e
    rw [Yy e]
    rfl
   | some r=>
    rw [hx] at e
    rw [Ye e,Option.bind_some]
    exact ZeI hb l (i+1) r (by omega) (Zqy hx).1
theorem Zfw (p:Zv) (f:Zc) (b:List Zl):ZaD p f b=some (Zjo (Za5 p f b)):=by
 unfold ZaD Za5 ZhZ
 rw [ZaY,Option.bind_some]
 cases h1:Z1 p with
 | false=>rfl
 | true=>
  rw [if_pos rfl,Zi8,Option.bind_some]
  cases h2:YV f with
  | false=>rfl
  | true=>
   rw [if_pos rfl,QH,Option.bind_some]
   cases h3:Z0 b with
   | false=>rfl
   | true=>
    rw [if_pos rfl]
    by_cases h4:p.rel=f.rel
    ·rw [if_pos (ZT.2 h4),decide_eq_true h4]
     by_cases h5:p.args.length=f.args.length
     ·have h6:=QN h3
      rw [if_neg (by simp;omega),decide_eq_true h5]
      unfold ZaB
      rw [Zj _ (by omega),Option.bind_some]
      rw [ZeI (fa:=f.args) (fun i a w row hw hr=>?_) p.args 0 b (by omega) h3]
      ·rfl
      ·rw [Qe,Option.bind_some,Zcm,hw,Option.bind_some,Option.bind_some]
       split
       ·by_cases hq:a=w
        ·rw [if_pos (ZT.2 hq),if_pos hq]
        ·rw [if_neg (by rw [ZT];exact hq),if_neg hq]
       ·rw [Zoe,Option.bind_some]
        cases Zf0 row a w<;>rfl
     ·rw [if_pos (by simp;omega),decide_eq_false h5]
      rfl
    ·rw [if_neg (by rw [ZT];exact h4),decide_eq_false h4]
     rfl
theorem ZfT (p:Zv) (f:Zc) (b:List Zl) (hb:b.length≤1048576):ZaO p f b=some (Zjo (Za5 p f b)):=by
 unfold ZaO Za5 ZhZ
 rw [Za6,Option.bind_some]
 cases h1:Z1 p with
 | false=>rfl
 | true=>
  rw [if_pos rfl,ZiZ,Option.bind_some]
  cases h2:YV f with
  | false=>rfl
  | true=>
   rw [if_pos rfl,QG b hb,Option.bind_some]
   cases h3:Z0 b with
   | false=>rfl
   | true=>
    rw [if_pos rfl]
    by_cases h4:p.rel=f.rel
    ·rw [if_pos (ZT.2 h4),decide_eq_true h4]
     by_cases h5:p.args.length=f.args.length
     ·have h6:=QN h3
      rw [if_neg (by simp;omega),decide_eq_true h5]
      unfold ZbX
      rw [Zj _ (by omega),Option.bind_some]
      rw [ZeI (fa:=f.args) (fun i a w row hw hr=>?_) p.args 0 b (by omega) h3]
      ·rfl
      ·have hr6:=QN hr
       rw [Qd,Option.bind_some,Zcm,hw,Option.bind_some,Option.bind_some]
       split
       ·by_cases hq:a=w
        ·rw [if_pos (ZT.2 hq),if_pos hq]
        ·rw [if_neg (by rw [ZT];exact hq),if_neg hq]
       ·rw [Zn1 _ _ _ (by omega),Option.bind_some]
        cases Zf0 row a w<;>rfl
     ·rw [if_pos (by simp;omega),decide_eq_false h5]
      rfl
    ·rw [if_neg (by rw [ZT];exact h4),decide_eq_false h4]
     rfl
def Ze4:Option Zc→Zc × Bool
 | some f=>(f,true)
 | none=>({ rel:=⟨#[]⟩,args:=[] },false)
theorem Zmi {b:List Zl} {rel:ByteArray} {body:Nat→ByteArray→List ByteArray→Option (List ByteArray ⊕ (Zc × Bool))} (hb:∀i a row,row.length≤1048576→body i a row=match XN b a with | some v=>some (.inl (row++[v])) | none=>some (.inr ({ rel:=⟨#[]⟩,args:=[] },false))) (l:List ByteArray) (hl:l.length≤1000000):
  Zp body (fun row=>some ({ rel:=rel,args:=row },true)) l 0 []=some (Ze4 ((Zd9 l b).map fun l=>{ rel:=rel,args:=l })):=by
 rw [Zad (fun l _ row=>some (Ze4 ((Zd9 l b).map fun l=>{ rel:=rel,args:=row++l }))) (fun l _ row=>row.length+l.length≤1048576) ?_ ?_ l 0 [] (by simp;omega)]
 ·simp
 ·intro i row _
  simp [Zd9,Ze4]
 ·intro a l i row hI
  simp only [List.length_cons] at hI
  have e:=hb i a row (by omega)
  cases hv:XN b a with
  | none=>
   rw [hv] at e
   exact .inr ⟨_,e,by simp [Zd9,hv,Ze4]⟩
  | some v=>
   rw [hv] at e
   refine .inl ⟨_,e,by simp;omega,?_⟩
   simp only [Zd9,hv,Option.bind_some,Option.map_map]
   cases Zd9 l b<;>simp
theorem Zd5 (p:Zv) (b:List Zl):Ql p b=some (Ze4 (Ze8 p b)):=by
 unfold Ql Ze8
 rw [ZaY,Option.bind_some]
 cases h1:Z1 p with
 | false=>rfl
 | true=>
  rw [if_pos rfl,QH,Option.bind_some]
  cases h3:Z0 b with
  | false=>rfl
  | true=>
   have hl:p.args.length≤3:=by unfold Z1 at h1;simp at h1;exact h1.1.2
   rw [if_pos rfl,if_pos ⟨rfl,rfl⟩,Zmi (b:=b) (fun i a row hr=>?_) p.args (by omega)]
   rw [Zcs,Option.bind_some,ZbP]
   cases XN b a with
   | none=>rfl
   | some v=>
    show (if true=true then _ else _)=_
    rw [if_pos rfl,Zj _ (by omega)]
    rfl
theorem Zg0 (p:Zv) (b:List Zl) (hb:b.length≤1048576):Xi p b=some (Ze4 (Ze8 p b)):=by
 unfold Xi Ze8
 rw [Za6,Option.bind_some]
 cases h1:Z1 p with
 | false=>rfl
 | true=>
  rw [if_pos rfl,QG b hb,Option.bind_some]
  cases h3:Z0 b with
  | false=>rfl
  | true=>
   have hl:p.args.length≤3:=by unfold Z1 at h1;simp at h1;exact h1.1.2
   rw [if_pos rfl,if_pos ⟨rfl,rfl⟩,Zmi (b:=b) (fun i a row hr=>?_) p.args (by omega)]
   rw [Zcr,Option.bind_some,ZbP]
   cases XN b a with
   | none=>rfl
   | some v=>
    show (if true=true then _ else _)=_
    rw [if_pos rfl,Zj _ (by omega)]
    rfl
theorem ZeO (o:Option (List Zl)):(Zjo o).2=o.isSome:=by cases o<;>rfl
theorem Zdl (p:Zv) (b:List Zl) (F:List Zc) (hF:F.length≤1048576) (ha:∀f∈F,f.args.length≤1048576):Xy p b F=some (Zcu p b F):=by
 unfold Xy Zcu
 rw [ZdE (p:=fun f=>(Za5 p f b).isSome)]
 ·simp
 ·intro j f s mf hs
  rw [Zfw,Option.bind_some,ZeO]
  split
  ·rw [Xd f (ha f mf),Option.bind_some,Zj _ (by simp at hs;omega)]
  ·rfl
theorem ZcF (p:Zv) (b:List Zl) (F:List Zc) (hb:b.length≤1048576) (hF:F.length≤1048576) (ha:∀f∈F,f.args.length≤1048576):Xv p b F=some (Zcu p b F):=by
 unfold Xv Zcu
 rw [ZdE (p:=fun f=>(Za5 p f b).isSome)]
 ·simp
 ·intro j f s mf hs
  rw [ZfT _ _ _ hb,Option.bind_some,ZeO]
  split
  ·rw [XE f (ha f mf),Option.bind_some,Zj _ (by simp at hs;omega)]
  ·rfl
theorem Zla (x:Zm) (b:List Zl):Zb7 x b=some (ZkD x b):=by
 unfold Zb7 ZkD Zh1
 rw [ZfG,Option.bind_some]
 cases h1:YT x with
 | false=>rfl
 | true=>
  rw [if_pos rfl,Option.bind_some]
  by_cases h2:3≤x.kind
  ·rw [if_pos (by simpa using h2),QH,Option.bind_some]
   cases h3:Z0 b with
   | false=>simp
   | true=>
    rw [if_pos rfl,if_pos ⟨rfl,h2,rfl⟩,Zcs,Option.bind_some,Zcs,Option.bind_some,ZbP,ZbP]
    cases XN b x.left with
    | none=>rfl
    | some l=>
     cases XN b x.right with
     | none=>rfl
     | some r=>
      show (if true=true then (if true=true then (if (x.kind==3)=true then some (sEq l r) else _) else _) else _)=some (Zoi x.kind l r)
      rw [if_pos rfl,if_pos rfl]
      unfold Zoi
      by_cases k3:x.kind=3
      ·rw [if_pos (by simpa using k3),if_pos k3];rfl
      ·rw [if_neg (by simpa using k3),if_neg k3]
       by_cases k4:x.kind=4
       ·rw [if_pos (by simpa using k4),if_pos k4];rfl
       ·rw [if_neg (by simpa using k4),if_neg k4,ZbQ,Option.bind_some,ZbQ,Option.bind_some]
        show (if (Zds l).2=true then (if (Zds r).2=true then some (decide ((Zds l).1<(Zds r).1)) else some false) else some false)=_
        unfold Zds ZsZ
        cases Qy l<;>cases Qy r<;>simp
  ·rw [if_neg (by simpa using h2),if_neg (fun h=>h2 h.2.1)]
theorem ZkK (x:Zm) (b:List Zl) (hb:b.length≤1048576):ZbV x b=some (ZkD x b):=by
 unfold ZbV ZkD Za9
 rw [ZdL,Option.bind_some]
 cases h1:YT x with
 | false=>rfl
 | true=>
  rw [if_pos rfl,Option.bind_some]
  by_cases h2:3≤x.kind
  ·rw [if_pos (by simpa using h2),QG b hb,Option.bind_some]
   cases h3:Z0 b with
   | false=>simp
   | true=>
    rw [if_pos rfl,if_pos ⟨rfl,h2,rfl⟩,Zcr,Option.bind_some,Zcr,Option.bind_some,ZbP,ZbP]
    cases XN b x.left with
    | none=>rfl
    | some l=>
     cases XN b x.right with
     | none=>rfl
     | some r=>
      show (if true=true then (if true=true then (if (x.kind==3)=true then some (sEq l r) else _) else _) else _)=some (Zoi x.kind l r)
      rw [if_pos rfl,if_pos rfl]
      unfold Zoi
      by_cases k3:x.kind=3
      ·rw [if_pos (by simpa using k3),if_pos k3];rfl
      ·rw [if_neg (by simpa using k3),if_neg k3]
       by_cases k4:x.kind=4
       ·rw [if_pos (by simpa using k4),if_pos k4];rfl
       ·rw [if_neg (by simpa using k4),if_neg k4]
        unfold ZcD
        rw [ZbG,Option.bind_some,Option.bind_some]
        show (if (Zds l).2=true then ((QS r).bind fun v1=>some v1.2).bind (fun v6=>if v6=true then (Xo l r).bind fun v7=>some (decide (v7<0)) else some false) else some false)=_
        unfold ZsZ
        cases hl:Qy l with
        | none=>simp [Zds,hl]
        | some m=>
         rw [if_pos (by simp [Zds,hl]),ZbG,Option.bind_some,Option.bind_some]
         cases hr:Qy r with
         | none=>simp [Zds,hr]
         | some n=>
          have hd:decide (Zfd l r<0)=decide (m<n):=by
           have hc:Zfd l r=Zjv m n:=by unfold Zfd;rw [hl,hr]
           rw [hc,Bool.eq_iff_iff,decide_eq_true_iff,decide_eq_true_iff]
           unfold Zjv
           split
           ·omega
           ·split<;>omega
          rw [if_pos (by simp [Zds,hr]),ZdO,Option.bind_some,hd]
  ·rw [if_neg (by simpa using h2),if_neg (fun h=>h2 h.2.1)]
theorem Zj4 (x:Zm) (b:List Zl) (F:List Zc) (hF:F.length≤1048576) (ha:∀f∈F,f.args.length≤1048576):ZbZ x b F=some (ZfD x b F):=by
 unfold ZbZ ZfD
 rw [ZfG,Option.bind_some]
 cases h1:YT x with
 | false=>rfl
 | true=>
  rw [if_pos rfl,QH,Option.bind_some]
  cases h3:Z0 b with
  | false=>rfl
  | true=>
   rw [if_pos rfl,if_pos (show true=true∧true=true from ⟨rfl,rfl⟩)]
   by_cases k1:x.kind=1
   ·rw [if_pos (by simpa using k1),if_pos k1,Zdl _ _ _ hF ha,Option.bind_some]
    congr 1
    rw [Bool.eq_iff_iff];simp
   ·rw [if_neg (by simpa using k1),if_neg k1]
    by_cases k2:x.kind=2
    ·rw [if_pos (by simpa using k2),if_pos k2,Zdl _ _ _ hF ha,Option.bind_some,ZrL]
    ·rw [if_neg (by simpa using k2),if_neg k2,Zla]
     rfl
theorem ZkA (x:Zm) (b:List Zl) (F:List Zc) (hb:b.length≤1048576) (hF:F.length≤1048576) (ha:∀f∈F,f.args.length≤1048576):Zb4 x b F=some (ZfD x b F):=by
 unfold Zb4 ZfD
 rw [ZdL,Option.bind_some]
 cases h1:YT x with
 | false=>rfl
 | true=>
  rw [if_pos rfl,QG b hb,Option.bind_some]
  cases h3:Z0 b with
  | false=>rfl
  | true=>
   rw [if_pos rfl,if_pos (show true=true∧true=true from ⟨rfl,rfl⟩)]
   by_cases k1:x.kind=1
   ·rw [if_pos (by simpa using k1),if_pos k1,ZcF _ _ _ hb hF ha,Option.bind_some]
    congr 1
    rw [Bool.eq_iff_iff];simp
   ·rw [if_neg (by simpa using k1),if_neg k1]
    by_cases k2:x.kind=2
    ·rw [if_pos (by simpa using k2),if_pos k2,ZcF _ _ _ hb hF ha,Option.bind_some,ZrL]
    ·rw [if_neg (by simpa using k2),if_neg k2,ZkK _ _ hb]
     rfl
end Go.Proofs.YtojnhepgnbhaaaaGreatDoor
namespace Go.Proofs.YtojnhepgnbhaaaaGreatDoor
theorem ZbU {r:Zf} (h:Qj r=true):r.cond.length≤4∧r.thn.length≤2:=by
 simp only [Qj,Bool.and_eq_true,decide_eq_true_eq] at h
 omega
def Zog (r:Zf):Bool:=r.thn.all fun a=>decide (a.kind=1)
def Zg4 (r:Zf) (i:Nat) (x:Zm):Bool:=!decide (x.kind=2)||(YN x).all (YE (YJ r i))
def Z2 (r:Zf):Bool:=Qj r&&Zbr (Zg4 r) r.cond 0&&Zog r
theorem Zl2 (a b:List ByteArray):Zc8 a b=some (a.all (YE b)):=by
 unfold Zc8
 rw [Yf (p:=YE b) (r:=false)]
 ·cases a.all (YE b)<;>rfl
 ·intro i x _
  rw [YW,Option.bind_some]
  cases YE b x<;>simp
theorem Zmq {fin:Unit→Option Bool} {l:List Zr}:Zp (σ:=Unit) (fun (_:Nat) (x:Zr) _=>if (x.kind != 1)=true then some (.inr false) else some (.inl ())) fin l 0 ()=if (l.all fun a=>decide (a.kind=1))=true then fin () else some false:=by
 refine Yf fun i x _=>?_
 by_cases h:x.kind=1
 ·simp [h]
 ·have:(x.kind != 1)=true:=by simpa using h
  simp [this,h]
theorem ZlV (r:Zf):Zdh r=some (Zog r):=by
 unfold Zdh Zog
 rw [Zmq]
 cases r.thn.all fun a=>decide (a.kind=1)<;>rfl
theorem Zky (r:Zf) (h:Zbf r):Zb6 r=some (Z2 r):=by
 unfold Zb6 Z2
 rw [Zji r h,Option.bind_some]
 cases hr:Qj r with
 | false=>simp
 | true=>
  have h4:=(ZbU hr).1
  simp only [if_true,Bool.true_and]
  rw [X7 (p:=Zg4 r) (r:=false),Zmq]
  ·unfold Zog
   cases Zbr (Zg4 r) r.cond 0<;>cases r.thn.all fun a=>decide (a.kind=1)<;>simp
  ·intro j x hj
   rw [Nat.zero_add,ZbF x (by have:=h.ca x (List.mem_of_getElem? hj);omega),ZcN r _ h h4,Int.toNat_natCast]
   simp only [Option.bind_some,Zl2,Zg4]
   by_cases hk:x.kind=2
   ·simp only [hk,beq_self_eq_true,if_true,decide_true,Bool.not_true,Bool.false_or]
    cases (YN x).all (YE (YJ r j))<;>simp
   ·simp [hk]
theorem Zlt (r:Zf) (h:Zbf r):ZbY r=some (Z2 r):=by
 unfold ZbY Z2
 rw [ZiV r h,Option.bind_some,ZlV]
 cases hr:Qj r with
 | false=>simp
 | true=>
  have h4:=(ZbU hr).1
  simp only [if_true,Bool.true_and,Option.bind_some]
  rw [X7 (p:=Zg4 r) (r:=false)]
  ·cases Zbr (Zg4 r) r.cond 0<;>cases Zog r<;>simp
  ·intro j x hj
   rw [Nat.zero_add,ZbL x (by have:=h.ca x (List.mem_of_getElem? hj);omega),ZcK r _ h h4,Int.toNat_natCast]
   simp only [Option.bind_some,Zg4]
   by_cases hk:x.kind=2
   ·simp only [hk,bne_self_eq_false,Bool.false_eq_true,if_false,decide_true,Bool.not_true,Bool.false_or]
    rw [Yf (p:=YE (YJ r j)) (r:=.inr false)]
    ·cases (YN x).all (YE (YJ r j))<;>simp
    ·intro k v _
     rw [QY,Option.bind_some]
     cases YE (YJ r j) v<;>simp
   ·have:(x.kind != 2)=true:=by simpa using hk
    simp [hk,this]
theorem ZtH {l:List Nat} {x:Nat} (h:x∈l):x≤l.sum:=by
 induction l with
 | nil=>simp at h
 | cons a r ih=>
  rcases List.mem_cons.1 h with h | h
  ·subst h;simp
  ·have:=ih h;simp;omega
theorem Zlw {α:Type} {f:α→Nat} {l:List α} {n:Nat} (h:l.length+(l.map f).sum≤n) {x:α} (hx:x∈l):f x≤n:=by
 have:=ZtH (List.mem_map_of_mem (f:=f) hx)
 omega
theorem Zpk {l:List Zm} (h:YA l≤1048576):l.length≤1048576∧∀x∈l,x.pattern.args.length≤1048576:=by
 unfold YA at h
 refine ⟨by omega,fun x mx=>?_⟩
 have:=Zlw (f:=YO) h mx
 simp only [YO,Z5,Xm] at this
 omega
theorem Zqe {r:Zf} (h:Yq r≤1048576):Zbf r:=by
 simp only [Yq] at h
 have h1:YA r.cond≤1048576:=by omega
 have h2:Yg r.thn≤1048576:=by omega
 obtain ⟨a,b⟩:=Zpk h1
 refine ⟨a,?_,b,fun x mx=>?_⟩
 ·unfold Yg at h2;omega
 ·unfold Yg at h2
  have:=Zlw (f:=Yl) h2 mx
  simp only [Yl,Z5,Xm] at this
  omega
end Go.Proofs.YtojnhepgnbhaaaaGreatDoor
namespace Go.Proofs.YtojnhepgnbhaaaaGreatDoor
section
variable {α σ ρ:Type} {body:Nat→α→σ→Option (σ ⊕ ρ)}
theorem Zmg (I:List α→σ→Prop) (Q:ρ→Prop):∀(l pre:List α) (s:σ),I pre s→(∀p x s,x∈l→p.length<pre.length+l.length→I p s→(∃s',body p.length x s=some (.inl s')∧I (p++[x]) s')∨∃r,body p.length x s=some (.inr r)∧Q r)→
  (∃s',(∀fin:σ→Option ρ,Zp body fin l pre.length s=fin s')∧I (pre++l) s')∨∃r,(∀fin:σ→Option ρ,Zp body fin l pre.length s=some r)∧Q r
 | [],pre,s,h,_=>.inl ⟨s,fun _=>rfl,by simpa using h⟩
 | x::l,pre,s,h,hs=>by
  rcases hs pre x s (by simp) (by simp) h with ⟨s',e,h'⟩ | ⟨r,e,h'⟩
  ·rcases Zmg I Q l (pre++[x]) s' h' fun p y s m hp hI=>hs p y s (by simp [m]) (by simp at hp ⊢;omega) hI with ⟨s2,e2,h2⟩ | ⟨r,e2,h2⟩
   ·refine .inl ⟨s2,fun fin=>?_,by simpa using h2⟩
    rw [Ye e]
    simpa using e2 fin
   ·refine .inr ⟨r,fun fin=>?_,h2⟩
    rw [Ye e]
    simpa using e2 fin
  ·exact .inr ⟨r,fun fin=>Yy e,h'⟩
theorem Zbo (I:List α→σ→Prop) (Q:ρ→Prop) (l:List α) (s:σ) (h:I [] s) (hs:∀p x s,x∈l→p.length<l.length→I p s→(∃s',body p.length x s=some (.inl s')∧I (p++[x]) s')∨∃r,body p.length x s=some (.inr r)∧Q r):
  (∃s',(∀fin:σ→Option ρ,Zp body fin l 0 s=fin s')∧I l s')∨∃r,(∀fin:σ→Option ρ,Zp body fin l 0 s=some r)∧Q r:=by
 have:=Zmg I Q l [] s h fun p x s m hp hI=>hs p x s m (by simpa using hp) hI
 simpa using this
theorem Zez (I:List α→σ→Prop) (l:List α) (s:σ) (h:I [] s) (hs:∀p x s,x∈l→p.length<l.length→I p s→∃s',body p.length x s=some (.inl s')∧I (p++[x]) s'):∃s',(∀fin:σ→Option ρ,Zp body fin l 0 s=fin s')∧I l s':=by
 rcases Zbo I (fun _=>False) l s h fun p x s m hp hI=>.inl (hs p x s m hp hI) with h | ⟨_,_,h⟩
 ·exact h
 ·exact h.elim
end
def XM (r:Zf):List ByteArray:=r.thn.filterMap fun x=>if x.kind=1∨x.kind=2 then some x.pattern.rel else none
def Yr (r:Zf):List ByteArray:=r.cond.filterMap fun x=>if x.kind=1∨x.kind=2 then some x.pattern.rel else none
theorem ZoM (r:Zf):(XM r).length≤r.thn.length:=List.length_filterMap_le _ _
theorem Zlh (r:Zf):(Yr r).length≤r.cond.length:=List.length_filterMap_le _ _
theorem ZgI (r:Zf) (h:r.thn.length≤1048576):Qm r=some (ZR (XM r)):=by
 unfold Qm
 rw [YY (g:=fun x:Zr=>if x.kind=1∨x.kind=2 then some x.pattern.rel else none)]
 ·have:=ZoM r
  simp only [List.nil_append]
  show (Yp (XM r)).bind _=_
  rw [X9 _ (by omega)]
  rfl
 ·intro j x s _ hs
  simp at hs
  by_cases h1:x.kind=1
  ·simp only [h1,beq_self_eq_true,if_true];rw [Zj _ (by omega)];rfl
  ·by_cases h2:x.kind=2
   ·have:((2:Int)==1)=false:=by decide
    simp only [h2,this,Bool.false_eq_true,if_false,beq_self_eq_true,if_true];rw [Zj _ (by omega)];rfl
   ·simp [h1,h2]
theorem Znt (r:Zf) (h:r.cond.length≤1048576):ZbA r=some (ZR (Yr r)):=by
 unfold ZbA
 rw [YY (g:=fun x:Zm=>if x.kind=1∨x.kind=2 then some x.pattern.rel else none)]
 ·have:=Zlh r
  simp only [List.nil_append]
  show (Yp (Yr r)).bind _=_
  rw [X9 _ (by omega)]
  rfl
 ·intro j x s _ hs
  simp at hs
  by_cases h1:x.kind=1
  ·simp only [h1,beq_self_eq_true,if_true];rw [Zj _ (by omega)];rfl
  ·by_cases h2:x.kind=2
   ·have:((2:Int)==1)=false:=by decide
    simp only [h2,this,Bool.false_eq_true,if_false,beq_self_eq_true,if_true];rw [Zj _ (by omega)];rfl
   ·simp [h1,h2]
theorem Ziy {α:Type} (kd:α→Int) (f:α→ByteArray):∀(l:List α) (acc:List ByteArray),l.foldl (fun s x=>if kd x=1∨kd x=2 then Qk s (f x) else s) acc=(l.filterMap fun x=>if kd x=1∨kd x=2 then some (f x) else none).foldl Qk acc
 | [],_=>rfl
 | x::l,acc=>by
  rw [List.foldl_cons,Ziy kd f l]
  by_cases h:kd x=1∨kd x=2<;>simp [h]
theorem ZgO (r:Zf) (h:r.thn.length≤1048576):QW r=some (ZR (XM r)):=by
 unfold QW
 rw [ZaR (f:=fun s (x:Zr)=>if x.kind=1∨x.kind=2 then Qk s x.pattern.rel else s) (fun j s=>s.length≤j) (by simp)]
 ·congr 1
  exact Ziy (fun x:Zr=>x.kind) (fun x=>x.pattern.rel) r.thn []
 ·intro j x s _ _ hl hI
  have:=ZcC x.pattern.rel s
  by_cases h1:x.kind=1
  ·simp only [h1,beq_self_eq_true,if_true,true_or];rw [Qh _ _ (by omega)];exact ⟨rfl,by omega⟩
  ·by_cases h2:x.kind=2
   ·have:((2:Int)==1)=false:=by decide
    simp only [h2,this,Bool.false_eq_true,if_false,beq_self_eq_true,if_true,or_true];rw [Qh _ _ (by omega)];exact ⟨rfl,by omega⟩
   ·simp [h1,h2];omega
theorem ZnC (r:Zf) (h:r.cond.length≤1048576):Zbx r=some (ZR (Yr r)):=by
 unfold Zbx
 rw [ZaR (f:=fun s (x:Zm)=>if x.kind=1∨x.kind=2 then Qk s x.pattern.rel else s) (fun j s=>s.length≤j) (by simp)]
 ·congr 1
  exact Ziy (fun x:Zm=>x.kind) (fun x=>x.pattern.rel) r.cond []
 ·intro j x s _ _ hl hI
  have:=ZcC x.pattern.rel s
  by_cases h1:x.kind=1
  ·simp only [h1,beq_self_eq_true,if_true,true_or];rw [Qh _ _ (by omega)];exact ⟨rfl,by omega⟩
  ·by_cases h2:x.kind=2
   ·have:((2:Int)==1)=false:=by decide
    simp only [h2,this,Bool.false_eq_true,if_false,beq_self_eq_true,if_true,or_true];rw [Qh _ _ (by omega)];exact ⟨rfl,by omega⟩
   ·simp [h1,h2];omega
def Zhy (R:List Zf) (x y:ByteArray):Prop:=∃r∈R,x∈XM r∧y∈Yr r
inductive XC (R:List Zf) (a:ByteArray):ByteArray→Prop
 | one {y:ByteArray}:Zhy R a y→XC R a y
 | next {x y:ByteArray}:XC R a x→Zhy R x y→XC R a y
theorem XC.step {R:List Zf} {a x y:ByteArray} (hx:x=a∨XC R a x) (h:Zhy R x y):XC R a y:=by
 rcases hx with rfl | hx
 ·exact .one h
 ·exact .next hx h
structure ZbJ (R:List Zf):Prop where
 s:∀r∈R,Zbf r
 n:(R.flatMap Yr).length≤1048576
theorem ZfE {m:List (ByteArray × Bool)} {k y:ByteArray}:Q6 (Ze1 m k true) y false=if y=k then true else Q6 m y false:=by
 unfold Q6
 induction m with
 | nil=>
  by_cases h:y=k<;>simp [Ze1,Zfc,h]
 | cons p r ih=>
  simp only [Ze1]
  by_cases h:k=p.1
  ·subst h
   rw [if_pos rfl]
   by_cases h2:y=p.1
   ·simp [Zfc,h2]
   ·simp [Zfc,h2]
  ·rw [if_neg h]
   by_cases h2:y=p.1
   ·subst h2
    have:¬p.1=k:=fun e=>h e.symm
    simp [Zfc,this]
   ·simp only [Zfc,if_neg h2];exact ih
def Zb3 (m:List (ByteArray × Bool)) (y:ByteArray):Prop:=Q6 m y false=true
def Zft (U:List ByteArray) (m:List (ByteArray × Bool)):Nat:=U.countP fun y=>!Q6 m y false
theorem ZiC {α:Type} {p q:α→Bool}:∀{l:List α},(∀x∈l,p x=true→q x=true)→∀y∈l,p y=false→q y=true→l.countP p+1≤l.countP q
 | x::l,h,y,hy,h1,h2=>by
  rw [List.countP_cons,List.countP_cons]
  have hle:l.countP p≤l.countP q:=List.countP_mono_left fun z mz=>h z (by simp [mz])
  have hx:=h x (by simp)
  rcases List.mem_cons.1 hy with rfl | hy
  ·simp [h1,h2];omega
  ·have ih:=ZiC (p:=p) (q:=q) (l:=l) (fun z mz=>h z (by simp [mz])) y hy h1 h2
   cases hp:p x with
   | true=>simp [hx hp];omega
   | false=>cases q x<;>simp<;>omega
structure Zo7 (U:List ByteArray) (P:ByteArray→Prop) (s0 s:List (ByteArray × Bool) × List ByteArray):Prop where
 mono:∀y,Zb3 s0.1 y→Zb3 s.1 y
 fresh:∀y,Zb3 s.1 y→Zb3 s0.1 y∨(P y∧y∈s.2)
 sub:∀y∈s0.2,y∈s.2
 row:∀y∈s.2,y∈s0.2∨Zb3 s.1 y
 cnt:Zft U s.1+s.2.length≤Zft U s0.1+s0.2.length
theorem Zo7.refl (U:List ByteArray) (P:ByteArray→Prop) (s:List (ByteArray × Bool) × List ByteArray):Zo7 U P s s:=⟨fun _ h=>h,fun _ h=>.inl h,fun _ h=>h,fun _ h=>.inl h,Nat.le_refl _⟩
theorem Zo7.push {U:List ByteArray} {P:ByteArray→Prop} {s0:List (ByteArray × Bool) × List ByteArray} {m:List (ByteArray × Bool)} {row:List ByteArray} (h:Zo7 U P s0 (m,row)) {y:ByteArray} (hy:Q6 m y false=false) (hU:y∈U) (hP:P y):Zo7 U P s0 (Ze1 m y true,row++[y]):=by
 have hS:∀z,Zb3 (Ze1 m y true) z↔z=y∨Zb3 m z:=fun z=>by
  unfold Zb3
  rw [ZfE]
  by_cases e:z=y<;>simp [e]
 refine ⟨fun z hz=>(hS z).2 (.inr (h.mono z hz)),fun z hz=>?_,fun z hz=>List.mem_append.2 (.inl (h.sub z hz)),fun z hz=>?_,?_⟩
 ·rcases (hS z).1 hz with rfl | hz
  ·exact .inr ⟨hP,by simp⟩
  ·exact (h.fresh z hz).imp id fun ⟨a,b⟩=>⟨a,List.mem_append.2 (.inl b)⟩
 ·rcases List.mem_append.1 hz with hz | hz
  ·exact (h.row z hz).imp id fun hh=>(hS z).2 (.inr hh)
  ·exact .inr ((hS z).2 (.inl (by simpa using hz)))
 ·have h1:=h.cnt
  have h2:Zft U (Ze1 m y true)+1≤Zft U m:=ZiC (fun z _ hz=>by
   rw [ZfE] at hz
   by_cases e:z=y
   ·simp [e] at hz
   ·simpa [e] using hz) y hU (by rw [ZfE];simp) (by simp [hy])
  show _+(row++[y]).length≤_
  rw [List.length_append]
  simp only at h1 ⊢
  simp
  omega
theorem ZiQ {σ ρ:Type} {body:σ→Option (σ ⊕ ρ)} {s s':σ} (h:body s=some (.inl s')):Zdu body s=Zdu body s':=by rw [Zic,h]
theorem Zef {σ ρ:Type} {body:σ→Option (σ ⊕ ρ)} {s:σ} {r:ρ} (h:body s=some (.inr r)):Zdu body s=some r:=by rw [Zic,h]
theorem ZlI {R:List Zf} (hR:ZbJ R) (a:ByteArray):∃m,ZcM R a=some m∧∀y,Zb3 m y↔XC R a y:=by
 have hU:∀r∈R,∀y∈Yr r,y∈R.flatMap Yr:=fun r mr y my=>List.mem_flatMap.2 ⟨r,mr,my⟩
 have key:∀(n:Nat) (m:List (ByteArray × Bool)) (row:List ByteArray),Zft (R.flatMap Yr) m+row.length≤n→n≤1048577→(∀y,Zb3 m y→XC R a y)→(∀y∈row,y=a∨Zb3 m y)→(∀z,(z=a∨Zb3 m z)→z∈row∨∀y,Zhy R z y→Zb3 m y)→
   ∃m',Zdu (σ:=(List (ByteArray × Bool)) × (List ByteArray)) (fun s=>
   match s with
   | (mp_42,row_43)=>
   if (decide (0<((row_43.length:Nat):Int)))=true then
    chk (0≤0∧0<((row_43.length:Nat):Int)) <|
    (row_43[(Int.toNat 0)]?).bind fun x44=>
    chk (0≤1∧1≤((row_43.length:Nat):Int)) <|
    Zp (σ:=(List (ByteArray × Bool)) × (List ByteArray))
     (fun (i72:Nat) (x73:Zf) s=>
      match s with
      | (mp_57,row_58)=>
      (Qm x73).bind fun v74=>
      (Xh v74 x44).bind fun v75=>
      if v75=true then
       (ZbA x73).bind fun v76=>
       Zp (σ:=(List (ByteArray × Bool)) × (List ByteArray))
        (fun (i83:Nat) (x84:ByteArray) s=>
         match s with
         | (mp_80,row_81)=>
         if (Q6 mp_80 x84 false)=true then
          some (.inl (mp_80,row_81))
         else
          chk (row_81.length+1≤1073741824) <|
          some (.inl ((Ze1 mp_80 x84 true),(row_81++[x84]))))
        (fun s=>
         match s with
         | (mp_80,row_81)=>
         some (.inl (mp_80,row_81)))
        v76 0 (mp_57,row_58)
      else
       some (.inl (mp_57,row_58)))
     (fun s=>
      match s with
      | (mp_57,row_58)=>
      some (.inl (mp_57,row_58)))
     R 0 (mp_42,(List.drop (Int.toNat 1) row_43))
   else
    some (.inr mp_42)) (m,row)=some m'∧∀y,Zb3 m' y↔XC R a y:=by
  intro n
  induction n with
  | zero=>
   intro m row hn _ h1 h2 h3
   have hr:row=[]:=List.eq_nil_of_length_eq_zero (by omega)
   subst hr
   refine ⟨m,by rw [Zic];rfl,fun y=>⟨h1 y,fun hy=>?_⟩⟩
   induction hy with
   | one h=>exact ((h3 _ (.inl rfl)).resolve_left (by simp)) _ h
   | next _ h ih=>exact ((h3 _ (.inr ih)).resolve_left (by simp)) _ h
  | succ n ih=>
   intro m row hn hN h1 h2 h3
   cases row with
   | nil=>
    refine ⟨m,by rw [Zic];rfl,fun y=>⟨h1 y,fun hy=>?_⟩⟩
    induction hy with
    | one h=>exact ((h3 _ (.inl rfl)).resolve_left (by simp)) _ h
    | next _ h ih=>exact ((h3 _ (.inr ih)).resolve_left (by simp)) _ h
   | cons x rest=>
    have hx:x=a∨XC R a x:=(h2 x (by simp)).imp id (h1 x)
    have hn':Zft (R.flatMap Yr) m+rest.length≤n:=by simp at hn;omega
    obtain ⟨s',e,hg,hd⟩:=Zez (ρ:=((List (ByteArray × Bool)) × (List ByteArray)) ⊕ (List (ByteArray × Bool))) (body:=fun (i72:Nat) (x73:Zf) (s:(List (ByteArray × Bool)) × (List ByteArray))=>
      match s with
      | (mp_57,row_58)=>
      (Qm x73).bind fun v74=>
      (Xh v74 x).bind fun v75=>
      if v75=true then
       (ZbA x73).bind fun v76=>
       Zp (σ:=(List (ByteArray × Bool)) × (List ByteArray))
        (fun (i83:Nat) (x84:ByteArray) s=>
         match s with
         | (mp_80,row_81)=>
         if (Q6 mp_80 x84 false)=true then
          some (.inl (mp_80,row_81))
         else
          chk (row_81.length+1≤1073741824) <|
          some (.inl ((Ze1 mp_80 x84 true),(row_81++[x84]))))
        (fun s=>
         match s with
         | (mp_80,row_81)=>
         some (.inl (mp_80,row_81)))
        v76 0 (mp_57,row_58)
      else
       some (.inl (mp_57,row_58))) (fun pre s=>Zo7 (R.flatMap Yr) (XC R a) (m,rest) s∧∀r∈pre,x∈XM r→∀y∈Yr r,Zb3 s.1 y) R (m,rest) ⟨Zo7.refl _ _ _,by simp⟩ fun p r s mr hp hI=>by
     obtain ⟨mp,rw_⟩:=s
     obtain ⟨hg,hd⟩:=hI
     have hsm:=hR.s r mr
     show ∃s',(Qm r).bind _=_∧_
     rw [ZgI r hsm.tl]
     simp only [Option.bind_some]
     rw [QY]
     simp only [Option.bind_some]
     by_cases hw:x∈XM r
     ·have hh:YE (ZR (XM r)) x=true:=by rw [X8,ZW];exact hw
      rw [if_pos hh,Znt r hsm.cl]
      simp only [Option.bind_some]
      obtain ⟨s2,e2,hg2,hd2⟩:=Zez (ρ:=((List (ByteArray × Bool)) × (List ByteArray)) ⊕ (((List (ByteArray × Bool)) × (List ByteArray)) ⊕ (List (ByteArray × Bool)))) (body:=fun (i83:Nat) (x84:ByteArray) (s:(List (ByteArray × Bool)) × (List ByteArray))=>
         match s with
         | (mp_80,row_81)=>
         if (Q6 mp_80 x84 false)=true then
          some (.inl (mp_80,row_81))
         else
          chk (row_81.length+1≤1073741824) <|
          some (.inl ((Ze1 mp_80 x84 true),(row_81++[x84])))) (fun pre s=>Zo7 (R.flatMap Yr) (XC R a) (m,rest) s∧(∀y,Zb3 mp y→Zb3 s.1 y)∧∀y∈pre,Zb3 s.1 y) (ZR (Yr r)) (mp,rw_) ⟨hg,fun _ h=>h,by simp⟩ fun p y s my hp hI=>by
       obtain ⟨m2,row2⟩:=s
       obtain ⟨g2,g3,g4⟩:=hI
       have hyr:y∈Yr r:=ZW.1 my
       by_cases hs:Q6 m2 y false=true
       ·refine ⟨(m2,row2),by simp only [hs,if_true],g2,g3,fun z mz=>?_⟩
        rcases List.mem_append.1 mz with mz | mz
        ·exact g4 z mz
        ·rw [List.mem_singleton.1 mz];exact hs
       ·have hf:Q6 m2 y false=false:=by simpa using hs
        have hc:=g2.cnt
        have hG:=g2.push hf (hU r mr y hyr) (XC.step hx ⟨r,mr,hw,hyr⟩)
        have hmono:∀z,Zb3 m2 z→Zb3 (Ze1 m2 y true) z:=fun z hz=>by
         unfold Zb3 at *;rw [ZfE];by_cases e:z=y<;>simp [e,hz]
        refine ⟨(Ze1 m2 y true,row2++[y]),?_,hG,fun z hz=>hmono z (g3 z hz),fun z mz=>?_⟩
        ·simp only [hf,Bool.false_eq_true,if_false]
         rw [Zj _ (by simp only at hc;omega)]
        ·rcases List.mem_append.1 mz with mz | mz
         ·exact hmono z (g4 z mz)
         ·rw [List.mem_singleton.1 mz];unfold Zb3;rw [ZfE];simp
      refine ⟨s2,by rw [e2],hg2,fun q mq hq y my=>?_⟩
      rcases List.mem_append.1 mq with mq | mq
      ·exact hd2.1 y (hd q mq hq y my)
      ·rw [List.mem_singleton.1 mq] at my
       exact hd2.2 y (ZW.2 my)
     ·have hh:YE (ZR (XM r)) x=false:=by
       cases hq:YE (ZR (XM r)) x with
       | false=>rfl
       | true=>rw [X8,ZW] at hq;exact absurd hq hw
      refine ⟨(mp,rw_),by rw [if_neg (by rw [hh];simp)],hg,fun q mq hq=>?_⟩
      rcases List.mem_append.1 mq with mq | mq
      ·exact hd q mq hq
      ·rw [List.mem_singleton.1 mq] at hq;exact absurd hq hw
    obtain ⟨m',row'⟩:=s'
    obtain ⟨m2,r1,r2⟩:=ih m' row' (by have:=hg.cnt;simp only at this;omega) (by omega)
     (fun y hy=>(hg.fresh y hy).elim (h1 y) fun h=>h.1)
     (fun y hy=>by
      rcases hg.row y hy with h | h
      ·exact (h2 y (by simp [show y∈rest from h])).imp id (hg.mono y)
      ·exact .inr h)
     (fun z hz=>by
      have old:(z=a∨Zb3 m z)→z∈row'∨∀y,Zhy R z y→Zb3 m' y:=fun hz=>by
       rcases h3 z hz with h | h
       ·rcases List.mem_cons.1 h with rfl | h
        ·exact .inr fun y ⟨r,mr,hw,hy⟩=>hd r mr hw y hy
        ·exact .inl (hg.sub z h)
       ·exact .inr fun y hy=>hg.mono y (h y hy)
      rcases hz with hz | hz
      ·exact old (.inl hz)
      ·rcases hg.fresh z hz with h | ⟨_,h⟩
       ·exact old (.inr h)
       ·exact .inl h)
    refine ⟨m2,(ZiQ ?_).trans r1,r2⟩
    show (if decide (0<(((x::rest).length:Nat):Int))=true then _ else _)=_
    rw [if_pos (decide_eq_true (by simp only [List.length_cons];omega)),Zj _ (by simp only [List.length_cons];omega)]
    show chk _ (Zp _ _ R 0 (m,rest))=_
    rw [Zj _ (by simp only [List.length_cons];omega)]
    exact e _
 unfold ZcM
 refine key (Zft (R.flatMap Yr) []+1) [] [a] (by simp) ?_ (fun y hy=>by simp [Zb3,Q6,Zfc] at hy) (fun y hy=>.inl (by simpa using hy)) (fun z hz=>.inl ?_)
 ·have:=hR.n
  have h2:Zft (R.flatMap Yr) []≤(R.flatMap Yr).length:=List.countP_le_length
  omega
 ·rcases hz with rfl | hz
  ·simp
  ·simp [Zb3,Q6,Zfc] at hz
def ZiH (U row:List ByteArray):Nat:=U.countP fun y=>!YE row y
theorem Zmf {row:List ByteArray} {y z:ByteArray}:YE (row++[y]) z=true↔YE row z=true∨z=y:=by
 rw [X8,X8,List.mem_append,List.mem_singleton]
theorem Zn3 {U row:List ByteArray} {y:ByteArray} (hU:y∈U) (hy:YE row y=false):ZiH U (row++[y])+1≤ZiH U row:=
 ZiC (fun z _ hz=>by
  cases h:YE row z with
  | false=>rfl
  | true=>have:=Zmf (y:=y).2 (.inl h);rw [this] at hz;simp at hz) y hU (by have:=Zmf (row:=row) (y:=y) (z:=y).2 (.inr rfl);rw [this];rfl) (by rw [hy];rfl)
open Classical
theorem Zjy {R:List Zf} (hR:ZbJ R) (a b:ByteArray):Za0 R a b=some (decide (XC R a b)):=by
 have hU:∀r∈R,∀y∈Yr r,y∈R.flatMap Yr:=fun r mr y my=>List.mem_flatMap.2 ⟨r,mr,my⟩
 unfold Za0
 have key:∀(n u:Nat) (row:List ByteArray),ZiH (R.flatMap Yr) row+row.length≤n+u→n+u≤1048577→u≤row.length→(∀y∈row,y=a∨XC R a y)→a∈row→(∀i x,i<u→row[i]?=some x→∀y,Zhy R x y→y∈row∧y≠b)→
   Zdu (σ:=(List ByteArray) × Int)
  (fun s=>
   match s with
   | (row_55,u_56)=>
   if (decide (u_56<((row_55.length:Nat):Int)))=true then
    Zp (σ:=(List ByteArray))
     (fun (i93:Nat) (x94:Zf) row_74=>
      (QW x94).bind fun v95=>
      chk (0≤u_56∧u_56<((row_74.length:Nat):Int)) <|
      (row_74[(Int.toNat u_56)]?).bind fun x96=>
      (ZS v95 x96).bind fun v97=>
      if v97=true then
       (Zbx x94).bind fun v98=>
       (ZS v98 b).bind fun v99=>
       if v99=true then
        some (.inr (.inr true))
       else
        Zp (σ:=(List ByteArray))
         (fun (i108:Nat) (x109:ByteArray) row_105=>
          (ZS row_105 x109).bind fun v110=>
          if v110=true then
           some (.inl row_105)
          else
           chk (row_105.length+1≤1073741824) <|
           some (.inl (row_105++[x109])))
         (fun row_105=>
          some (.inl row_105))
         v98 0 row_74
      else
       some (.inl row_74))
     (fun row_74=>
      some (.inl (row_74,(IntKind.i64.wrap (u_56+1)))))
     R 0 row_55
   else
    some (.inr false))
  (row,((u:Nat):Int))=some (decide (XC R a b)):=by
  intro n
  have fin:∀(u:Nat) (row:List ByteArray),u=row.length→a∈row→(∀i x,i<u→row[i]?=some x→∀y,Zhy R x y→y∈row∧y≠b)→¬XC R a b:=fun u row hu ha hc hb=>by
   have all:∀y,XC R a y→y∈row∧y≠b:=fun y hy=>by
    have one:∀x,x∈row→∀y,Zhy R x y→y∈row∧y≠b:=fun x mx y h=>by
     obtain ⟨i,hi⟩:=List.mem_iff_getElem?.1 mx
     exact hc i x (by rw [hu];exact (List.getElem?_eq_some_iff.1 hi).1) hi y h
    induction hy with
    | one h=>exact one a ha _ h
    | next _ h ih=>exact one _ ih.1 _ h
   exact (all b hb).2 rfl
  have stop:∀(u:Nat) (row:List ByteArray),u=row.length→a∈row→(∀i x,i<u→row[i]?=some x→∀y,Zhy R x y→y∈row∧y≠b)→decide (XC R a b)=false:=fun u row h1 h2 h3=>decide_eq_false (fin u row h1 h2 h3)
  induction n with
  | zero=>
   intro u row hn _ hu h1 ha hc
   have hu':u=row.length:=by omega
   rw [stop u row hu' ha hc]
   refine Zef ?_
   show (if decide (((u:Nat):Int)<((row.length:Nat):Int))=true then _ else _)=_
   rw [if_neg (by rw [decide_eq_true_iff];omega)]
  | succ n ih=>
   intro u row hn hN hu h1 ha hc
   by_cases hlt:u<row.length
   ·have hx:row[u]?=some row[u]:=List.getElem?_eq_getElem hlt
    generalize row[u]=x at hx
    have hxr:x=a∨XC R a x:=h1 x (List.mem_of_getElem? hx)
    rcases Zbo (ρ:=((List ByteArray) × Int) ⊕ Bool) (body:=fun (i93:Nat) (x94:Zf) (row_74:List ByteArray)=>
      (QW x94).bind fun v95=>
      chk (0≤((u:Nat):Int)∧((u:Nat):Int)<((row_74.length:Nat):Int)) <|
      (row_74[(Int.toNat ((u:Nat):Int))]?).bind fun x96=>
      (ZS v95 x96).bind fun v97=>
      if v97=true then
       (Zbx x94).bind fun v98=>
       (ZS v98 b).bind fun v99=>
       if v99=true then
        some (.inr (.inr true))
       else
        Zp (σ:=(List ByteArray))
         (fun (i108:Nat) (x109:ByteArray) row_105=>
          (ZS row_105 x109).bind fun v110=>
          if v110=true then
           some (.inl row_105)
          else
           chk (row_105.length+1≤1073741824) <|
           some (.inl (row_105++[x109])))
         (fun row_105=>
          some (.inl row_105))
         v98 0 row_74
      else
       some (.inl row_74)) (fun pre r2=>(∃q,r2=row++q)∧ZiH (R.flatMap Yr) r2+r2.length≤n+1+u∧(∀y∈r2,y=a∨XC R a y)∧∀r∈pre,x∈XM r→∀y∈Yr r,y∈r2∧y≠b) (fun z=>z=.inr true∧XC R a b) R row ⟨⟨[],by simp⟩,hn,h1,by simp⟩ fun p r r2 mr hp hI=>by
     obtain ⟨⟨q,rfl⟩,g1,g2,g3⟩:=hI
     have hsm:=hR.s r mr
     have hxq:(row++q)[u]?=some x:=by rw [List.getElem?_append_left hlt];exact hx
     rw [ZgO r hsm.tl,Option.bind_some,Zj _ (by simp;omega),Int.toNat_natCast,hxq,Option.bind_some,YW,Option.bind_some]
     by_cases hw:x∈XM r
     ·have hh:YE (ZR (XM r)) x=true:=by rw [X8,ZW];exact hw
      rw [if_pos hh,ZnC r hsm.cl,Option.bind_some,YW,Option.bind_some]
      by_cases hb:b∈Yr r
      ·have hh:YE (ZR (Yr r)) b=true:=by rw [X8,ZW];exact hb
       rw [if_pos hh]
       exact .inr ⟨_,rfl,rfl,XC.step hxr ⟨r,mr,hw,hb⟩⟩
      ·have hh:¬YE (ZR (Yr r)) b=true:=by rw [X8,ZW];exact hb
       rw [if_neg hh]
       obtain ⟨r3,e3,⟨q3,hq3⟩,k1,k2,k3⟩:=Zez (ρ:=(List ByteArray) ⊕ (((List ByteArray) × Int) ⊕ Bool)) (body:=fun (i108:Nat) (x109:ByteArray) (row_105:List ByteArray)=>
          (ZS row_105 x109).bind fun v110=>
          if v110=true then
           some (.inl row_105)
          else
           chk (row_105.length+1≤1073741824) <|
           some (.inl (row_105++[x109]))) (fun pre r3=>(∃q',r3=(row++q)++q')∧ZiH (R.flatMap Yr) r3+r3.length≤n+1+u∧(∀y∈r3,y=a∨XC R a y)∧∀y∈pre,y∈r3) (ZR (Yr r)) (row++q) ⟨⟨[],by simp⟩,g1,g2,by simp⟩ fun p y r3 my hp hI=>by
        obtain ⟨⟨q',rfl⟩,k1,k2,k3⟩:=hI
        have hyr:y∈Yr r:=ZW.1 my
        rw [YW,Option.bind_some]
        by_cases hh:YE (row++q++q') y=true
        ·rw [if_pos hh]
         refine ⟨_,rfl,⟨q',rfl⟩,k1,k2,fun z mz=>?_⟩
         rcases List.mem_append.1 mz with mz | mz
         ·exact k3 z mz
         ·rw [List.mem_singleton.1 mz];exact X8.1 hh
        ·have hf:YE (row++q++q') y=false:=by simpa using hh
         have hab:=Zn3 (hU r mr y hyr) hf
         rw [if_neg hh,Zj _ (by omega)]
         refine ⟨_,rfl,⟨q'++[y],by simp⟩,by rw [List.length_append];simp only [List.length_singleton];omega,fun z mz=>?_,fun z mz=>?_⟩
         ·rcases List.mem_append.1 mz with mz | mz
          ·exact k2 z mz
          ·rw [List.mem_singleton.1 mz];exact .inr (XC.step hxr ⟨r,mr,hw,hyr⟩)
         ·rcases List.mem_append.1 mz with mz | mz
          ·exact List.mem_append.2 (.inl (k3 z mz))
          ·exact List.mem_append.2 (.inr mz)
       refine .inl ⟨r3,e3 _,⟨q++q3,by rw [hq3];simp⟩,k1,k2,fun r' mr' hw' y my=>?_⟩
       rcases List.mem_append.1 mr' with mr' | mr'
       ·have:=g3 r' mr' hw' y my
        exact ⟨by rw [hq3];exact List.mem_append.2 (.inl this.1),this.2⟩
       ·rw [List.mem_singleton.1 mr'] at my
        exact ⟨k3 y (ZW.2 my),fun e=>hb (e ▸ my)⟩
     ·have hh:¬YE (ZR (XM r)) x=true:=by rw [X8,ZW];exact hw
      rw [if_neg hh]
      refine .inl ⟨_,rfl,⟨q,rfl⟩,g1,g2,fun r' mr' hw'=>?_⟩
      rcases List.mem_append.1 mr' with mr' | mr'
      ·exact g3 r' mr' hw'
      ·rw [List.mem_singleton.1 mr'] at hw';exact absurd hw' hw
    with ⟨r2,e,⟨q,rfl⟩,k1,k2,k3⟩ | ⟨z,e,rfl,hb⟩
    ·refine (ZiQ ?_).trans (ih (u+1) (row++q) (by omega) (by omega) (by rw [List.length_append];omega) k2 (List.mem_append.2 (.inl ha)) fun i y hi hy z hz=>?_)
     ·show (if decide (((u:Nat):Int)<((row.length:Nat):Int))=true then _ else _)=_
      rw [if_pos (decide_eq_true (by omega)),e,ZjU (by omega) (by omega)]
      rfl
     ·by_cases hiu:i<u
      ·rw [List.getElem?_append_left (by omega)] at hy
       have:=hc i y hiu hy z hz
       exact ⟨List.mem_append.2 (.inl this.1),this.2⟩
      ·have:i=u:=by omega
       subst this
       rw [List.getElem?_append_left hlt,hx] at hy
       obtain rfl:=Option.some.inj hy
       obtain ⟨r,mr,hw,hr⟩:=hz
       exact k3 r mr hw z hr
    ·rw [decide_eq_true hb]
     refine Zef ?_
     show (if decide (((u:Nat):Int)<((row.length:Nat):Int))=true then _ else _)=_
     rw [if_pos (decide_eq_true (by omega)),e]
   ·have hu':u=row.length:=by omega
    rw [stop u row hu' ha hc]
    refine Zef ?_
    show (if decide (((u:Nat):Int)<((row.length:Nat):Int))=true then _ else _)=_
    rw [if_neg (by rw [decide_eq_true_iff];omega)]
 refine key 1048577 0 [a] ?_ (by omega) (by simp) (fun y hy=>.inl (by simpa using hy)) (by simp) (fun i x hi=>by omega)
 have h1:=hR.n
 have h2:ZiH (R.flatMap Yr) [a]≤(R.flatMap Yr).length:=List.countP_le_length
 simp only [List.length_singleton]
 omega
theorem Zo5 {R:List Zf} (h:Yj R≤1048576):ZbJ R:=by
 unfold Yj at h
 refine ⟨fun r mr=>Zqe (Zlw h mr),?_⟩
 have key:∀l:List Zf,(l.flatMap Yr).length≤(l.map Yq).sum:=by
  intro l
  induction l with
  | nil=>simp
  | cons r l ih=>
   rw [List.flatMap_cons,List.length_append,List.map_cons,List.sum_cons]
   have h1:=Zlh r
   have h2:r.cond.length≤Yq r:=by simp only [Yq,YA];omega
   omega
 have:=key R
 omega
end Go.Proofs.YtojnhepgnbhaaaaGreatDoor
namespace Go.Proofs.YtojnhepgnbhaaaaGreatDoor
theorem Zrv (l:List Zf) (n:ByteArray):∃z,Zat l n=some z:=by
 unfold Zat
 rcases Zbo (ρ:=Int) (body:=fun (i4:Nat) (x5:Zf) (_:Unit)=>
   if (sEq x5.name n)=true then
    some (.inr ((i4:Nat):Int))
   else
    some (.inl ())) (fun _ _=>True) (fun _=>True) l () trivial (fun p x s mx hp _=>by
  cases h:sEq x.name n with
  | true=>exact .inr ⟨_,by rw [if_pos rfl],trivial⟩
  | false=>exact .inl ⟨(),by rw [if_neg (by simp)],trivial⟩) with ⟨s,e,_⟩ | ⟨z,e,_⟩
 ·exact ⟨-1,e _⟩
 ·exact ⟨z,e _⟩
noncomputable def ZiU (l:List Zf) (n:ByteArray):Int:=(Zat l n).getD 0
theorem ZgY (l:List Zf) (n:ByteArray):Zat l n=some (ZiU l n):=by
 obtain ⟨z,h⟩:=Zrv l n
 unfold ZiU
 rw [h];rfl
theorem ZlK (l:List Zf) (n:ByteArray):ZeG l n=some (ZiU l n):=ZgY l n
noncomputable def ZfH (R:List Zf) (j:Nat) (r:Zf):Bool:=Qj r&&(ZiU R r.name==((j:Nat):Int))
noncomputable def YI (R:List Zf):Bool:=decide (R.length≤6)&&Zbr (ZfH R) R 0
theorem ZlX {R:List Zf} (h:∀r∈R,Zbf r):ZcX R=some (YI R):=by
 unfold ZcX YI
 by_cases h6:R.length≤6
 ·rw [if_neg (by simp;omega),decide_eq_true h6,Bool.true_and,X7 (p:=ZfH R) (r:=false)]
  ·cases Zbr (ZfH R) R 0<;>rfl
  ·intro j r hj
   rw [ZiV r (h r (List.mem_of_getElem? hj)),Option.bind_some,ZgY]
   unfold ZfH
   simp only [Option.bind_some,Nat.zero_add]
   cases Qj r with
   | false=>rfl
   | true=>
    by_cases hf:ZiU R r.name=((j:Nat):Int)
    ·simp [hf]
    ·have e:(ZiU R r.name==((j:Nat):Int))=false:=by simpa using hf
     simp [e,hf]
 ·rw [if_pos (by simp;omega),decide_eq_false h6];rfl
theorem ZlA {R:List Zf} (h:∀r∈R,Zbf r):Zde R=some (YI R):=by
 unfold Zde YI
 rw [X7 (p:=ZfH R) (r:=false)]
 ·have:decide (((R.length:Nat):Int)≤6)=decide (R.length≤6):=by rw [Bool.eq_iff_iff];simp;omega
  rw [this]
  cases Zbr (ZfH R) R 0<;>simp
 ·intro j r hj
  rw [Zji r (h r (List.mem_of_getElem? hj)),Option.bind_some,ZlK]
  unfold ZfH
  simp only [Option.bind_some,Nat.zero_add]
  cases Qj r with
  | false=>rfl
  | true=>
   by_cases hf:ZiU R r.name=((j:Nat):Int)
   ·simp [hf]
   ·have e:(ZiU R r.name==((j:Nat):Int))=false:=by simpa using hf
    simp [e,hf]
open Classical
noncomputable def ZkX (R:List Zf) (rel w:ByteArray):Bool:=!sEq w rel&&!decide (XC R rel w)
noncomputable def Zg3 (R:List Zf) (r:Zf) (x:Zm):Bool:=!(x.kind==2)||(ZR (XM r)).all (ZkX R x.pattern.rel)
noncomputable def Xq (R:List Zf) (r:Zf):Bool:=Z2 r&&r.cond.all (Zg3 R r)
theorem Ze6 {R:List Zf} (hR:ZbJ R):Za7 R=some (YI R&&R.all (Xq R)):=by
 unfold Za7
 rw [ZlX hR.s,Option.bind_some]
 cases YI R with
 | false=>rfl
 | true=>
  rw [if_pos rfl,Yf (p:=Xq R) (r:=false)]
  ·cases R.all (Xq R)<;>rfl
  ·intro i r mr
   have hsm:=hR.s r mr
   rw [Zlt r hsm,Option.bind_some]
   unfold Xq
   cases Z2 r with
   | false=>rfl
   | true=>
    rw [if_pos rfl,Yf (p:=Zg3 R r) (r:=.inr false)]
    ·cases r.cond.all (Zg3 R r)<;>rfl
    ·intro i x mx
     unfold Zg3
     by_cases hk:x.kind=2
     ·obtain ⟨m,e,hm⟩:=ZlI hR x.pattern.rel
      rw [if_neg (by simp [hk]),e,Option.bind_some,ZgI r hsm.tl,Option.bind_some,Yf (p:=ZkX R x.pattern.rel) (r:=.inr (.inr false))]
      ·rw [show (!(x.kind==2))=false by simp [hk],Bool.false_or]
       cases (ZR (XM r)).all (ZkX R x.pattern.rel)<;>rfl
      ·intro i w mw
       unfold ZkX
       have:Q6 m w false=decide (XC R x.pattern.rel w):=by
        rw [Bool.eq_iff_iff,decide_eq_true_iff];exact hm w
       rw [this]
       cases sEq w x.pattern.rel<;>cases decide (XC R x.pattern.rel w)<;>rfl
     ·rw [if_pos (by simp [hk]),show (!(x.kind==2))=true by simp [hk]];rfl
theorem Zrx {α ρ:Type} {r:ρ}:∀(l:List α),Zp (σ:=Unit) (fun (_:Nat) (_:α) _=>some (.inr r)) (fun _=>some r) l 0 ()=some r
 | []=>rfl
 | _::_=>rfl
theorem ZsU (x y:ByteArray):sEq x y=sEq y x:=by
 rw [Bool.eq_iff_iff,ZT,ZT]
 exact eq_comm
theorem Ze9 {R:List Zf} (hR:ZbJ R):Zbg R=some (YI R&&R.all (Xq R)):=by
 unfold Zbg
 rw [Yf (p:=Xq R) (r:=false)]
 ·rw [ZlA hR.s,Option.bind_some]
  cases R.all (Xq R)<;>simp
 ·intro i r mr
  have hsm:=hR.s r mr
  rw [Zky r hsm,Option.bind_some]
  unfold Xq
  cases Z2 r with
  | false=>rfl
  | true=>
   rw [if_pos rfl,ZgO r hsm.tl,Option.bind_some,Yf (p:=Zg3 R r) (r:=.inr false)]
   ·cases r.cond.all (Zg3 R r)<;>rfl
   ·intro i x mx
    unfold Zg3
    by_cases hk:x.kind=2
    ·rw [Yf (p:=ZkX R x.pattern.rel) (r:=.inr (.inr false))]
     ·rw [show (!(x.kind==2))=false by simp [hk],Bool.false_or]
      cases (ZR (XM r)).all (ZkX R x.pattern.rel)<;>rfl
     ·intro i w mw
      rw [if_pos (by simp [hk]),Zjy hR,ZsU]
      unfold ZkX
      cases sEq w x.pattern.rel<;>cases decide (XC R x.pattern.rel w)<;>rfl
    ·have hf:(x.kind==2)=false:=by simp [hk]
     simp only [hf,Bool.false_eq_true,if_false]
     rw [Zrx]
     rfl
end Go.Proofs.YtojnhepgnbhaaaaGreatDoor
namespace Go.Proofs.YtojnhepgnbhaaaaGreatDoor
open Classical
theorem ZEd (a b:Zc):Zk4 a b=some (decide (a=b)):=ZbM a b
noncomputable def ZeF (F:List Zc) (i:Nat) (x:Zc):Bool:=YV x&&(if i=0 then true else match F[i - 1]? with | some y=>decide (Zdt y x<0) | none=>true)
noncomputable def YQ (F:List Zc):Bool:=decide (F.length≤24)&&Zbr (ZeF F) F 0
theorem ZkY {α:Type} {p:Nat→α→Bool} {q:α→Bool} (h:∀i x,p i x=true→q x=true):∀{l:List α} {i:Nat},Zbr p l i=true→∀x∈l,q x=true
 | [],_,_=>by simp
 | y::l,i,ha=>by
  simp only [Zbr,Bool.and_eq_true] at ha
  intro x mx
  rcases List.mem_cons.1 mx with rfl | mx
  ·exact h i _ ha.1
  ·exact ZkY h ha.2 x mx
theorem ZdP {F:List Zc} (h:YQ F=true):F.length≤24∧∀f∈F,YV f=true:=by
 unfold YQ at h
 rw [Bool.and_eq_true,decide_eq_true_iff] at h
 refine ⟨h.1,ZkY (fun i x hx=>?_) h.2⟩
 unfold ZeF at hx
 rw [Bool.and_eq_true] at hx
 exact hx.1
theorem X4 {f:Zc} (h:YV f=true):f.args.length≤3:=by
 unfold YV at h
 simp only [Bool.and_eq_true,decide_eq_true_iff] at h
 exact h.1.2
theorem Zmv {F:List Zc} (hl:F.length≤1048576) {i:Nat} {x:Zc} (hx:F[i]?=some x):
  (if YV x=true then (if (decide (0<((i:Nat):Int)))=true then (atI F (IntKind.i64.wrap (((i:Nat):Int) - 1))).bind fun x11=>(some (Zdt x11 x)).bind fun v12=>if (decide (0≤v12))=true then some (.inr false) else some (.inl ()) else some (.inl ())) else some (.inr false):Option (Unit ⊕ Bool))
   = some (bif ZeF F i x then .inl () else .inr false):=by
 have hi:=(List.getElem?_eq_some_iff.1 hx).1
 unfold ZeF
 cases YV x with
 | false=>rfl
 | true=>
  rw [if_pos rfl]
  by_cases h0:i=0
  ·subst h0
   rw [if_neg (by simp)]
   simp
  ·have hg:F[i - 1]?=some F[i - 1]:=List.getElem?_eq_getElem (by omega)
   rw [if_pos (by simp;omega),show ((i:Nat):Int) - 1=((i - 1:Nat):Int) by omega,ZdA (by omega) (by omega),Zcm,hg,Option.bind_some,Option.bind_some,if_neg h0]
   by_cases hc:Zdt F[i - 1] x<0
   ·rw [if_neg (by simpa using hc)]
    simp [hc]
   ·rw [if_pos (by simpa using hc)]
    simp [hc]
theorem Zgx (F:List Zc):ZcU F=some (YQ F):=by
 unfold ZcU YQ
 by_cases h:F.length≤24
 ·rw [if_neg (by simp;omega),decide_eq_true h,X7 (p:=ZeF F) (r:=false)]
  ·cases Zbr (ZeF F) F 0<;>rfl
  ·intro j x hx
   rw [Nat.zero_add,Zi8,Option.bind_some]
   simp only [Zdx]
   exact Zmv (by omega) hx
 ·rw [if_pos (by simp;omega),decide_eq_false h]
  rfl
theorem ZgZ (F:List Zc) (hl:F.length≤1048576):ZcW F=some (YQ F):=by
 unfold ZcW YQ
 rw [X7 (p:=ZeF F) (r:=false)]
 ·have:decide (((F.length:Nat):Int)≤24)=decide (F.length≤24):=by rw [Bool.eq_iff_iff];simp;omega
  rw [this]
  cases Zbr (ZeF F) F 0<;>simp
 ·intro j x hx
  rw [Nat.zero_add,ZiZ,Option.bind_some]
  simp only [ZdG]
  exact Zmv hl hx
theorem ZfX (l:List Zc) (hl:l.length≤1048576) (h:∀f∈l,f.args.length≤1048576):ZaF l=some l:=by
 unfold ZaF
 rw [Zov (g:=fun y=>y)]
 ·simp
 ·intro j y s my hs
  rw [Xd y (h y my),Option.bind_some,Zj _ (by simp at hs;omega)]
theorem ZdV (l:List Zc) (hl:l.length≤1048576) (h:∀f∈l,f.args.length≤1048576):Zax l=some l:=by
 unfold Zax
 rw [Zov (g:=fun y=>y)]
 ·simp
 ·intro j y s my hs
  rw [XE y (h y my),Option.bind_some,Zj _ (by simp at hs;omega)]
structure Zsr (F:List Zc) (t:Zt):Prop where
 bind:t.binding.length≤6
 len:t.facts.length≤4
 args:∀f∈t.facts,f.args.length≤3
theorem Zlu.s {p:List Zm} {F:List Zc} {t:Zt} (h:Zlu p F t) (hp:p.length≤4) (hF:∀f∈F,f.args.length≤3):Zsr F t:=
 ⟨QN h.bind,by have:=h.len;omega,fun f mf=>hF f (h.sub f mf)⟩
theorem ZmX {ρ:Type} {x:Zm} {F:List Zc} {body:Nat→Zt→List Zt→Option (List Zt ⊕ ρ)} {fin:List Zt→Option ρ} (hF:F.length≤24) (ts:List Zt) (hts:ts.length≤331776)
  (hb:∀i t row,t∈ts→row.length≤10000000→body i t row=some (.inl (row++Zil x F t))):Zp body fin ts 0 []=fin (Zfe x F ts):=by
 have hst:Zfe x F []=[]:=rfl
 rw [←hst,ZaP (fun p=>Zfe x F p) ts]
 intro p t q e
 have hl:=Zkj x F hF p
 have hp:p.length≤ts.length:=by rw [e];simp
 rw [hb _ _ _ (by rw [e];simp) (by omega)]
 unfold Zfe
 rw [List.flatMap_append]
 simp
theorem ZgK (l:List Zm) (F:List Zc) (hl:l.length≤4) (hF:F.length≤24) (hA:∀f∈F,f.args.length≤3):Zaw l F=some (ZQ l F):=by
 unfold Zaw
 have h0:ZQ [] F=[({ facts:=[],binding:=[] }:Zt)]:=rfl
 rw [←h0,ZaP (fun p=>ZQ p F) l]
 intro p x q e
 have hpl:p.length+(q.length+1)=l.length:=by rw [e,List.length_append,List.length_cons]
 rw [Zcj]
 refine ZmX (fin:=fun r=>(some (Sum.inl r):Option (List Zt ⊕ List Zt))) hF (ZQ p F) (ZeB F hF p (by omega)) (fun i t row mt hr=>?_)
 have ht:=(Zd8 F p t mt).s (by omega) hA
 unfold Zil
 by_cases hk:x.kind=1
 ·rw [if_neg (by simpa using hk),if_pos hk,YY (g:=fun f=>(Za5 x.pattern f t.binding).map fun b=>({ facts:=t.facts++[f],binding:=b }:Zt))]
  intro j f s mf hs
  rw [Zfw,Option.bind_some,ZeO]
  cases hm:Za5 x.pattern f t.binding with
  | none=>simp
  | some b=>
   simp only [Option.isSome_some,if_true]
   rw [ZfX _ (by have:=ht.len;omega) (fun g mg=>by have:=ht.args g mg;omega),Option.bind_some,Xd f (by have:=hA f mf;omega),Option.bind_some,Zj _ (by have:=ht.len;omega),Zj _ (by omega)]
   rfl
 ·rw [if_pos (by simpa using hk),if_neg hk,Zj4 _ _ _ (by omega) (fun f mf=>by have:=hA f mf;omega),Option.bind_some]
  split
  ·rw [Zj _ (by omega)]
  ·simp
theorem ZnT {F:List Zc} {t:Zt} (ht:Zsr F t):Zfp t=some t:=by
 unfold Zfp ZbX
 rw [ZdV _ (by have:=ht.len;omega) (fun g mg=>by have:=ht.args g mg;omega),Option.bind_some,Zj _ (by have:=ht.bind;omega)]
 rfl
theorem Zoz (ts:List Zt) (x:Zm) (F:List Zc) (hts:ts.length≤331776) (hF:F.length≤24) (hA:∀f∈F,f.args.length≤3) (ht:∀t∈ts,Zsr F t):Zf1 ts x F=some (Zfe x F ts):=by
 unfold Zf1
 refine ZmX (fin:=fun r=>some r) hF ts hts (fun i t row mt hr=>?_)
 have ht:=ht t mt
 have htb:=ht.bind
 unfold Zil
 by_cases hk:x.kind=1
 ·rw [if_neg (by simpa using hk),if_pos hk,YY (g:=fun f=>(Za5 x.pattern f t.binding).map fun b=>({ facts:=t.facts++[f],binding:=b }:Zt))]
  intro j f s mf hs
  rw [ZfT _ _ _ (by omega),Option.bind_some,ZeO]
  cases hm:Za5 x.pattern f t.binding with
  | none=>simp
  | some b=>
   simp only [Option.isSome_some,if_true]
   rw [ZdV _ (by have:=ht.len;omega) (fun g mg=>by have:=ht.args g mg;omega),Option.bind_some,XE f (by have:=hA f mf;omega),Option.bind_some,Zj _ (by have:=ht.len;omega),Zj _ (by omega)]
   rfl
 ·rw [if_pos (by simpa using hk),if_neg hk,ZkA _ _ _ (by omega) (by omega) (fun f mf=>by have:=hA f mf;omega),Option.bind_some]
  split
  ·rw [ZnT ht,Option.bind_some,Zj _ (by omega)]
  ·simp
theorem ZgQ (l:List Zm) (F:List Zc) (hl:l.length≤4) (hF:F.length≤24) (hA:∀f∈F,f.args.length≤3):Zay l F=some (ZQ l F):=by
 unfold Zay
 have h0:ZQ [] F=[({ facts:=[],binding:=[] }:Zt)]:=rfl
 rw [←h0,ZaP (fun p=>ZQ p F) l]
 intro p x q e
 have hpl:p.length+(q.length+1)=l.length:=by rw [e,List.length_append,List.length_cons]
 rw [Zcj,Zoz _ _ _ (ZeB F hF p (by omega)) hF hA (fun t mt=>(Zd8 F p t mt).s (by omega) hA)]
 rfl
theorem ZD1 (r:Zf) (F:List Zc) (hr:Zbf r) (hF:F.length≤1048576):ZDG r ((r.cond.length:Nat):Int) F=some (if (Qj r&&YQ F)=true then ZQ r.cond F else []):=by
 unfold ZDG
 rw [Zji r hr,Option.bind_some]
 cases h1:Qj r with
 | false=>rfl
 | true=>
  rw [if_pos rfl,ZgZ F hF,Option.bind_some]
  cases h2:YQ F with
  | false=>rfl
  | true=>
   obtain ⟨hF24,hFF⟩:=ZdP h2
   have hc:=(ZbU h1).1
   rw [if_pos rfl,Zta,Option.bind_some,if_pos (by simp),Zj _ (by omega),Int.toNat_natCast,List.take_length,List.drop_zero,ZgQ _ _ hc hF24 (fun f mf=>X4 (hFF f mf))]
   rfl
theorem ZhQ {R:List Zf} (h:YI R=true):R.length≤6∧∀r∈R,Qj r=true:=by
 unfold YI at h
 rw [Bool.and_eq_true,decide_eq_true_iff] at h
 refine ⟨h.1,ZkY (fun i x hx=>?_) h.2⟩
 unfold ZfH at hx
 rw [Bool.and_eq_true] at hx
 exact hx.1
theorem Zq9 {r:Zf} (h:Qj r=true):∀a∈r.thn,a.kind=1→Z1 a.pattern=true∧∀v∈a.pattern.args,Yt v=true→v∈YK r.cond:=by
 intro a ma hk
 unfold Qj at h
 simp only [Bool.and_eq_true] at h
 have ha:=List.all_eq_true.1 h.1.2 a ma
 rw [Bool.and_eq_true] at ha
 obtain ⟨h1,h2⟩:=ha
 unfold Xu at h1
 rw [if_pos (.inl hk)] at h1
 refine ⟨h1,fun v mv hv=>?_⟩
 have:=List.all_eq_true.1 h2 v (Zbq.2 ⟨mv,hv⟩)
 rw [X8] at this
 unfold YJ at this
 rw [ZW,List.take_length] at this
 exact this
end Go.Proofs.YtojnhepgnbhaaaaGreatDoor
namespace Go.Proofs.YtojnhepgnbhaaaaGreatDoor
open Classical
theorem Zgl {α:Type}:∀{l m:List α},l.Nodup→(∀x∈l,x∈m)→l.length≤m.length
 | [],_,_,_=>Nat.zero_le _
 | x::l,m,h,hs=>by
  rw [List.nodup_cons] at h
  have hx:x∈m:=hs x (by simp)
  have h2:=Zgl (m:=m.erase x) h.2 (fun y my=>(List.mem_erase_of_ne (fun e=>h.1 (by rw [←e];exact my))).2 (hs y (by simp [my])))
  rw [List.length_erase_of_mem hx] at h2
  have:=List.length_pos_of_mem hx
  simp only [List.length_cons]
  omega
theorem Zp2 {α:Type} {l m:List α} (hl:l.Nodup) (hs:∀x∈l,x∈m) (hm:m.length≤l.length):∀x∈m,x∈l:=fun x mx=>by
 refine Classical.byContradiction fun hn=>?_
 have:=Zgl (l:=x::l) (m:=m) (List.nodup_cons.2 ⟨hn,hl⟩) (fun y my=>by
  rcases List.mem_cons.1 my with rfl | my
  ·exact mx
  ·exact hs y my)
 simp only [List.length_cons] at this
 omega
theorem ZhF (x:Zc):¬Zdt x x<0:=by rw [(Zdy.eq x x).2 rfl];omega
theorem Zkl {l:List Zc} (h:Ziv l):l.Nodup:=List.Pairwise.imp (fun {a b} hab e=>by subst e;exact ZhF a hab) h
theorem ZkB:∀{a b:List Zc},Ziv a→Ziv b→(∀x,x∈a↔x∈b)→a=b
 | [],[],_,_,_=>rfl
 | [],y::b,_,_,h=>by have:=(h y).2 (by simp);simp at this
 | x::a,[],_,_,h=>by have:=(h x).1 (by simp);simp at this
 | x::a,y::b,ha,hb,h=>by
  unfold Ziv at ha hb
  rw [List.pairwise_cons] at ha hb
  have e:x=y:=by
   rcases List.mem_cons.1 ((h x).1 (by simp)) with e | h1
   ·exact e
   ·rcases List.mem_cons.1 ((h y).2 (by simp)) with e | h2
    ·exact e.symm
    ·exact absurd (Zdy.tr _ _ _ (ha.1 y h2) (hb.1 x h1)) (ZhF x)
  subst e
  rw [ZkB ha.2 hb.2 fun z=>?_]
  constructor
  ·intro hz
   rcases List.mem_cons.1 ((h z).1 (by simp [hz])) with e | hz2
   ·subst e;exact absurd (ha.1 z hz) (ZhF z)
   ·exact hz2
  ·intro hz
   rcases List.mem_cons.1 ((h z).2 (by simp [hz])) with e | hz2
   ·subst e;exact absurd (hb.1 z hz) (ZhF z)
   ·exact hz2
theorem Zih {f:Zc}:∀{l:List Zc},f∉l→(Zdq l f).length=l.length+1
 | [],_=>rfl
 | x::l,h=>by
  simp only [List.mem_cons,not_or] at h
  simp only [Zdq]
  split
  ·rw [List.length_cons,Zih h.2];rfl
  ·rw [if_neg (fun e=>h.1 ((Zdy.eq _ _).1 e).symm)]
   rfl
def Zav (r:Zf):List Zm:=r.cond.filter fun x=>x.kind != 2
theorem Zrn {r:Zf}:∀x∈Zav r,¬x.kind=2:=fun x mx=>by
 have:=(List.mem_filter.1 mx).2
 simpa using this
theorem Zc5 (r:Zf):(Zav r).length≤r.cond.length:=List.length_filter_le _ _
theorem Zpc (l:List Zm):YK (l.filter fun x=>x.kind != 2)=YK l:=by
 induction l with
 | nil=>rfl
 | cons x l ih=>
  by_cases hx:x.kind=2
  ·rw [List.filter_cons_of_neg (by simpa using hx),ih]
   simp [YK,hx]
  ·rw [List.filter_cons_of_pos (by simpa using hx)]
   unfold YK at ih ⊢
   rw [List.flatMap_cons,List.flatMap_cons,ih]
theorem Zbv (r:Zf) (h:r.cond.length≤1048576):YU r=some (Zav r):=by
 unfold YU Zav
 rw [ZdE (p:=fun x:Zm=>x.kind != 2)]
 ·simp
 ·intro j x s mx hs
  split
  ·rw [Zj _ (by simp at hs;omega)]
  ·rfl
theorem Zeu (r:Zf) (h:r.cond.length≤1048576):XQ r=some (Zav r):=Zbv r h
theorem ZoF {F G:List Zc} (h:∀f∈F,f∈G):∀{l:List Zm},(∀x∈l,¬x.kind=2)→∀t∈ZQ l F,t∈ZQ l G:=by
 have:∀n (l:List Zm),l.length=n→(∀x∈l,¬x.kind=2)→∀t∈ZQ l F,t∈ZQ l G:=by
  intro n
  induction n with
  | zero=>intro l hl _ t mt;rw [List.eq_nil_of_length_eq_zero hl] at mt ⊢;exact mt
  | succ n ih=>
   intro l hl hk
   obtain ⟨p,x,rfl⟩:∃p x,l=p++[x]:=⟨l.dropLast,l.getLast (by intro e;simp [e] at hl),(List.dropLast_concat_getLast _).symm⟩
   intro t mt
   rw [Zcj] at mt ⊢
   obtain ⟨s,ms,mt⟩:=List.mem_flatMap.1 mt
   refine List.mem_flatMap.2 ⟨s,ih p (by simpa using hl) (fun y my=>hk y (by simp [my])) s ms,?_⟩
   unfold Zil at mt ⊢
   by_cases h1:x.kind=1
   ·rw [if_pos h1] at mt ⊢
    obtain ⟨f,mf,e⟩:=List.mem_filterMap.1 mt
    exact List.mem_filterMap.2 ⟨f,h f mf,e⟩
   ·have h2:=hk x (by simp)
    have e:ZfD x s.binding G=ZfD x s.binding F:=by unfold ZfD;simp only [if_neg h1,if_neg h2]
    rw [if_neg h1] at mt ⊢
    rw [e]
    exact mt
 intro l hk
 exact this _ l rfl hk
theorem Zhs {F:List Zc} (h:YQ F=true):Ziv F:=by
 unfold YQ at h
 rw [Bool.and_eq_true] at h
 have hadj:∀i y x,F[i]?=some y→F[i+1]?=some x→Zdt y x<0:=fun i y x hy hx=>by
  have:=Zm3 h.2 (i+1) x hx
  unfold ZeF at this
  rw [Bool.and_eq_true,Nat.zero_add,if_neg (by omega),Nat.add_sub_cancel,hy] at this
  simpa using this.2
 have key:∀(l:List Zc),(∀i y x,l[i]?=some y→l[i+1]?=some x→Zdt y x<0)→Ziv l:=by
  intro l
  induction l with
  | nil=>intro _;exact List.Pairwise.nil
  | cons a l ih=>
   intro hl
   have hp:=ih (fun i y x hy hx=>hl (i+1) y x (by simpa using hy) (by simpa using hx))
   unfold Ziv at hp ⊢
   rw [List.pairwise_cons]
   refine ⟨fun x mx=>?_,hp⟩
   cases l with
   | nil=>simp at mx
   | cons b l=>
    have hab:=hl 0 a b rfl rfl
    rcases List.mem_cons.1 mx with rfl | mx
    ·exact hab
    ·rw [List.pairwise_cons] at hp
     exact Zdy.tr _ _ _ hab (hp.1 x mx)
 exact key F hadj
def Yx (a:Zr) (t:Zt):Zc:=(Ze4 (Ze8 a.pattern t.binding)).1
def ZhE (R:List Zf) (G:List Zc):Prop:=∀r∈R,∀t∈ZQ (Zav r) G,∀a∈r.thn,Yx a t∈G
structure Cl (R:List Zf) (base G:List Zc):Prop where
 asc:Ziv G
 base:∀f∈base,f∈G
 closed:ZhE R G
structure Zeq (R:List Zf) (base F:List Zc):Prop where
 asc:Ziv F
 ok:∀f∈F,YV f=true
 inc:∀f∈base,f∈F
 low:∀G,Cl R base G→∀f∈F,f∈G
def ZlQ (R:List Zf) (base:List Zc):Prop:=∀G,Cl R base G→25≤G.length
theorem Zeq.over {R:List Zf} {base F:List Zc} (h:Zeq R base F) (hl:25≤F.length):ZlQ R base:=fun G hG=>Nat.le_trans hl (Zgl (Zkl h.asc) (h.low G hG))
theorem Zeq.add {R:List Zf} {base F:List Zc} (h:Zeq R base F) {f:Zc} (hf:YV f=true) (hin:∀G,Cl R base G→f∈G):Zeq R base (Zdq F f) where
 asc:=Zoq h.asc
 ok:=fun g mg=>by
  rcases Zac.1 mg with rfl | mg
  ·exact hf
  ·exact h.ok g mg
 inc:=fun g mg=>Zac.2 (.inr (h.inc g mg))
 low:=fun G hG g mg=>by
  rcases Zac.1 mg with rfl | mg
  ·exact hin G hG
  ·exact h.low G hG g mg
theorem Zjh {b:List Zl} (hb:Z0 b=true):∀{p l:List ByteArray},Zd9 p b=some l→l.all ZO=true∧l.length=p.length
 | [],l,h=>by
  simp only [Zd9,Option.some.injEq] at h
  subst h
  simp
 | a::p,l,h=>by
  simp only [Zd9] at h
  obtain ⟨v,hv,h⟩:=Option.bind_eq_some_iff.1 h
  obtain ⟨l',hl',rfl⟩:=Option.map_eq_some_iff.1 h
  obtain ⟨h1,h2⟩:=Zjh hb hl'
  have ha:ZO v=true:=by
   unfold XN at hv
   split at hv
   ·rename_i ha
    obtain rfl:=Option.some.inj hv
    exact ha
   ·split at hv
    ·obtain ⟨x,mx,_,rfl⟩:=Zq5 hv
     unfold Z0 at hb
     rw [Bool.and_eq_true] at hb
     have:=(Zq1 hb.2 x mx).1
     unfold ZeH at this
     rw [Bool.and_eq_true] at this
     exact this.2
    ·simp at hv
  simp [ha,h1,h2]
theorem ZqT {r:Zf} {F:List Zc} {t:Zt} (hr:Z2 r=true) (ht:t∈ZQ (Zav r) F) {a:Zr} (ma:a∈r.thn):YV (Yx a t)=true:=by
 unfold Z2 at hr
 simp only [Bool.and_eq_true] at hr
 have hk:a.kind=1:=by
  have:=List.all_eq_true.1 hr.2 a ma
  simpa using this
 have htk:=Zd8 F _ t ht
 obtain ⟨h1,h2⟩:=Zq9 hr.1.1 a ma hk
 have hp:=h1
 unfold Z1 at hp
 simp only [Bool.and_eq_true,decide_eq_true_iff] at hp
 obtain ⟨l,e,_⟩:=Zj0 (b:=t.binding) hp.2 (fun v mv hv=>htk.vars v (by
  unfold Zav
  rw [Zpc]
  exact h2 v mv hv))
 obtain ⟨h3,h4⟩:=Zjh htk.bind e
 have:Ze8 a.pattern t.binding=some { rel:=a.pattern.rel,args:=l }:=by
  unfold Ze8
  rw [if_pos ⟨h1,htk.bind⟩,e]
  rfl
 unfold Yx
 rw [this]
 show YV { rel:=a.pattern.rel,args:=l }=true
 unfold YV
 simp only [Bool.and_eq_true,decide_eq_true_iff]
 exact ⟨⟨hp.1.1,by omega⟩,h3⟩
theorem Zeq.derived {R:List Zf} {base F:List Zc} (h:Zeq R base F) {r:Zf} (mr:r∈R) {t:Zt} (mt:t∈ZQ (Zav r) F) {a:Zr} (ma:a∈r.thn):∀G,Cl R base G→Yx a t∈G:=
 fun G hG=>hG.closed r mr t (ZoF (h.low G hG) Zrn t mt) a ma
def Res (R:List Zf) (base:List Zc) (x:List Zc × Bool):Prop:=
 (x.2=true∧Zeq R base x.1∧x.1.length≤24∧ZhE R x.1)∨(x.2=false∧x.1=[]∧ZlQ R base)
theorem Res.uniq {R:List Zf} {base:List Zc} {x y:List Zc × Bool} (hx:Res R base x) (hy:Res R base y):x=y:=by
 obtain ⟨F,b⟩:=x
 obtain ⟨G,c⟩:=y
 rcases hx with ⟨h1,h2,h3,h4⟩ | ⟨h1,h2,h3⟩<;>rcases hy with ⟨k1,k2,k3,k4⟩ | ⟨k1,k2,k3⟩<;>simp only at h1 h2 h3 k1 k2 k3<;>subst h1<;>subst k1
 ·have e:F=G:=ZkB h2.asc k2.asc fun f=>⟨fun hf=>h2.low G ⟨k2.asc,k2.inc,k4⟩ f hf,fun hf=>k2.low F ⟨h2.asc,h2.inc,h4⟩ f hf⟩
  rw [e]
 ·have:=k3 F ⟨h2.asc,h2.inc,h4⟩
  omega
 ·have:=h3 G ⟨k2.asc,k2.inc,k4⟩
  omega
 ·rw [h2,k2]
structure ZhI (R:List Zf) (base row0:List Zc) (s:List Zc × Bool):Prop where
 good:Zeq R base s.1
 len:s.1.length≤24
 sub:∀f∈row0,f∈s.1
 grow:s.2=true→row0.length<s.1.length
 same:s.2=false→s.1=row0
theorem ZrF {ρ:Type} {R:List Zf} {base row0:List Zc} {r:Zf} (mr:r∈R) (hr:Z2 r=true) {rowS:List Zc} (hS:Zeq R base rowS) {t:Zt} (mt:t∈ZQ (Zav r) rowS) {q:ρ}
  {body:Nat→Zr→(List Zc × Bool)→Option ((List Zc × Bool) ⊕ ρ)}
  (hb:∀i a s,body i a s=(Yh s.1 (Yx a t)).bind fun v836=>if (decide (0≤v836))=true then some (.inl s) else if (decide (24≤((s.1.length:Nat):Int)))=true then some (.inr q) else (X2 s.1 (Yx a t)).bind fun v837=>some (.inl (v837,true)))
  (s:List Zc × Bool) (h:ZhI R base row0 s):
  (∃s',(∀fin:(List Zc × Bool)→Option ρ,Zp body fin r.thn 0 s=fin s')∧ZhI R base row0 s'∧(s'.2=false→s.2=false∧∀a∈r.thn,Yx a t∈row0))∨((∀fin:(List Zc × Bool)→Option ρ,Zp body fin r.thn 0 s=some q)∧ZlQ R base):=by
 rcases Zbo (body:=body) (fun p s'=>ZhI R base row0 s'∧(s'.2=false→s.2=false∧∀a∈p,Yx a t∈row0)) (fun x=>x=q∧ZlQ R base) r.thn s ⟨h,fun hs=>⟨hs,by simp⟩⟩ (fun p a s' ma hp hI=>by
  obtain ⟨hP,hC⟩:=hI
  rw [hb]
  obtain ⟨z,hz,hz2⟩:=ZlU s'.1 (Yx a t)
  rw [hz,Option.bind_some]
  have hok:=ZqT hr mt ma
  have hin:=hS.derived mr mt ma
  by_cases hm:Yx a t∈s'.1
  ·left
   have hz3:¬z<0:=fun h=>hz2.1 h hm
   rw [if_pos (by simp;omega)]
   refine ⟨s',rfl,hP,fun hs=>⟨(hC hs).1,fun b mb=>?_⟩⟩
   rcases List.mem_append.1 mb with mb | mb
   ·exact (hC hs).2 b mb
   ·simp at mb
    subst mb
    rw [←hP.same hs]
    exact hm
  ·have hz3:=hz2.2 hm
   rw [if_neg (by simp;omega)]
   by_cases h24:24≤s'.1.length
   ·right
    rw [if_pos (by simp;omega)]
    refine ⟨q,rfl,rfl,(hP.good.add hok hin).over ?_⟩
    rw [Zih hm]
    omega
   ·left
    rw [if_neg (by simp;omega),Znm _ _ hm (by omega) (fun f mf=>by have:=X4 (hP.good.ok f mf);omega) (by have:=X4 hok;omega),Option.bind_some]
    refine ⟨_,rfl,⟨hP.good.add hok hin,by rw [Zih hm];omega,fun f mf=>Zac.2 (.inr (hP.sub f mf)),fun _=>?_,fun h=>by simp at h⟩,fun h=>by simp at h⟩
    rw [Zih hm]
    have:=Zgl (l:=row0) (m:=s'.1)
    cases hs:s'.2 with
    | true=>have:=hP.grow hs;omega
    | false=>rw [hP.same hs];omega) with ⟨s',e,h'⟩ | ⟨x,e,rfl,h'⟩
 ·exact .inl ⟨s',e,h'⟩
 ·exact .inr ⟨e,h'⟩
theorem ZrI {ρ:Type} {R:List Zf} {base row0:List Zc} {r:Zf} (mr:r∈R) (hr:Z2 r=true) {q:ρ}
  {ab:Zt→Nat→Zr→(List Zc × Bool)→Option ((List Zc × Bool) ⊕ ((List Zc × Bool) ⊕ ρ))} {body:Nat→Zt→(List Zc × Bool)→Option ((List Zc × Bool) ⊕ ρ)}
  (hab:∀t i a s,ab t i a s=(Yh s.1 (Yx a t)).bind fun v836=>if (decide (0≤v836))=true then some (.inl s) else if (decide (24≤((s.1.length:Nat):Int)))=true then some (.inr (.inr q)) else (X2 s.1 (Yx a t)).bind fun v837=>some (.inl (v837,true)))
  (hb:∀i t s,body i t s=Zp (ab t) (fun s=>some (.inl s)) r.thn 0 s)
  (s:List Zc × Bool) (h:ZhI R base row0 s):
  (∃s',(∀fin:(List Zc × Bool)→Option ρ,Zp body fin (ZQ (Zav r) s.1) 0 s=fin s')∧ZhI R base row0 s'∧(s'.2=false→s.2=false∧∀t∈ZQ (Zav r) row0,∀a∈r.thn,Yx a t∈row0))∨((∀fin:(List Zc × Bool)→Option ρ,Zp body fin (ZQ (Zav r) s.1) 0 s=some q)∧ZlQ R base):=by
 rcases Zbo (body:=body) (fun p s'=>ZhI R base row0 s'∧(s'.2=false→s.2=false∧∀t∈p,∀a∈r.thn,Yx a t∈row0)) (fun x=>x=q∧ZlQ R base) (ZQ (Zav r) s.1) s ⟨h,fun hs=>⟨hs,by simp⟩⟩ (fun p t s' mt hp hI=>by
  obtain ⟨hP,hC⟩:=hI
  rw [hb]
  rcases ZrF mr hr h.good mt (hab t) s' hP with ⟨s2,e2,hP2,hC2⟩ | ⟨e2,ho⟩
  ·left
   refine ⟨s2,e2 _,hP2,fun hs=>?_⟩
   obtain ⟨k1,k2⟩:=hC2 hs
   obtain ⟨k3,k4⟩:=hC k1
   refine ⟨k3,fun u mu=>?_⟩
   rcases List.mem_append.1 mu with mu | mu
   ·exact k4 u mu
   ·simp at mu
    subst mu
    exact k2
  ·exact .inr ⟨q,e2 _,rfl,ho⟩) with ⟨s',e,hP,hC⟩ | ⟨x,e,rfl,h'⟩
 ·refine .inl ⟨s',e,hP,fun hs=>?_⟩
  obtain ⟨k1,k2⟩:=hC hs
  exact ⟨k1,by rw [h.same k1] at k2;exact k2⟩
 ·exact .inr ⟨e,h'⟩
theorem Zw0 {ρ:Type} {R:List Zf} {base row0:List Zc} (hL:∀r∈R,Z2 r=true) (h0:Zeq R base row0) (hl0:row0.length≤24) {q:ρ}
  {ab:Zt→Nat→Zr→(List Zc × Bool)→Option ((List Zc × Bool) ⊕ ((List Zc × Bool) ⊕ ((List Zc × Bool) ⊕ ρ)))} {tb:Zf→Nat→Zt→(List Zc × Bool)→Option ((List Zc × Bool) ⊕ ((List Zc × Bool) ⊕ ρ))} {body:Nat→Zf→(List Zc × Bool)→Option ((List Zc × Bool) ⊕ ρ)}
  (hab:∀t i a s,ab t i a s=(Yh s.1 (Yx a t)).bind fun v836=>if (decide (0≤v836))=true then some (.inl s) else if (decide (24≤((s.1.length:Nat):Int)))=true then some (.inr (.inr (.inr q))) else (X2 s.1 (Yx a t)).bind fun v837=>some (.inl (v837,true)))
  (htb:∀r i t s,tb r i t s=Zp (ab t) (fun s=>some (.inl s)) r.thn 0 s)
  (hb:∀i r s,r∈R→s.1.length≤24→(∀f∈s.1,YV f=true)→body i r s=Zp (tb r) (fun s=>some (.inl s)) (ZQ (Zav r) s.1) 0 s):
  (∃s',(∀fin:(List Zc × Bool)→Option ρ,Zp body fin R 0 (row0,false)=fin s')∧ZhI R base row0 s'∧(s'.2=false→ZhE R row0))∨((∀fin:(List Zc × Bool)→Option ρ,Zp body fin R 0 (row0,false)=some q)∧ZlQ R base):=by
 rcases Zbo (body:=body) (fun p s'=>ZhI R base row0 s'∧(s'.2=false→∀r∈p,∀t∈ZQ (Zav r) row0,∀a∈r.thn,Yx a t∈row0)) (fun x=>x=q∧ZlQ R base) R (row0,false) ⟨⟨h0,hl0,fun f mf=>mf,fun h=>by simp at h,fun _=>rfl⟩,by simp⟩ (fun p r s' mr hp hI=>by
  obtain ⟨hP,hC⟩:=hI
  rw [hb _ _ _ mr hP.len hP.good.ok]
  rcases ZrI (q:=.inr q) mr (hL r mr) (hab) (htb r) s' hP with ⟨s2,e2,hP2,hC2⟩ | ⟨e2,ho⟩
  ·left
   refine ⟨s2,e2 _,hP2,fun hs=>?_⟩
   obtain ⟨k1,k2⟩:=hC2 hs
   intro u mu
   rcases List.mem_append.1 mu with mu | mu
   ·exact hC k1 u mu
   ·simp at mu
    subst mu
    exact k2
  ·exact .inr ⟨q,e2 _,rfl,ho⟩) with ⟨s',e,hP,hC⟩ | ⟨x,e,rfl,h'⟩
 ·exact .inl ⟨s',e,hP,hC⟩
 ·exact .inr ⟨e,h'⟩
theorem ZsW {R:List Zf} {base:List Zc} {body:(List Zc × Bool)→Option ((List Zc × Bool) ⊕ (List Zc × Bool))} (stop:∀row,body (row,false)=some (.inr (row,true)))
  (pass:∀row,Zeq R base row→row.length≤24→(∃s',body (row,true)=some (.inl s')∧ZhI R base row s'∧(s'.2=false→ZhE R row))∨(body (row,true)=some (.inr ([],false))∧ZlQ R base)) (hbase:Zeq R base base) (hF24:base.length≤24):∃x,Zdu body (base,true)=some x∧Res R base x:=by
 have key:∀n row,Zeq R base row→row.length≤24→25≤row.length+n→∃x,Zdu body (row,true)=some x∧Res R base x:=by
  intro n
  induction n with
  | zero=>intro row _ h3 h4;omega
  | succ n ih=>
   intro row hg hl hn
   rcases pass row hg hl with ⟨⟨row',u⟩,e,hP,hC⟩ | ⟨e,ho⟩
   ·rw [ZiQ e]
    cases u with
    | true=>
     have:=hP.grow rfl
     exact ih row' hP.good hP.len (by simp only at this;omega)
    | false=>
     have hs:=hP.same rfl
     simp only at hs
     subst hs
     exact ⟨_,Zef (stop _),.inl ⟨rfl,hP.good,hP.len,hC rfl⟩⟩
   ·exact ⟨_,Zef e,.inr ⟨rfl,rfl,ho⟩⟩
 exact key 25 base hbase hF24 (by omega)
theorem Zgm {R:List Zf} (hR:ZbJ R) (base:List Zc):(¬(YI R&&R.all (Xq R))=true∨¬YQ base=true→Yv R base=some ([],false))∧((YI R&&R.all (Xq R))=true→YQ base=true→∃x,Yv R base=some x∧Res R base x):=by
 constructor
 ·intro h
  unfold Yv
  rw [Ze6 hR,Option.bind_some]
  split
  ·rename_i h1
   rw [Zgx,Option.bind_some,if_neg (h.resolve_left (fun h=>h h1))]
  ·rfl
 ·intro h1 h2
  have hL:∀r∈R,Z2 r=true:=fun r mr=>by
   rw [Bool.and_eq_true] at h1
   have:=List.all_eq_true.1 h1.2 r mr
   unfold Xq at this
   rw [Bool.and_eq_true] at this
   exact this.1
  have hrl:∀r∈R,r.cond.length≤4:=fun r mr=>by
   have:=hL r mr
   unfold Z2 at this
   simp only [Bool.and_eq_true] at this
   exact (ZbU this.1.1).1
  obtain ⟨hF24,hFF⟩:=ZdP h2
  have hbase:Zeq R base base:=⟨Zhs h2,hFF,fun f mf=>mf,fun G hG f mf=>hG.base f mf⟩
  unfold Yv
  rw [Ze6 hR,Option.bind_some,if_pos h1,Zgx,Option.bind_some,if_pos h2,ZfX _ (by omega) (fun f mf=>by have:=X4 (hFF f mf);omega),Option.bind_some]
  refine ZsW (fun row=>rfl) (fun row hg hl=>?_) hbase hF24
  have hgen:=Zw0 (ρ:=(List Zc × Bool) ⊕ (List Zc × Bool)) (q:=.inr ([],false)) hL hg hl
   (ab:=fun t _ a s=>(Yh s.1 (Yx a t)).bind fun v836=>if (decide (0≤v836))=true then some (.inl s) else if (decide (24≤((s.1.length:Nat):Int)))=true then some (.inr (.inr (.inr (.inr ([],false))))) else (X2 s.1 (Yx a t)).bind fun v837=>some (.inl (v837,true)))
   (tb:=fun r _ t s=>Zp (fun _ a s=>(Yh s.1 (Yx a t)).bind fun v836=>if (decide (0≤v836))=true then some (.inl s) else if (decide (24≤((s.1.length:Nat):Int)))=true then some (.inr (.inr (.inr (.inr ([],false))))) else (X2 s.1 (Yx a t)).bind fun v837=>some (.inl (v837,true))) (fun s=>some (.inl s)) r.thn 0 s)
   (body:=fun _ r s=>(YU r).bind fun v757=>(Zaw v757 s.1).bind fun v758=>Zp (fun _ t s=>Zp (fun _ a s=>(Ql a.pattern t.binding).bind fun v835=>(Yh s.1 v835.1).bind fun v836=>if (decide (0≤v836))=true then some (.inl s) else if (decide (24≤((s.1.length:Nat):Int)))=true then some (.inr (.inr (.inr (.inr ([],false))))) else (X2 s.1 v835.1).bind fun v837=>some (.inl (v837,true))) (fun s=>some (.inl s)) r.thn 0 s) (fun s=>some (.inl s)) v758 0 s)
   (fun _ _ _ _=>rfl) (fun _ _ _ _=>rfl) (fun i r s mr hs hok=>by
    show (YU r).bind _=_
    rw [Zbv r (by have:=hrl r mr;omega),Option.bind_some,ZgK _ _ (by have:=Zc5 r;have:=hrl r mr;omega) hs (fun f mf=>X4 (hok f mf)),Option.bind_some]
    simp only [Zd5,Option.bind_some]
    rfl)
  rcases hgen with ⟨s',e,hP,hC⟩ | ⟨e,ho⟩
  ·exact .inl ⟨s',e (fun s=>some (.inl s)),hP,hC⟩
  ·exact .inr ⟨e (fun s=>some (.inl s)),ho⟩
structure ZkE (R:List Zf) (base l:List Zc) (row:List Zc):Prop where
 good:Zeq R base row
 sub:∀f∈l,f∈row
theorem Zxz {ρ:Type} {R:List Zf} {base l:List Zc} {r:Zf} (mr:r∈R) (hr:Z2 r=true) (hS:Zeq R base l) {t:Zt} (mt:t∈ZQ (Zav r) l) {N:Nat} (hN:N≤1000000) (ht2:r.thn.length≤2)
  {body:Nat→Zr→List Zc→Option (List Zc ⊕ ρ)} (hb:∀i a row,body i a row=(ZbK row (Yx a t)).bind fun v=>some (.inl v)) (row:List Zc) (h:ZkE R base l row) (hlen:row.length≤N):
  ∃row',(∀fin:List Zc→Option ρ,Zp body fin r.thn 0 row=fin row')∧ZkE R base l row'∧row'.length≤N+2∧(∀f∈row,f∈row')∧∀a∈r.thn,Yx a t∈row':=by
 obtain ⟨row',e,h1,h2,h3,h4⟩:=Zez (body:=body) (fun p row'=>ZkE R base l row'∧row'.length≤N+p.length∧(∀f∈row,f∈row')∧∀a∈p,Yx a t∈row') r.thn row ⟨h,by simpa using hlen,fun f mf=>mf,by simp⟩ (fun p a row' ma hp hI=>by
  obtain ⟨h1,h2,h3,h4⟩:=hI
  have hok:=ZqT hr mt ma
  rw [hb,Zp5 _ _ (by omega) (fun f mf=>by have:=X4 (h1.good.ok f mf);omega) (by have:=X4 hok;omega),Option.bind_some]
  refine ⟨_,rfl,⟨h1.good.add hok (hS.derived mr mt ma),fun f mf=>Zac.2 (.inr (h1.sub f mf))⟩,?_,fun f mf=>Zac.2 (.inr (h3 f mf)),fun b mb=>?_⟩
  ·have:=Zpn (Yx a t) row'
   simp only [List.length_append,List.length_singleton]
   omega
  ·rcases List.mem_append.1 mb with mb | mb
   ·exact Zac.2 (.inr (h4 b mb))
   ·simp at mb
    subst mb
    exact Zac.2 (.inl rfl))
 exact ⟨row',e,h1,by omega,h3,h4⟩
theorem Zu8 {ρ:Type} {R:List Zf} {base l:List Zc} {r:Zf} (mr:r∈R) (hr:Z2 r=true) (hS:Zeq R base l) (hl24:l.length≤24) (hc4:r.cond.length≤4) (ht2:r.thn.length≤2)
  {body:Nat→Zt→List Zc→Option (List Zc ⊕ ρ)} (hb:∀i t row,t∈ZQ (Zav r) l→body i t row=Zp (fun (_:Nat) (a:Zr) row=>(ZbK row (Yx a t)).bind fun v=>(some (.inl v):Option (List Zc ⊕ (List Zc ⊕ ρ)))) (fun row=>some (.inl row)) r.thn 0 row) (row:List Zc) (h:ZkE R base l row) (hlen:row.length≤24):
  ∃row',(∀fin:List Zc→Option ρ,Zp body fin (ZQ (Zav r) l) 0 row=fin row')∧ZkE R base l row'∧(∀f∈row,f∈row')∧∀t∈ZQ (Zav r) l,∀a∈r.thn,Yx a t∈row':=by
 have hn:=ZeB l hl24 (Zav r) (by have:=Zc5 r;omega)
 obtain ⟨row',e,h1,h2,h3,h4⟩:=Zez (body:=body) (fun p row'=>ZkE R base l row'∧row'.length≤24+2 * p.length∧(∀f∈row,f∈row')∧∀t∈p,∀a∈r.thn,Yx a t∈row') (ZQ (Zav r) l) row ⟨h,by simpa using hlen,fun f mf=>mf,by simp⟩ (fun p t row' mt hp hI=>by
  obtain ⟨h1,h2,h3,h4⟩:=hI
  rw [hb _ _ _ mt]
  obtain ⟨row2,e2,k1,k2,k3,k4⟩:=Zxz (ρ:=List Zc ⊕ ρ) (body:=fun (_:Nat) (a:Zr) row=>(ZbK row (Yx a t)).bind fun v=>some (.inl v)) mr hr hS mt (N:=24+2 * p.length) (by omega) ht2 (fun _ _ _=>rfl) row' h1 h2
  refine ⟨row2,e2 _,k1,by simp only [List.length_append,List.length_singleton];omega,fun f mf=>k3 f (h3 f mf),fun u mu a ma=>?_⟩
  rcases List.mem_append.1 mu with mu | mu
  ·exact k3 _ (h4 u mu a ma)
  ·simp at mu
   subst mu
   exact k4 a ma)
 exact ⟨row',e,h1,h3,h4⟩
theorem Zgr {R:List Zf} (hR:ZbJ R) (base:List Zc) (hb20:base.length≤1048576):(¬(YI R&&R.all (Xq R))=true∨¬YQ base=true→Yu R base=some ([],false))∧((YI R&&R.all (Xq R))=true→YQ base=true→∃x,Yu R base=some x∧Res R base x):=by
 constructor
 ·intro h
  unfold Yu
  rw [Ze9 hR,Option.bind_some]
  split
  ·rename_i h1
   rw [ZgZ _ hb20,Option.bind_some,if_neg (h.resolve_left (fun h=>h h1))]
  ·rfl
 ·intro h1 h2
  have hL:∀r∈R,Z2 r=true:=fun r mr=>by
   rw [Bool.and_eq_true] at h1
   have:=List.all_eq_true.1 h1.2 r mr
   unfold Xq at this
   rw [Bool.and_eq_true] at this
   exact this.1
  have hrl:∀r∈R,r.cond.length≤4∧r.thn.length≤2:=fun r mr=>by
   have:=hL r mr
   unfold Z2 at this
   simp only [Bool.and_eq_true] at this
   exact ZbU this.1.1
  obtain ⟨hF24,hFF⟩:=ZdP h2
  have hbase:Zeq R base base:=⟨Zhs h2,hFF,fun f mf=>mf,fun G hG f mf=>hG.base f mf⟩
  unfold Yu
  rw [Ze9 hR,Option.bind_some,if_pos h1,ZgZ _ hb20,Option.bind_some,if_pos h2,ZdV _ (by omega) (fun f mf=>by have:=X4 (hFF f mf);omega),Option.bind_some]
  refine ZsW (fun row=>rfl) (fun l hg hl=>?_) hbase hF24
  rcases Zbo (σ:=List Zc) (ρ:=(List Zc × Bool) ⊕ (List Zc × Bool)) (body:=fun (_:Nat) (r:Zf) row=>(XQ r).bind fun v745=>(Zay v745 l).bind fun v746=>Zp (fun _ t row=>Zp (fun _ a row=>(Xi a.pattern t.binding).bind fun v802=>(ZbK row v802.1).bind fun v803=>some (.inl v803)) (fun row=>some (.inl row)) r.thn 0 row) (fun row=>if (decide (24<((row.length:Nat):Int)))=true then some (.inr (.inr ([],false))) else some (.inl row)) v746 0 row)
   (fun p row=>ZkE R base l row∧row.length≤24∧∀r∈p,∀t∈ZQ (Zav r) l,∀a∈r.thn,Yx a t∈row) (fun x=>x=.inr ([],false)∧ZlQ R base) R l ⟨⟨hg,fun f mf=>mf⟩,hl,by simp⟩ (fun p r row mr hp hI=>by
    obtain ⟨i1,i2,i3⟩:=hI
    obtain ⟨hc4,ht2⟩:=hrl r mr
    obtain ⟨row',e,k1,k3,k4⟩:=Zu8 (ρ:=List Zc ⊕ ((List Zc × Bool) ⊕ (List Zc × Bool))) (body:=fun (_:Nat) (t:Zt) row=>Zp (fun _ a row=>(Xi a.pattern t.binding).bind fun v802=>(ZbK row v802.1).bind fun v803=>some (.inl v803)) (fun row=>some (.inl row)) r.thn 0 row) mr (hL r mr) hg hl hc4 ht2 (fun i t row mt=>by
     have hb6:=QN (Zd8 l _ t mt).bind
     have e1:∀p,Xi p t.binding=some (Ze4 (Ze8 p t.binding)):=fun p=>Zg0 p t.binding (by omega)
     simp only [e1,Option.bind_some]
     rfl) row i1 i2
    simp only [Zeu r (by omega),Option.bind_some,ZgQ (Zav r) l (by have:=Zc5 r;omega) hl (fun f mf=>X4 (hg.ok f mf)),e]
    by_cases h24:24<row'.length
    ·rw [if_pos (by simp;omega)]
     exact .inr ⟨_,rfl,rfl,k1.good.over (by omega)⟩
    ·rw [if_neg (by simp;omega)]
     refine .inl ⟨_,rfl,k1,by omega,fun u mu t mt a ma=>?_⟩
     rcases List.mem_append.1 mu with mu | mu
     ·exact k3 _ (i3 u mu t mt a ma)
     ·simp at mu
      subst mu
      exact k4 t mt a ma) with ⟨row,e,hP,hlen,hC⟩ | ⟨x,e,rfl,ho⟩
  ·left
   refine ⟨_,e (fun row=>some (.inl (row,decide (((l.length:Nat):Int)<((row.length:Nat):Int))))),?_⟩
   by_cases hlt:l.length<row.length
   ·have hd:decide (((l.length:Nat):Int)<((row.length:Nat):Int))=true:=by simpa using hlt
    rw [hd]
    exact ⟨⟨hP.good,hlen,hP.sub,fun _=>hlt,fun h=>by simp at h⟩,fun h=>by simp at h⟩
   ·have hd:decide (((l.length:Nat):Int)<((row.length:Nat):Int))=false:=by simpa using hlt
    have hback:=Zp2 (Zkl hg.asc) hP.sub (by omega)
    have heq:row=l:=ZkB hP.good.asc hg.asc fun f=>⟨hback f,hP.sub f⟩
    rw [hd]
    exact ⟨⟨hP.good,hlen,hP.sub,fun h=>by simp at h,fun _=>heq⟩,fun _ r mr t mt a ma=>hback _ (hC r mr t mt a ma)⟩
  ·exact .inr ⟨e (fun row=>some (.inl (row,decide (((l.length:Nat):Int)<((row.length:Nat):Int))))),ho⟩
theorem Zhp {R:List Zf} (hR:ZbJ R) (base:List Zc) (hb20:base.length≤1048576):∃x,Yu R base=some x∧Yv R base=some x∧(x=([],false)∨(YI R&&R.all (Xq R))=true∧YQ base=true∧Res R base x):=by
 obtain ⟨s1,s2⟩:=Zgr hR base hb20
 obtain ⟨i1,i2⟩:=Zgm hR base
 by_cases h1:(YI R&&R.all (Xq R))=true
 ·by_cases h2:YQ base=true
  ·obtain ⟨x,e1,r1⟩:=s2 h1 h2
   obtain ⟨y,e2,r2⟩:=i2 h1 h2
   rw [←r1.uniq r2] at e2
   exact ⟨x,e1,e2,.inr ⟨h1,h2,r1⟩⟩
  ·exact ⟨_,s1 (.inr h2),i1 (.inr h2),.inl rfl⟩
 ·exact ⟨_,s1 (.inl h1),i1 (.inl h1),.inl rfl⟩
end Go.Proofs.YtojnhepgnbhaaaaGreatDoor
namespace Go.Proofs.YtojnhepgnbhaaaaGreatDoor
def meets (a b:Nat):Prop:=a &&& b≠0
theorem Zk7:∀{a b:List Int},a.Pairwise (·<·)→b.Pairwise (·<·)→(∀x,x∈a↔x∈b)→a=b
 | [],[],_,_,_=>rfl
 | [],y::b,_,_,h=>by have:=(h y).2 (by simp);simp at this
 | x::a,[],_,_,h=>by have:=(h x).1 (by simp);simp at this
 | x::a,y::b,ha,hb,h=>by
  rw [List.pairwise_cons] at ha hb
  have hxy:x=y:=by
   have h1:=(h x).1 (by simp)
   have h2:=(h y).2 (by simp)
   rcases List.mem_cons.1 h1 with e | h1
   ·exact e
   ·rcases List.mem_cons.1 h2 with e | h2
    ·exact e.symm
    ·have:=hb.1 x h1;have:=ha.1 y h2;omega
  subst hxy
  rw [Zk7 ha.2 hb.2 fun z=>?_]
  constructor
  ·intro hz
   rcases List.mem_cons.1 ((h z).1 (by simp [hz])) with e | hz'
   ·subst e;have:=ha.1 z hz;omega
   ·exact hz'
  ·intro hz
   rcases List.mem_cons.1 ((h z).2 (by simp [hz])) with e | hz'
   ·subst e;have:=hb.1 z hz;omega
   ·exact hz'
end Go.Proofs.YtojnhepgnbhaaaaGreatDoor
namespace Go.Proofs.YtojnhepgnbhaaaaGreatDoor
def Ztx (l:List Int) (x:Int):Bool:=l.any fun y=>y==x
theorem Zo6 {l:List Int} {x:Int}:Ztx l x=true↔x∈l:=by simp [Ztx]
theorem ZnV (l:List Int) (x:Int):ZfY l x=some (Ztx l x):=by
 unfold ZfY Ztx
 rw [ZcB (p:=fun y=>y==x) (r:=true)]
 ·cases l.any fun y=>y==x<;>simp
 ·intro i y _
  cases y==x<;>simp
theorem Zrl {l:List Int} {x:Int}:x∈Zi5 l↔x∈l:=(List.mergeSort_perm l _).mem_iff
theorem ZqZ {l:List Int} (h:l.Nodup):(Zi5 l).Pairwise (·<·):=by
 have h1:(Zi5 l).Pairwise fun x y=>decide (x≤y)=true:=List.pairwise_mergeSort (fun a b c h1 h2=>by simp at *;omega) (fun a b=>by simp;omega) l
 have h2:(Zi5 l).Nodup:=(List.mergeSort_perm l _).nodup_iff.2 h
 have h3:(Zi5 l).Pairwise (·≠·):=h2
 exact (h1.and h3).imp fun ⟨a,b⟩=>by simp at a;omega
def Zdp:List Int→Int→List Int
 | [],x=>[x]
 | y::l,x=>if y<x then y::Zdp l x else if y=x then y::l else x::y::l
theorem Zn8 (l:List Int) (x:Int) (h:l.length+1≤1073741824):ZfJ l x=some (Zdp l x):=by
 unfold ZfJ
 refine (Zad (fun l _ (st:List Int × Bool)=>some (if st.2=true then st.1++l else st.1++Zdp l x)) (fun l _ (st:List Int × Bool)=>st.1.length+l.length+(if st.2=true then 0 else 1)≤1073741824) ?_ ?_ l 0 ([],false) (by simpa using h)).trans (by simp)
 ·rintro i ⟨row,d⟩ hI
  cases d with
  | true=>simp
  | false=>simp only [Bool.false_eq_true,if_false,Zdp];simp at hI;rw [Zj _ (by omega)]
 ·rintro y l i ⟨row,d⟩ hI
  left
  cases d with
  | true=>
   simp at hI
   exact ⟨(row++[y],true),by simp only [if_true];rw [Zj _ (by omega)],by simp;omega,by simp⟩
  | false=>
   simp at hI
   by_cases h1:x≤y
   ·by_cases h2:y=x
    ·subst h2
     exact ⟨(row++[y],true),by simp;rw [Zj _ (by omega)],by simp;omega,by simp [Zdp]⟩
    ·exact ⟨(row++[x]++[y],true),by simp [h1,h2];rw [Zj _ (by omega),Zj _ (by omega)],by simp;omega,by simp [Zdp,h2,show ¬y<x by omega]⟩
   ·exact ⟨(row++[y],false),by simp [h1];rw [Zj _ (by omega)],by simp;omega,by simp [Zdp,show y<x by omega]⟩
theorem Zls {x y:Int}:∀{l:List Int},y∈Zdp l x↔y=x∨y∈l
 | []=>by simp [Zdp]
 | z::l=>by
  simp only [Zdp]
  split
  ·rw [List.mem_cons,Zls,List.mem_cons]
   constructor
   ·rintro (h | h | h)<;>simp [h]
   ·rintro (h | h | h)<;>simp [h]
  ·split
   ·rename_i h;subst h;simp
   ·simp
theorem ZnQ {x:Int}:∀{l:List Int},l.Pairwise (·<·)→(Zdp l x).Pairwise (·<·)
 | [],_=>by simp [Zdp]
 | z::l,h=>by
  rw [List.pairwise_cons] at h
  simp only [Zdp]
  split
  ·rw [List.pairwise_cons]
   refine ⟨fun y hy=>?_,ZnQ h.2⟩
   rcases Zls.1 hy with rfl | hy
   ·assumption
   ·exact h.1 y hy
  ·split
   ·rw [List.pairwise_cons];exact h
   ·rw [List.pairwise_cons,List.pairwise_cons]
    refine ⟨fun y hy=>?_,h⟩
    rcases List.mem_cons.1 hy with rfl | hy
    ·omega
    ·have:=h.1 y hy;omega
theorem Zo8 (x:Int):∀l:List Int,(Zdp l x).length≤l.length+1
 | []=>by simp [Zdp]
 | z::l=>by
  simp only [Zdp]
  split
  ·have:=Zo8 x l;simp;omega
  ·split<;>simp
end Go.Proofs.YtojnhepgnbhaaaaGreatDoor
