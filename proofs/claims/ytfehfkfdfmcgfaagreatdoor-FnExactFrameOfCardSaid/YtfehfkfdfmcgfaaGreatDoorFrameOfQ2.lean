/- Texts of this proof, joined: PL, E1, P1, E2, E3, E15, P5, F3, F4, P14, R14, S14, F6, F7, M13, P13. What each holds is said at its theorems. -/
import Derived.Test.YtfehfkfdfmcgfaaGreatDoorFrameOfQ1
import Derived.Lib.ItoaLen
import Derived.Laws.BitsLemmas
import Derived.Lib.Bytealg
set_option linter.unusedSimpArgs false
set_option linter.unusedVariables false
namespace Go.Proofs.YtfehfkfdfmcgfaaGreatDoor
section
variable {α σ ρ:Type} {body:Nat→α→σ→Option (σ ⊕ ρ)} {fin:σ→Option ρ}
theorem ZlZ (i:Nat) (s:σ):Zo body fin [] i s=fin s:=rfl
theorem ZX {x:α} {l:List α} {i:Nat} {s s':σ} (h:body i x s=some (.inl s')):Zo body fin (x::l) i s=Zo body fin l (i+1) s':=by simp only [Zo,h]
theorem Yi {x:α} {l:List α} {i:Nat} {s:σ} {r:ρ} (h:body i x s=some (.inr r)):Zo body fin (x::l) i s=some r:=by simp only [Zo,h]
theorem ZU {p:α→Bool} {r:ρ}:∀{l:List α} {i:Nat} {s:σ},(∀i x,x∈l→body i x s=some (bif p x then .inl s else .inr r))→Zo body fin l i s=if l.all p=true then fin s else some r
 | [],_,_,_=>by simp [Zo]
 | x::l,i,s,h=>by
  have hx:=h i x (by simp)
  by_cases hp:p x=true
  ·rw [hp,cond_true] at hx
   rw [ZX hx,ZU fun j y my=>h j y (by simp [my])]
   simp [hp]
  ·rw [eq_false_of_ne_true hp,cond_false] at hx
   rw [Yi hx]
   simp [hp]
theorem Zco {p:α→Bool} {r:ρ}:∀{l:List α} {i:Nat} {s:σ},(∀i x,x∈l→body i x s=some (bif p x then .inr r else .inl s))→Zo body fin l i s=if l.any p=true then some r else fin s
 | [],_,_,_=>by simp [Zo]
 | x::l,i,s,h=>by
  have hx:=h i x (by simp)
  by_cases hp:p x=true
  ·rw [hp,cond_true] at hx
   rw [Yi hx]
   simp [hp]
  ·rw [eq_false_of_ne_true hp,cond_false] at hx
   rw [ZX hx,Zco fun j y my=>h j y (by simp [my])]
   simp [hp]
theorem YM {f:σ→α→σ} (I:Nat→σ→Prop):∀{l:List α} {i:Nat} {s:σ},I i s→(∀j x s,x∈l→i≤j→j<i+l.length→I j s→body j x s=some (.inl (f s x))∧I (j+1) (f s x))→Zo body fin l i s=fin (l.foldl f s)
 | [],_,_,_,_=>rfl
 | x::l,i,s,h0,h=>by
  obtain ⟨h1,h2⟩:=h i x s (by simp) (by omega) (by simp) h0
  rw [ZX h1,YM I h2 fun j y s my hj hl=>h j y s (by simp [my]) (by omega) (by simp at hl ⊢;omega)]
  rfl
theorem Zal (g:List α→Nat→σ→Option ρ) (I:List α→Nat→σ→Prop) (h0:∀i s,I [] i s→fin s=g [] i s)
  (h1:∀x l i s,I (x::l) i s→(∃s',body i x s=some (.inl s')∧I l (i+1) s'∧g (x::l) i s=g l (i+1) s')∨(∃r,body i x s=some (.inr r)∧g (x::l) i s=some r)):∀(l:List α) (i:Nat) (s:σ),I l i s→Zo body fin l i s=g l i s
 | [],i,s,h=>h0 i s h
 | x::l,i,s,h=>by
  rcases h1 x l i s h with ⟨s',e1,e2,e3⟩ | ⟨r,e1,e2⟩
  ·rw [ZX e1,Zal g I h0 h1 l (i+1) s' e2,e3]
  ·rw [Yi e1,e2]
end
def allI {α:Type} (p:Nat→α→Bool):List α→Nat→Bool
 | [],_=>true
 | x::l,i=>p i x&&allI p l (i+1)
theorem Zfo {α:Type} {p:Nat→α→Bool}:∀{l:List α} {i:Nat},allI p l i=true→∀j x,l[j]?=some x→p (i+j) x=true
 | [],_,_,j,x,hx=>by simp at hx
 | y::l,i,h,0,x,hx=>by simp only [allI,Bool.and_eq_true] at h;simp at hx;subst hx;exact h.1
 | y::l,i,h,j+1,x,hx=>by
  simp only [allI,Bool.and_eq_true] at h
  have:=Zfo h.2 j x (by simpa using hx)
  rwa [show i+(j+1)=i+1+j by omega]
section
variable {α σ ρ:Type} {body:Nat→α→σ→Option (σ ⊕ ρ)} {fin:σ→Option ρ}
theorem Xu {p:Nat→α→Bool} {r:ρ}:∀{l:List α} {i:Nat} {s:σ},(∀j x,l[j]?=some x→body (i+j) x s=some (bif p (i+j) x then .inl s else .inr r))→Zo body fin l i s=if allI p l i=true then fin s else some r
 | [],_,_,_=>by simp [Zo,allI]
 | x::l,i,s,h=>by
  have hx:=h 0 x (by simp)
  simp only [Nat.add_zero] at hx
  by_cases hp:p i x=true
  ·rw [hp,cond_true] at hx
   rw [ZX hx,Xu fun j y hy=>by have:=h (j+1) y (by simpa using hy);rwa [show i+(j+1)=i+1+j by omega] at this]
   simp [allI,hp]
  ·rw [eq_false_of_ne_true hp,cond_false] at hx
   rw [Yi hx]
   simp [allI,hp]
theorem YC {β:Type} {g:α→Option β} {fin:List β→Option ρ} {body:Nat→α→List β→Option (List β ⊕ ρ)}:∀{l:List α} {i:Nat} {acc:List β},(∀j x s,x∈l→s.length+1≤acc.length+l.length→body j x s=some (.inl (s++(g x).toList)))→Zo body fin l i acc=fin (acc++l.filterMap g)
 | [],_,acc,_=>by simp [Zo]
 | x::l,i,acc,h=>by
  rw [ZX (h i x acc (by simp) (by simp))]
  rw [YC fun j y s my hs=>h j y s (by simp [my]) (by cases hg:g x<;>simp [hg] at hs ⊢<;>omega)]
  congr 1
  cases hg:g x<;>simp [hg]
theorem Zjo {β:Type} {g:α→β} {fin:List β→Option ρ} {body:Nat→α→List β→Option (List β ⊕ ρ)} {l:List α} {i:Nat} {acc:List β} (h:∀j x s,x∈l→s.length+1≤acc.length+l.length→body j x s=some (.inl (s++[g x]))):Zo body fin l i acc=fin (acc++l.map g):=by
 rw [YC (g:=fun x=>some (g x)) h,List.filterMap_eq_map']
theorem Zcm {p:α→Bool} {fin:List α→Option ρ} {body:Nat→α→List α→Option (List α ⊕ ρ)} {l:List α} {i:Nat} {acc:List α} (h:∀j x s,x∈l→s.length+1≤acc.length+l.length→body j x s=some (.inl (if p x=true then s++[x] else s))):Zo body fin l i acc=fin (acc++l.filter p):=by
 rw [YC (g:=fun x=>if p x=true then some x else none) fun j x s mx hs=>by rw [h j x s mx hs];split<;>simp]
 congr 2
 induction l with
 | nil=>rfl
 | cons x l ih=>
  have ih:=ih fun j y s my hs=>h j y s (by simp [my]) (by simp at hs ⊢;omega)
  by_cases hp:p x=true<;>simp [hp,ih]
end
/- texts -/
theorem ZO {x y:ByteArray}:sEq x y=true↔x=y:=by simp [sEq]
theorem ZuQ (x:ByteArray):sEq x x=true:=ZO.2 rfl
theorem Zfy {x y:ByteArray} (h:toL x=toL y):x=y:=by rw [←ZiP x,←ZiP y,h]
theorem ZcW (x:ByteArray):(toL x).length=x.size:=by rw [toL,ByteArray.size,Array.length_toList]
theorem ZhL:∀(a b:List UInt8),Op.bytesLess a b=true↔a<b
 | [],[]=>by simp [Op.bytesLess]
 | [],_::_=>by simp [Op.bytesLess]
 | _::_,[]=>by simp [Op.bytesLess]
 | x::a,y::b=>by
  rw [List.cons_lt_cons_iff,←ZhL a b]
  simp only [Op.bytesLess]
  by_cases h:x<y
  ·simp [h]
  ·by_cases h2:x=y
   ·subst h2;simp [h]
   ·simp [h,h2]
theorem Zfk {x y:ByteArray}:sLt x y=true↔toL x<toL y:=by
 unfold sLt toL
 rw [ZhL,ByteArray.toList_eq,ByteArray.toList_eq]
theorem Zii (x:ByteArray):sLt x x=false:=by
 cases h:sLt x x with
 | false=>rfl
 | true=>exact absurd (Zfk.1 h) (List.lt_irrefl _)
theorem Zfa {x y z:ByteArray} (h1:sLt x y=true) (h2:sLt y z=true):sLt x z=true:=Zfk.2 (List.lt_trans (Zfk.1 h1) (Zfk.1 h2))
theorem ZjA {x y:ByteArray} (h1:sLt x y=true):sLt y x=false:=by
 cases h:sLt y x with
 | false=>rfl
 | true=>have:=Zfa h1 h;rw [Zii] at this;simp at this
theorem Zpt {x y:ByteArray} (h:sLt x y=true):¬x=y:=fun e=>by rw [e,Zii] at h;simp at h
theorem ZeS {x y:ByteArray} (h1:sLt x y=false) (h2:¬x=y):sLt y x=true:=by
 rcases Std.lt_trichotomy (toL x) (toL y) with h | h | h
 ·rw [Zfk.2 h] at h1;simp at h1
 ·exact absurd (Zfy h) h2
 ·exact Zfk.2 h
def Asc (l:List ByteArray):Prop:=l.Pairwise fun x y=>sLt x y=true
theorem ZoX:∀{a b:List ByteArray},Asc a→Asc b→(∀x,x∈a↔x∈b)→a=b
 | [],[],_,_,_=>rfl
 | [],y::b,_,_,h=>by have:=(h y).2 (by simp);simp at this
 | x::a,[],_,_,h=>by have:=(h x).1 (by simp);simp at this
 | x::a,y::b,ha,hb,h=>by
  unfold Asc at ha hb
  rw [List.pairwise_cons] at ha hb
  have hxy:x=y:=by
   have h1:=(h x).1 (by simp)
   have h2:=(h y).2 (by simp)
   rcases List.mem_cons.1 h1 with h1 | h1
   ·exact h1
   ·rcases List.mem_cons.1 h2 with h2 | h2
    ·exact h2.symm
    ·have:=ZjA (ha.1 y h2);rw [hb.1 x h1] at this;simp at this
  subst hxy
  congr 1
  refine ZoX ha.2 hb.2 fun z=>?_
  have hz:=h z
  simp only [List.mem_cons] at hz
  constructor
  ·intro m
   rcases hz.1 (.inr m) with e | m'
   ·exact absurd e.symm (Zpt (ha.1 z m))
   ·exact m'
  ·intro m
   rcases hz.2 (.inr m) with e | m'
   ·exact absurd e.symm (Zpt (hb.1 z m))
   ·exact m'
def Qh:List ByteArray→ByteArray→List ByteArray
 | [],s=>[s]
 | x::r,s=>if sLt x s=true then x::Qh r s else if sEq x s=true then x::r else s::x::r
theorem Zjb {y s:ByteArray}:∀{l:List ByteArray},y∈Qh l s↔y=s∨y∈l
 | []=>by simp [Qh]
 | x::r=>by
  simp only [Qh]
  split
  ·simp only [List.mem_cons,Zjb (l:=r)]
   constructor<;>(intro h;rcases h with h | h | h<;>simp [h])
  ·split
   ·rename_i h
    have:=ZO.1 h
    subst this
    simp
   ·simp
theorem Zf3 {s:ByteArray}:∀{l:List ByteArray},Asc l→Asc (Qh l s)
 | [],_=>by simp [Qh,Asc]
 | x::r,h=>by
  have h':=h
  unfold Asc at h'
  rw [List.pairwise_cons] at h'
  simp only [Qh]
  split
  ·rename_i hx
   refine List.pairwise_cons.2 ⟨fun y my=>?_,Zf3 h'.2⟩
   rcases Zjb.1 my with rfl | my
   ·exact hx
   ·exact h'.1 y my
  ·split
   ·exact h
   ·rename_i hx hne
    have hsx:sLt s x=true:=ZeS (by simpa using hx) (fun e=>hne (ZO.2 e))
    refine List.pairwise_cons.2 ⟨fun y my=>?_,h⟩
    rcases List.mem_cons.1 my with rfl | my
    ·exact hsx
    ·exact Zfa hsx (h'.1 y my)
theorem Zdx (s:ByteArray):∀l:List ByteArray,(Qh l s).length≤l.length+1
 | []=>by simp [Qh]
 | x::r=>by
  have:=Zdx s r
  simp only [Qh]
  split
  ·simp;omega
  ·split<;>simp
def ZT (l:List ByteArray):List ByteArray:=l.foldl Qh []
theorem XP:∀(l acc:List ByteArray),Asc acc→Asc (l.foldl Qh acc)∧(∀x,x∈l.foldl Qh acc↔x∈l∨x∈acc)∧(l.foldl Qh acc).length≤l.length+acc.length
 | [],acc,h=>⟨h,fun x=>by simp,by simp⟩
 | y::l,acc,h=>by
  obtain ⟨h1,h2,h3⟩:=XP l (Qh acc y) (Zf3 h)
  refine ⟨h1,fun x=>?_,?_⟩
  ·rw [List.foldl_cons,h2 x,Zjb]
   rw [List.mem_cons]
   constructor
   ·rintro (h | h | h)<;>simp [h]
   ·rintro ((h | h) | h)<;>simp [h]
  ·have:=Zdx y acc
   rw [List.foldl_cons]
   simp only [List.length_cons]
   omega
theorem ZcG (l:List ByteArray):Asc (ZT l):=(XP l [] List.Pairwise.nil).1
theorem ZP {x:ByteArray} {l:List ByteArray}:x∈ZT l↔x∈l:=by have:=(XP l [] List.Pairwise.nil).2.1 x;rw [ZT,this];simp
theorem Zei (l:List ByteArray):(ZT l).length≤l.length:=(XP l [] List.Pairwise.nil).2.2
theorem Zfi {a l:List ByteArray} (h:Asc a) (hm:∀x,x∈a↔x∈l):a=ZT l:=ZoX h (ZcG l) fun x=>by rw [hm,ZP]
theorem ZmV {a b:List ByteArray} (h:∀x,x∈a↔x∈b):ZT a=ZT b:=Zfi (ZcG a) fun x=>by rw [ZP,h]
def Yx (l:List ByteArray) (s:ByteArray):Bool:=l.any fun x=>sEq x s
theorem Xw {l:List ByteArray} {s:ByteArray}:Yx l s=true↔s∈l:=by
 simp only [Yx,List.any_eq_true,ZO]
 constructor
 ·rintro ⟨x,h,rfl⟩;exact h
 ·exact fun h=>⟨s,h,rfl⟩
/- sorting -/
theorem ZtE {x:ByteArray} {l:List ByteArray}:x∈Ze2 l↔x∈l:=by
 simp only [Ze2,List.mem_map,List.mem_mergeSort]
 constructor
 ·rintro ⟨y,⟨z,hz,rfl⟩,rfl⟩;rw [ZiP];exact hz
 ·exact fun h=>⟨toL x,⟨x,h,rfl⟩,ZiP x⟩
theorem ZuF (l:List ByteArray):(Ze2 l).length=l.length:=by simp [Ze2]
theorem Zu8 (l:List ByteArray):(Ze2 l).Pairwise fun x y=>sLt y x=false:=by
 unfold Ze2
 rw [List.pairwise_map]
 have:=List.pairwise_mergeSort (le:=fun x y:List UInt8=>decide (x≤y)) (fun a b c h1 h2=>by simp at h1 h2 ⊢;exact List.le_trans h1 h2) (fun a b=>by simp;exact List.le_total a b) (l.map toL)
 refine this.imp fun {a b} h=>?_
 cases hh:sLt (ofL b) (ofL a) with
 | false=>rfl
 | true=>
  have h1:=Zfk.1 hh
  rw [Zb2,Zb2] at h1
  have h2:a≤b:=by simpa using h
  exact absurd h1 (List.not_lt.2 h2)
end Go.Proofs.YtfehfkfdfmcgfaaGreatDoor
namespace Go.Proofs.YtfehfkfdfmcgfaaGreatDoor
theorem Zdp (a b:ByteArray):toL (a++b)=toL a++toL b:=by simp [toL]
theorem Zsm (a b:List UInt8):ofL (a++b)=ofL a++ofL b:=Zfy (by rw [Zdp,Zb2,Zb2,Zb2])
theorem ZgD (a:List UInt8):(ofL a).size=a.length:=by rw [←ZcW,Zb2]
theorem ZvX (a b c:ByteArray):(a++b)++c=a++(b++c):=Zfy (by simp only [Zdp,List.append_assoc])
theorem Zxa (a b:ByteArray):(a++b).size=a.size+b.size:=by rw [←ZcW,←ZcW,←ZcW,Zdp,List.length_append]
theorem Zd9 {n:Int} (h0:-9223372036854775808≤n) (h1:n≤9223372036854775807):IntKind.i64.wrap n=n:=by rw [IntKind.wrap_i64];omega
theorem Zvh (u:Nat) (hu:u<9223372036854775808):Y5 [IntKind.u8.wrap (IntKind.i64.wrap (48+Int.tmod (u:Int) 10))]=ofL [UInt8.ofNat (48+u % 10)]:=by
 have h1:Int.tmod (u:Int) 10=((u % 10:Nat):Int):=by rw [Int.tmod_eq_emod_of_nonneg (by omega)];omega
 rw [h1,Zd9 (by omega) (by omega),IntKind.wrap_u8,show (48+((u % 10:Nat):Int)) % 256=((48+u % 10:Nat):Int) by omega]
 apply Zfy
 rw [Zb2]
 simp only [Y5,List.map_cons,List.map_nil,toL,Int.toNat_natCast]
theorem ZxA (u:Nat) (hu:u<9223372036854775808):IntKind.i64.wrap (Int.tdiv (u:Int) 10)=((u / 10:Nat):Int):=by
 rw [Int.tdiv_eq_ediv_of_nonneg (by omega),Zd9 (by omega) (by omega)]
 omega
theorem ZvG {body:Int × ByteArray→Option ((Int × ByteArray) ⊕ ByteArray)} (hb:∀n t,body (n,t)=chk ((Y5 [IntKind.u8.wrap (IntKind.i64.wrap (48+Int.tmod n 10))]).size+t.size≤9223372036854775807)
   (if (IntKind.i64.wrap (Int.tdiv n 10)==0)=true then some (.inr (Y5 [IntKind.u8.wrap (IntKind.i64.wrap (48+Int.tmod n 10))]++t)) else some (.inl (IntKind.i64.wrap (Int.tdiv n 10),Y5 [IntKind.u8.wrap (IntKind.i64.wrap (48+Int.tmod n 10))]++t)))):
  ∀(u:Nat) (t:ByteArray),u<9223372036854775808→t.size+Lib.nDigits u≤1000→Yp body ((u:Int),t)=some (ofL (Lib.decDigits u)++t):=by
 intro u
 induction u using Nat.strongRecOn with
 | ind u ih=>
  intro t hu ht
  rw [Zfq,hb,Zvh u hu,ZxA u hu]
  have hp:=Lib.nDigits_pos u
  rw [Zh _ (by rw [ZgD];simp;omega)]
  by_cases h:u<10
  ·have h0:u / 10=0:=by omega
   rw [h0,Lib.decDigits_one h,show u % 10=u by omega]
   rfl
  ·have h0:¬(((u / 10:Nat):Int)==0)=true:=by simp;omega
   rw [if_neg h0]
   have hd:=Lib.nDigits_big h
   show Yp body (((u / 10:Nat):Int),ofL [UInt8.ofNat (48+u % 10)]++t)=_
   rw [ih (u / 10) (by omega) _ (by omega) (by rw [Zxa,ZgD];simp;omega),←ZvX,←Zsm]
   congr 2
   rw [show Lib.decDigits u=Lib.decDigits (u / 10)++[UInt8.ofNat (48+u % 10)] by rw [Lib.decDigits,dif_neg h]]
theorem ZyK (t:ByteArray):t++(⟨#[]⟩:ByteArray)=t:=Zfy (by rw [Zdp];simp [toL])
theorem Znx {body:Int × ByteArray→Option ((Int × ByteArray) ⊕ ByteArray)} (hb:∀n t,body (n,t)=chk ((Y5 [IntKind.u8.wrap (IntKind.i64.wrap (48+Int.tmod n 10))]).size+t.size≤9223372036854775807)
   (if (IntKind.i64.wrap (Int.tdiv n 10)==0)=true then some (.inr (Y5 [IntKind.u8.wrap (IntKind.i64.wrap (48+Int.tmod n 10))]++t)) else some (.inl (IntKind.i64.wrap (Int.tdiv n 10),Y5 [IntKind.u8.wrap (IntKind.i64.wrap (48+Int.tmod n 10))]++t))))
  {n:Int} (h0:0≤n) (h1:n≤9223372036854775807):Yp body (n,⟨#[]⟩)=some (ofL (Lib.itoa n)):=by
 obtain ⟨u,rfl⟩:∃u:Nat,n=(u:Int):=⟨n.toNat,by omega⟩
 have:=Lib.nDigits_le20 u (by omega)
 rw [ZvG hb u _ (by omega) (by show 0+_≤_;omega),ZyK,Lib.itoa_nonneg]
theorem ZrY:ofL (Lib.itoa (-9223372036854775808))=(⟨#[45,57,50,50,51,51,55,50,48,51,54,56,53,52,55,55,53,56,48,56]⟩:ByteArray):=by
 rw [show (-9223372036854775808:Int)=-((9223372036854775808:Nat):Int) by rfl,Lib.itoa_neg _ (by omega),Lib.decDigits_eq,Lib.nDigits_unique 18 _ (by decide) (by decide)]
 decide +kernel
theorem ZjJ {n:Int} (h0:0≤n) (h1:n≤9223372036854775807):Zat n=some (ofL (Lib.itoa n)):=by
 unfold Zat
 rw [if_neg (by simp;omega),if_neg (by simp;omega)]
 exact Znx (fun _ _=>rfl) h0 h1
theorem Zf5 {n:Int} (h:ZqV n):X3 n=some (ofL (Lib.itoa n)):=by
 unfold X3
 by_cases hm:n=-9223372036854775808
 ·subst hm
  rw [if_pos (by decide),ZrY]
 ·rw [if_neg (by simpa using hm)]
  by_cases hn:n<0
  ·have h2:ZqV n:=h
   unfold ZqV at h2
   rw [if_pos (by simpa using hn),Zd9 (by omega) (by omega),ZjJ (by omega) (by omega),Option.bind_some]
   obtain ⟨u,rfl⟩:∃u:Nat,n=-(u:Int):=⟨n.natAbs,by omega⟩
   rw [show (0 - -(u:Int))=(u:Int) by omega,Lib.itoa_nonneg,Lib.itoa_neg u (by omega)]
   have:=Lib.nDigits_le20 u (by omega)
   rw [Zh _ (by rw [ZgD,Lib.decDigits_length];show 1+_≤_;omega)]
   exact congrArg some (Zfy (by rw [Zdp,Zb2,Zb2];rfl))
  ·rw [if_neg (by simpa using hn)]
   exact Znx (fun _ _=>rfl) (by omega) h.2
theorem ZdI {n:Int} (h:ZqV n):Za4 n=some (ofL (Lib.itoa n)):=by
 have h2:-9223372036854775808≤n∧n≤9223372036854775807:=h
 unfold Za4 Zpj
 rw [Zh _ h2]
 rfl
end Go.Proofs.YtfehfkfdfmcgfaaGreatDoor
namespace Go.Proofs.YtfehfkfdfmcgfaaGreatDoor
def Zbn (b:UInt8):Bool:=(decide (97≤b.toNat)&&decide (b.toNat≤122))||(decide (48≤b.toNat)&&decide (b.toNat≤57))
def ZQ (s:ByteArray):Bool:=decide (1≤s.size)&&decide (s.size≤8)&&(toL s).all Zbn
theorem Zhs (x a b:Int):X7 x a b=some (decide (a≤x)&&decide (x≤b)):=by
 unfold X7
 by_cases h:a≤x<;>simp [h]
theorem Zoi (b:UInt8):IntKind.i64.wrap ((b.toNat:Nat):Int)=((b.toNat:Nat):Int):=YW (by omega) (by have:=b.toNat_lt;omega)
theorem Q9 {b:UInt8}:Zbn b=true↔(97≤b.toNat∧b.toNat≤122)∨(48≤b.toNat∧b.toNat≤57):=by
 simp only [Zbn,Bool.or_eq_true,Bool.and_eq_true,decide_eq_true_eq]
theorem X6 (s:ByteArray):Qk s=some (ZQ s):=by
 unfold Qk ZQ
 rw [show s.data.toList=toL s from rfl,ZU (p:=Zbn) (r:=false)]
 ·simp only [Zhs,Option.bind_some]
  cases (toL s).all Zbn with
  | true=>
   simp only [if_true,Bool.and_true]
   congr 1
   rw [Bool.eq_iff_iff]
   simp only [Bool.and_eq_true,decide_eq_true_eq]
   omega
  | false=>simp
 ·intro i x _
  simp only [Zhs,Option.bind_some,Zoi,Bool.and_eq_true,decide_eq_true_eq]
  cases hp:Zbn x with
  | true=>
   have:=Q9.1 hp
   repeat' split
   all_goals first | rfl | (exfalso;omega) | (exfalso;simp_all;done)
  | false=>
   have:=mt (Q9 (b:=x)).2 (by simp [hp])
   repeat' split
   all_goals first | rfl | (exfalso;omega) | (exfalso;simp_all;done)
theorem X1 (s:ByteArray):Qm s=some (ZQ s):=by
 unfold Qm ZQ
 simp only [decide_eq_true_eq]
 rw [show s.data.toList=toL s from rfl,ZU (p:=Zbn) (r:=false)]
 ·repeat' split
  ·rw [decide_eq_false (show ¬1≤s.size by omega)];rfl
  ·rw [decide_eq_false (show ¬s.size≤8 by omega)];simp
  ·rename_i h;rw [h,decide_eq_true (show 1≤s.size by omega),decide_eq_true (show s.size≤8 by omega)];rfl
  ·rename_i h;rw [eq_false_of_ne_true h];simp
 ·intro i x _
  cases hp:Zbn x with
  | true=>
   have:=Q9.1 hp
   repeat' split
   all_goals first | rfl | (exfalso;omega) | (exfalso;simp_all;done)
  | false=>
   have:=mt (Q9 (b:=x)).2 (by simp [hp])
   repeat' split
   all_goals first | rfl | (exfalso;omega) | (exfalso;simp_all;done)
def ZhX (s:ByteArray):UInt8:=(toL s).headD 0
theorem ZiF {s:ByteArray} (h:1≤s.size):sAt s 0=some (ZhX s):=by
 unfold sAt ZhX
 have hl:0<(toL s).length:=by rw [ZcW];omega
 have:(toL s)[0]?=some ((toL s).headD 0):=by
  cases hh:toL s with
  | nil=>rw [hh] at hl;simp at hl
  | cons a r=>simp
 rw [if_pos (by omega)]
 exact Zpp this
def X9 (s:ByteArray):Bool:=ZQ s&&decide (97≤(ZhX s).toNat)
theorem Zbr {s:ByteArray} (h:ZQ s=true):1≤s.size∧s.size≤8:=by
 simp only [ZQ,Bool.and_eq_true,decide_eq_true_eq] at h
 exact h.1
theorem ZiN {s:ByteArray} (h:ZQ s=true):Zbn (ZhX s)=true:=by
 have hs:=Zbr h
 simp only [ZQ,Bool.and_eq_true] at h
 have hl:0<(toL s).length:=by rw [ZcW];omega
 refine List.all_eq_true.1 h.2 _ ?_
 unfold ZhX
 cases hh:toL s with
 | nil=>rw [hh] at hl;simp at hl
 | cons a r=>simp
theorem Zgv (s:ByteArray):ZdP s=some (X9 s):=by
 unfold ZdP X9
 rw [X6,Option.bind_some]
 cases h:ZQ s with
 | false=>simp
 | true=>
  simp only [if_true,ZiF (Zbr h).1,Option.bind_some,Zhs,Zoi,Bool.true_and]
  have hb:=Q9.1 (ZiN h)
  congr 1
  rw [Bool.eq_iff_iff]
  simp only [Bool.and_eq_true,decide_eq_true_eq]
  omega
theorem Zga (s:ByteArray):Zd1 s=some (X9 s):=by
 unfold Zd1 X9
 rw [X1,Option.bind_some]
 cases h:ZQ s with
 | false=>simp
 | true=>
  simp only [if_true,ZiF (Zbr h).1,Option.bind_some,Bool.true_and]
  congr 1
  rw [Bool.eq_iff_iff]
  simp only [decide_eq_true_eq]
  omega
def ZvM (s:ByteArray):ByteArray:=s.extract 1 s.size
def Ye (s:ByteArray):Bool:=decide (1<s.size)&&decide ((ZhX s).toNat=63)&&ZQ (ZvM s)
theorem QW (s:ByteArray):Zaz s=some (Ye s):=by
 unfold Zaz Ye ZvM
 by_cases h:1<s.size
 ·have h':(1:Int)<((s.size:Nat):Int):=by omega
  simp only [h',h,decide_true,if_true,ZiF (show 1≤s.size by omega),Option.bind_some,Bool.true_and]
  rw [Zh _ ⟨by omega,by omega⟩,show Int.toNat 1=1 from rfl,X6,Option.bind_some]
  by_cases h2:(ZhX s).toNat=63
  ·simp [h2]
  ·have:¬((ZhX s).toNat:Int)=63:=by omega
   simp [h2,this]
 ·have h':¬(1:Int)<((s.size:Nat):Int):=by omega
  simp [h',h]
theorem ZdQ (s:ByteArray):ZcP s=some (Ye s):=by
 unfold ZcP Ye ZvM
 by_cases h:1<s.size
 ·have h':(1:Int)<((s.size:Nat):Int):=by omega
  simp only [h',h,decide_true,if_true,ZiF (show 1≤s.size by omega),Option.bind_some,Bool.true_and]
  rw [Zh _ ⟨by omega,by omega⟩,show Int.toNat 1=1 from rfl,X1,Option.bind_some]
  by_cases h2:(ZhX s).toNat=63
  ·simp [h2]
  ·have:¬((ZhX s).toNat:Int)=63:=by omega
   simp [h2,this]
 ·have h':¬(1:Int)<((s.size:Nat):Int):=by omega
  simp [h',h]
def Yj (s:ByteArray):Bool:=ZQ s||Ye s
theorem Zj3 (s:ByteArray):QS s=some (Yj s):=by
 unfold QS Yj
 rw [X6,QW]
 cases ZQ s<;>simp
theorem Zkd (s:ByteArray):QI s=some (Yj s):=by
 unfold QI Yj
 rw [X1,ZdQ]
 cases ZQ s<;>simp
theorem YV (l:List ByteArray) (s:ByteArray):ZV l s=some (Yx l s):=by
 unfold ZV Yx
 rw [Zco (p:=fun x=>sEq x s) (r:=true)]
 ·cases l.any fun x=>sEq x s<;>simp
 ·intro i x _
  cases sEq x s<;>simp
theorem Q5 (l:List ByteArray) (s:ByteArray):Xc l s=some (Yx l s):=by
 unfold Xc Yx
 rw [Zco (p:=fun x=>sEq x s) (r:=true)]
 ·cases l.any fun x=>sEq x s<;>simp
 ·intro i x _
  cases sEq x s<;>simp
theorem Qb (l:List ByteArray) (s:ByteArray) (h:l.length+1≤1073741824):XO l s=some (Qh l s):=by
 unfold XO
 refine (Zal (fun l _ (st:List ByteArray × Bool)=>some (if st.2=true then st.1++l else st.1++Qh l s)) (fun l _ (st:List ByteArray × Bool)=>st.1.length+l.length+(if st.2=true then 0 else 1)≤1073741824) ?_ ?_ l 0 ([],false) (by simpa using h)).trans (by simp)
 ·rintro i ⟨row,d⟩ hI
  cases d with
  | true=>simp
  | false=>simp only [Bool.false_eq_true,if_false,Qh];simp at hI;rw [Zh _ (by omega)]
 ·rintro x l i ⟨row,d⟩ hI
  left
  cases d with
  | true=>
   simp at hI
   exact ⟨(row++[x],true),by simp only [if_true];rw [Zh _ (by omega)],by simp;omega,by simp⟩
  | false=>
   simp at hI
   cases h1:sLt x s with
   | true=>exact ⟨(row++[x],false),by simp only [Bool.false_eq_true,if_false,if_true];rw [Zh _ (by omega)],by simp;omega,by simp [Qh,h1]⟩
   | false=>
    cases h2:sEq x s with
    | true=>exact ⟨(row++[x],true),by simp only [Bool.false_eq_true,if_false,if_true];rw [Zh _ (by omega)],by simp;omega,by simp [Qh,h1,h2]⟩
    | false=>exact ⟨(row++[s]++[x],true),by simp only [Bool.false_eq_true,if_false];rw [Zh _ (by omega),Zh _ (by omega)],by simp;omega,by simp [Qh,h1,h2]⟩
def Xf:ByteArray→List ByteArray→List ByteArray
 | _,[]=>[]
 | y,x::r=>if sEq y x=true then Xf x r else x::Xf x r
def ZlV:List ByteArray→List ByteArray
 | []=>[]
 | x::r=>x::Xf x r
theorem Zfv {z:ByteArray}:∀{l:List ByteArray} {y:ByteArray},z∈Xf y l→z∈l
 | [],_,h=>by simp [Xf] at h
 | x::r,y,h=>by
  simp only [Xf] at h
  split at h
  ·exact List.mem_cons_of_mem _ (Zfv h)
  ·rcases List.mem_cons.1 h with rfl | h
   ·simp
   ·exact List.mem_cons_of_mem _ (Zfv h)
theorem Zjk {z:ByteArray}:∀{l:List ByteArray} {y:ByteArray},z∈l→z=y∨z∈Xf y l
 | [],_,h=>by simp at h
 | x::r,y,h=>by
  simp only [Xf]
  rcases List.mem_cons.1 h with rfl | h
  ·split
   ·rename_i e;exact .inl (ZO.1 e).symm
   ·simp
  ·rcases Zjk (y:=x) h with rfl | h'
   ·split
    ·rename_i e;exact .inl (ZO.1 e).symm
    ·simp
   ·split
    ·exact .inr h'
    ·exact .inr (List.mem_cons_of_mem _ h')
theorem Zi9:∀{l:List ByteArray} {y:ByteArray},(y::l).Pairwise (fun a b=>sLt b a=false)→Asc (y::Xf y l)
 | [],_,_=>by simp [Xf,Asc]
 | x::r,y,h=>by
  rw [List.pairwise_cons] at h
  have ih:=Zi9 h.2
  simp only [Xf]
  split
  ·rename_i e
   have e':=ZO.1 e
   subst e'
   exact ih
  ·rename_i e
   have hyx:sLt y x=true:=ZeS (h.1 x (by simp)) (fun h=>e (ZO.2 h.symm))
   refine List.pairwise_cons.2 ⟨fun z mz=>?_,ih⟩
   rcases List.mem_cons.1 mz with rfl | mz
   ·exact hyx
   ·exact Zfa hyx ((List.pairwise_cons.1 ih).1 z mz)
theorem ZoI (l:List ByteArray):ZlV (Ze2 l)=ZT l:=by
 have hs:=Zu8 l
 refine Zfi ?_ fun x=>?_
 ·cases h:Ze2 l with
  | nil=>simp [ZlV,Asc]
  | cons y r=>rw [h] at hs;exact Zi9 hs
 ·rw [←ZtE (l:=l)]
  cases h:Ze2 l with
  | nil=>simp [ZlV]
  | cons y r=>
   simp only [ZlV,List.mem_cons]
   constructor
   ·rintro (rfl | h)
    ·exact .inl rfl
    ·exact .inr (Zfv h)
   ·rintro (rfl | h)
    ·exact .inl rfl
    ·exact Zjk h
theorem XZ (l:List ByteArray) (h:l.length≤1073741824):Ym l=some (ZT l):=by
 unfold Ym
 rw [Zh _ h,Zcb,Zh _ (by omega),Option.bind_some]
 have hl:=ZuF l
 rw [←ZoI]
 generalize Ze2 l=v at hl
 refine (Zal (fun r i (row:List ByteArray)=>some (row++match i with | 0=>ZlV r | i+1=>(match v[i]? with | some y=>Xf y r | none=>[]))) (fun r i row=>v.drop i=r∧row.length≤i∧i≤v.length) ?_ ?_ v 0 [] ⟨by simp,by simp,by simp⟩).trans (by simp)
 ·rintro i row ⟨h1,h2,h3⟩
  cases i with
  | zero=>simp [ZlV]
  | succ i=>cases hv:v[i]?<;>simp [Xf,hv]
 ·rintro x r i row ⟨h1,h2,h3⟩
  left
  have hi:v[i]?=some x:=by have:=congrArg (fun l=>l[0]?) h1;simpa using this
  have hlt:i<v.length:=(List.getElem?_eq_some_iff.1 hi).1
  have hr:v.drop (i+1)=r:=by have:=congrArg List.tail h1;simpa using this
  cases i with
  | zero=>
   refine ⟨row++[x],?_,⟨hr,by simp at h2 ⊢;simp [h2],by omega⟩,?_⟩
   ·simp only [Int.natCast_zero,beq_self_eq_true,if_true]
    rw [Zh _ (by omega)]
   ·simp [ZlV,hi]
  | succ i=>
   have hw:IntKind.i64.wrap (((i+1:Nat):Int) - 1)=((i:Nat):Int):=by rw [YW (by omega) (by omega)];omega
   have hne:((((i+1:Nat):Int))==0)=false:=by rw [beq_eq_false_iff_ne];omega
   obtain ⟨y,hy⟩:∃y,v[i]?=some y:=⟨v[i],by simp⟩
   simp only [hne,Bool.false_eq_true,if_false,hw,Int.toNat_natCast,hy,Option.bind_some]
   cases he:sEq y x with
   | true=>
    refine ⟨row,?_,⟨hr,by omega,by omega⟩,?_⟩
    ·rw [Zh _ ⟨by omega,by omega⟩];rfl
    ·simp [Xf,he,hi]
   | false=>
    refine ⟨row++[x],?_,⟨hr,by simp;omega,by omega⟩,?_⟩
    ·rw [Zh _ ⟨by omega,by omega⟩]
     simp only [Bool.false_eq_true,if_false]
     rw [Zh _ (by omega)]
    ·simp [Xf,he,hi]
theorem Zf6 (l:List ByteArray) (h:l.length≤1073741824):Za6 l=some l:=by
 unfold Za6
 rw [Zh _ h]
theorem ZoP (l:List ByteArray) (h:l.length≤1073741824):Zfc l=some l:=by
 unfold Zfc
 rw [Zh _ h]
theorem Zmv {ρ:Type} {fin:List ByteArray→Option ρ} {body:Nat→ByteArray→List ByteArray→Option (List ByteArray ⊕ ρ)} (hb:∀j x s,body j x s=(XO s x).bind fun v=>some (.inl v)) {l acc:List ByteArray} (h:acc.length+l.length≤1073741824):Zo body fin l 0 acc=fin (l.foldl Qh acc):=by
 refine YM (f:=Qh) (fun j s=>s.length≤acc.length+j) (by omega) fun j x s mx hj hl hI=>?_
 have hp:=Zdx x s
 exact ⟨by rw [hb,Qb _ _ (by omega)];rfl,by omega⟩
end Go.Proofs.YtfehfkfdfmcgfaaGreatDoor
namespace Go.Proofs.YtfehfkfdfmcgfaaGreatDoor
theorem Zae {α σ ρ:Type} {body:Nat→α→σ→Option (σ ⊕ ρ)} {fin:σ→Option ρ} (st:List α→σ) (l:List α) (h:∀p x q,l=p++x::q→body p.length x (st p)=some (.inl (st (p++[x])))):Zo body fin l 0 (st [])=fin (st l):=by
 have key:∀(q p:List α),l=p++q→Zo body fin q p.length (st p)=fin (st l):=by
  intro q
  induction q with
  | nil=>intro p e;rw [ZlZ,e,List.append_nil]
  | cons x q ih=>
   intro p e
   rw [ZX (h p x q e)]
   have:=ih (p++[x]) (by rw [e];simp)
   simpa using this
 exact key l [] rfl
def Yb (f:Zb):Bool:=X9 f.rel&&decide (f.args.length≤3)&&f.args.all ZQ
theorem Zko (f:Zb):Ze7 f=some (Yb f):=by
 unfold Ze7 Yb
 rw [ZU (p:=ZQ) (r:=false)]
 ·rw [Zgv,Option.bind_some]
  cases X9 f.rel<;>cases h:f.args.all ZQ<;>simp<;>omega
 ·intro i x _
  rw [X6,Option.bind_some]
  cases ZQ x<;>rfl
theorem Zj8 (f:Zb):ZeG f=some (Yb f):=by
 unfold ZeG Yb
 rw [Zga,Option.bind_some]
 cases X9 f.rel with
 | false=>rfl
 | true=>
  rw [if_pos rfl]
  by_cases h:f.args.length≤3
  ·rw [if_neg (by simp;omega),ZU (p:=ZQ) (r:=false)]
   ·cases h2:f.args.all ZQ<;>simp [h]
   ·intro i x _
    rw [X1,Option.bind_some]
    cases ZQ x<;>rfl
  ·rw [if_pos (by simp;omega)]
   simp [h]
end Go.Proofs.YtfehfkfdfmcgfaaGreatDoor
namespace Go.Proofs.YtfehfkfdfmcgfaaGreatDoor
structure Znv {α:Type} (c:α→α→Int):Prop where
 eq:∀a b,c a b=0↔a=b
 anti:∀a b,c b a=- c a b
 tr:∀a b d,c a b<0→c b d<0→c a d<0
def Zh0 (a b:ByteArray):Int:=Lib.compareBytes (toL a) (toL b)
theorem ZhO:∀(x y:List UInt8),Lib.compareBytes x y=if Op.bytesLess x y=true then -1 else if x=y then 0 else 1
 | [],[]=>by simp [Lib.compareBytes,Op.bytesLess]
 | [],_::_=>by simp [Lib.compareBytes,Op.bytesLess]
 | _::_,[]=>by simp [Lib.compareBytes,Op.bytesLess]
 | a::x,b::y=>by
  have ih:=ZhO x y
  unfold Lib.compareBytes Op.bytesLess
  by_cases h1:a<b
  ·simp [h1]
  ·rw [if_neg h1]
   by_cases h2:b<a
   ·have h3:¬a=b:=fun e=>by rw [e] at h2;exact absurd h2 (UInt8.lt_irrefl _)
    rw [if_pos h2]
    simp [h1,h3]
   ·have h3:a=b:=by
     apply UInt8.toNat_inj.1
     rw [UInt8.lt_iff_toNat_lt] at h1 h2
     omega
    subst h3
    rw [if_neg h2,ih]
    simp [h1]
theorem Zho (a b:ByteArray):Zh0 a b=if sLt a b=true then -1 else if a=b then 0 else 1:=by
 unfold Zh0
 rw [ZhO]
 have h1:Op.bytesLess (toL a) (toL b)=sLt a b:=by unfold sLt toL;rw [ByteArray.toList_eq,ByteArray.toList_eq]
 rw [h1]
 by_cases h:a=b
 ·subst h;simp
 ·rw [if_neg h,if_neg (fun e=>h (Zfy e))]
theorem Zbl:Znv Zh0 where
 eq:=fun a b=>by
  rw [Zho]
  by_cases h:sLt a b=true
  ·simp [h,Zpt h]
  ·rw [if_neg h]
   by_cases h2:a=b<;>simp [h2]
 anti:=fun a b=>by
  rw [Zho,Zho]
  by_cases h:sLt a b=true
  ·have h2:=ZjA h
   have h3:=Zpt h
   rw [if_pos h,if_neg (by simp [h2]),if_neg (fun e=>h3 e.symm)];rfl
  ·rw [if_neg h]
   by_cases h2:a=b
   ·subst h2;rw [if_neg h];simp
   ·rw [if_pos (ZeS (by simpa using h) h2),if_neg h2]
 tr:=fun a b d h1 h2=>by
  have key:∀x y,Zh0 x y<0→sLt x y=true:=fun x y h=>by
   rw [Zho] at h
   by_cases hx:sLt x y=true
   ·exact hx
   ·rw [if_neg hx] at h;split at h<;>omega
  rw [Zho,if_pos (Zfa (key _ _ h1) (key _ _ h2))]
  omega
theorem Zl0 (a b:ByteArray):Zhp a b=some (Zh0 a b):=by
 unfold Zhp
 rw [Zho]
 by_cases h:sLt a b=true
 ·rw [if_pos h,if_pos h]
 ·rw [if_neg h,if_neg h]
  by_cases h2:a=b
  ·subst h2;rw [if_pos (by rw [ZuQ];simp),if_pos rfl]
  ·rw [if_neg (by simp only [Bool.or_eq_true,ZO];rintro (h3 | h3);exact h h3;exact h2 h3),if_neg h2]
theorem Ziy (a b:ByteArray):ZeP a b=some (Zh0 a b):=rfl
/- numbers -/
theorem Znn {u:Nat} {b:UInt8} (h:b∈Lib.decDigits u):48≤b.toNat∧b.toNat≤57:=by
 rw [Lib.decDigits_eq,List.mem_map] at h
 obtain ⟨t,_,rfl⟩:=h
 unfold Lib.dg
 have:u / 10 ^ (Lib.nDigits u - 1 - t) % 10<10:=Nat.mod_lt _ (by omega)
 rw [UInt8.toNat_ofNat']
 omega
def Qy (s:ByteArray):Option Nat:=
 if 1≤s.size∧s.size≤4 then (match Lib.decNat (toL s) with | some n=>if ofL (Lib.decDigits n)=s then some n else none | none=>none) else none
def ZdG (s:ByteArray):Int × Bool:=match Qy s with | some n=>((n:Int),true) | none=>(0,false)
theorem ZjB {s:ByteArray} {n:Nat} (h:Qy s=some n):s=ofL (Lib.decDigits n)∧n≤9999:=by
 unfold Qy at h
 split at h
 ·rename_i hs
  split at h
  ·split at h
   ·rename_i m _ he
    obtain rfl:=Option.some.inj h
    refine ⟨he.symm,?_⟩
    have hl:Lib.nDigits m≤4:=by
     have:=congrArg ByteArray.size he
     rw [ZgD,Lib.decDigits_length] at this
     omega
    have:=Lib.lt_pow_nDigits m
    have h2:10 ^ Lib.nDigits m≤10 ^ 4:=Nat.pow_le_pow_right (by omega) hl
    omega
   ·simp at h
  ·simp at h
 ·simp at h
theorem Zv7 {a b:ByteArray} {n:Nat} (h1:Qy a=some n) (h2:Qy b=some n):a=b:=(ZjB h1).1.trans (ZjB h2).1.symm
theorem ZrE {body:Nat→UInt8→Int→Option (Int ⊕ (Int × Bool))} {fin:Int→Option (Int × Bool)}
  (hb:∀i (x:UInt8) n,body i x n=if (decide (((x.toNat:Nat):Int)<48))=true then some (.inr (0,false)) else if (decide (57<((x.toNat:Nat):Int)))=true then some (.inr (0,false)) else some (.inl (IntKind.i64.wrap ((IntKind.i64.wrap (10 * n))+IntKind.i64.wrap (IntKind.u8.wrap (((x.toNat:Nat):Int) - 48)))))):
  ∀(l:List UInt8) (i acc:Nat),(acc+1) * 10 ^ l.length≤100000→Zo body fin l i (acc:Int)=match Lib.decFrom acc l with | some n=>fin (n:Int) | none=>some (0,false)
 | [],i,acc,_=>rfl
 | x::l,i,acc,h=>by
  unfold Lib.decFrom Lib.digitVal
  by_cases h1:48≤x.toNat∧x.toNat≤57
  ·have e:body i x (acc:Int)=some (.inl ((acc * 10+(x.toNat - 48):Nat):Int)):=by
    have hp:1≤10 ^ (x::l).length:=Nat.one_le_pow _ _ (by omega)
    have h2:acc+1≤100000:=Nat.le_trans (Nat.le_mul_of_pos_right _ hp) h
    rw [hb,if_neg (by simp;omega),if_neg (by simp;omega),Zd9 (n:=10 * (acc:Int)) (by omega) (by omega),IntKind.wrap_u8,Zd9 (n:=(((x.toNat:Nat):Int) - 48) % 256) (by omega) (by omega),Zd9 (by omega) (by omega)]
    congr 2
    omega
   rw [ZX e,if_pos h1]
   refine ZrE hb l (i+1) _ ?_
   rw [List.length_cons,Nat.pow_succ] at h
   refine Nat.le_trans ?_ h
   rw [show (acc+1) * (10 ^ l.length * 10)=((acc+1) * 10) * 10 ^ l.length by rw [Nat.mul_assoc,Nat.mul_comm 10]]
   exact Nat.mul_le_mul_right _ (by omega)
  ·have e:body i x (acc:Int)=some (.inr (0,false)):=by
    rw [hb]
    by_cases h2:x.toNat<48
    ·rw [if_pos (by simp;omega)]
    ·rw [if_neg (by simp;omega),if_pos (by simp;omega)]
   rw [Yi e,if_neg h1]
theorem ZuV (n a b:Int):X7 n a b=some (decide (a≤n)&&decide (n≤b)):=by
 unfold X7
 by_cases h:a≤n<;>simp [h]
theorem Zap (s:ByteArray):Qe s=some (ZdG s):=by
 unfold Qe ZdG Qy
 rw [ZuV,Option.bind_some]
 by_cases hs:1≤s.size∧s.size≤4
 ·rw [if_pos (by simp;omega),if_pos hs]
  have hl:s.data.toList.length=s.size:=ZcW s
  refine (ZrE (fun _ _ _=>rfl) s.data.toList 0 0 (by
   rw [hl,Nat.zero_add,Nat.one_mul]
   exact Nat.le_trans (Nat.pow_le_pow_right (by omega) hs.2) (by omega))).trans ?_
  have hd:Lib.decNat (toL s)=Lib.decFrom 0 s.data.toList:=by
   unfold Lib.decNat
   rw [if_neg]
   ·rfl
   ·intro e
    have:=ZcW s
    rw [List.isEmpty_iff.1 e] at this
    simp at this;omega
  rw [hd]
  cases hv:Lib.decFrom 0 s.data.toList with
  | none=>rfl
  | some n=>
   have hb:n<1000000000000000000:=Lib.decFrom_lt18 hv (by omega)
   show (X3 ((n:Nat):Int)).bind _=_
   rw [Zf5 ⟨by omega,by omega⟩,Option.bind_some,Lib.itoa_nonneg]
   by_cases he:ofL (Lib.decDigits n)=s
   ·rw [if_pos (ZO.2 he)]
    simp only [he,if_true]
   ·rw [if_neg (by rw [ZO];exact he)]
    simp only [he,if_false]
 ·rw [if_neg (by simp;omega),if_neg hs]
theorem Zvc {b:UInt8} {r:List UInt8} (h:b=45∨b=43):Lib.decNat (b::r)=none:=by
 rcases h with rfl | rfl<;>simp [Lib.decNat,Lib.decFrom,Lib.digitVal]
theorem ZnU {s:ByteArray} (h:Lib.decNat (toL s)=none):Qy s=none:=by
 unfold Qy
 rw [h]
 split<;>rfl
theorem Zb7 (s:ByteArray):QE s=some (ZdG s):=by
 unfold QE
 by_cases h1:s.size<1
 ·rw [if_pos (by simp;omega)]
  unfold ZdG Qy
  rw [if_neg (by omega)]
 by_cases h2:4<s.size
 ·rw [if_neg (by simp;omega),if_pos (by simp;omega)]
  unfold ZdG Qy
  rw [if_neg (by omega)]
 rw [if_neg (by simp;omega),if_neg (by simp;omega)]
 have hl:=ZcW s
 have hx:Zl4 s=some (match Lib.atoi (toL s) with | some n=>(n,true) | none=>(0,false)):=by
  unfold Zl4
  exact Zh _ (by omega)
 rw [hx,Option.bind_some]
 cases hL:toL s with
 | nil=>rw [hL] at hl;simp at hl;omega
 | cons b r=>
  have sgn:b=45∨b=43→ZdG s=(0,false):=fun h=>by
   unfold ZdG
   rw [ZnU (by rw [hL];exact Zvc h)]
  have bad:∀m,(b=45∨b=43)→¬ofL (Lib.decDigits m)=s:=fun m h e=>by
   have hm:b∈Lib.decDigits m:=by
    have:toL s=Lib.decDigits m:=by rw [←e,Zb2]
    rw [←this,hL];simp
   have:=Znn hm
   rcases h with rfl | rfl<;>simp at this
  by_cases hb1:b=45
  ·rw [sgn (.inl hb1)]
   cases hd:Lib.decNat r with
   | none=>simp [Lib.atoi,hb1,hd]
   | some m=>
    have e:Lib.atoi (b::r)=some (-(m:Int)):=by simp [Lib.atoi,hb1,hd]
    rw [e]
    simp only [if_true]
    by_cases hm:m=0
    ·subst hm
     rw [if_neg (by simp),if_neg (by simp)]
     show (Za4 ((0:Nat):Int)).bind _=_
     rw [ZdI ⟨by omega,by omega⟩,Option.bind_some,Lib.itoa_nonneg,if_neg (by rw [ZO];exact bad 0 (.inl hb1))]
    ·rw [if_pos (by simp;omega)]
  ·by_cases hb2:b=43
   ·rw [sgn (.inr hb2)]
    cases hd:Lib.decNat r with
    | none=>simp [Lib.atoi,hb2,hd]
    | some m=>
     have e:Lib.atoi (b::r)=some (m:Int):=by simp [Lib.atoi,hb2,hd]
     rw [e]
     simp only [if_true]
     rw [if_neg (by simp)]
     by_cases hm:9999<m
     ·rw [if_pos (by simp;omega)]
     ·rw [if_neg (by simp;omega),ZdI ⟨by omega,by omega⟩,Option.bind_some,Lib.itoa_nonneg,if_neg (by rw [ZO];exact bad m (.inr hb2))]
   ·have e:Lib.atoi (b::r)=(Lib.decNat (b::r)).map fun (m:Nat)=>(m:Int):=by simp [Lib.atoi,hb1,hb2]
    rw [e]
    cases hd:Lib.decNat (b::r) with
    | none=>
     unfold ZdG
     rw [ZnU (by rw [hL];exact hd)]
     rfl
    | some m=>
     simp only [Option.map_some,if_true]
     rw [if_neg (by simp)]
     have hn:Qy s=if ofL (Lib.decDigits m)=s then some m else none:=by
      unfold Qy
      rw [if_pos (by omega),hL,hd]
     by_cases hm:9999<m
     ·rw [if_pos (by simp;omega)]
      have:Qy s=none:=by
       cases hq:Qy s with
       | none=>rfl
       | some n=>
        have h3:=(ZjB hq).2
        rw [hn] at hq
        split at hq
        ·obtain rfl:=Option.some.inj hq;omega
        ·simp at hq
      unfold ZdG
      rw [this]
     ·rw [if_neg (by simp;omega),ZdI ⟨by omega,by omega⟩,Option.bind_some,Lib.itoa_nonneg]
      unfold ZdG
      rw [hn]
      by_cases he:ofL (Lib.decDigits m)=s
      ·rw [if_pos (ZO.2 he),if_pos he]
      ·rw [if_neg (by rw [ZO];exact he),if_neg he]
def ZkE (x y:Nat):Int:=if x<y then -1 else if y<x then 1 else 0
theorem Zpy:Znv ZkE where
 eq:=fun a b=>by unfold ZkE;split<;>(try split)<;>omega
 anti:=fun a b=>by unfold ZkE;split<;>(try split)<;>(try split)<;>omega
 tr:=fun a b d h1 h2=>by
  unfold ZkE at *
  split at h1
  ·split at h2
   ·rw [if_pos (by omega)];omega
   ·split at h2<;>omega
  ·split at h1<;>omega
def ZfX (a b:ByteArray):Int:=
 match Qy a,Qy b with
 | some x,some y=>ZkE x y
 | some _,none=>-1
 | none,some _=>1
 | none,none=>Zh0 a b
theorem ZoM:Znv ZfX where
 eq:=fun a b=>by
  unfold ZfX
  cases ha:Qy a with
  | none=>
   cases hb:Qy b with
   | none=>exact Zbl.eq a b
   | some y=>simp only;exact ⟨fun h=>by omega,fun h=>by rw [h,hb] at ha;simp at ha⟩
  | some x=>
   cases hb:Qy b with
   | none=>simp only;exact ⟨fun h=>by omega,fun h=>by rw [h,hb] at ha;simp at ha⟩
   | some y=>
    simp only
    rw [Zpy.eq]
    exact ⟨fun h=>Zv7 ha (h ▸ hb),fun h=>by rw [h,hb] at ha;exact (Option.some.inj ha).symm⟩
 anti:=fun a b=>by
  unfold ZfX
  cases Qy a<;>cases Qy b<;>simp only
  ·exact Zbl.anti a b
  ·rfl
  ·exact Zpy.anti _ _
 tr:=fun a b d h1 h2=>by
  unfold ZfX at *
  cases ha:Qy a<;>cases hb:Qy b<;>cases hd:Qy d<;>simp only [ha,hb,hd] at h1 h2 ⊢<;>first | omega | exact Zbl.tr a b d h1 h2 | exact Zpy.tr _ _ _ h1 h2
theorem ZbF (x y:Nat):XG (x:Int) (y:Int)=some (ZkE x y):=by
 unfold XG ZkE
 by_cases h1:x<y
 ·rw [if_pos (by simpa using h1),if_pos h1]
 ·rw [if_neg (by simpa using h1),if_neg h1]
  by_cases h2:y<x
  ·rw [if_pos (by simpa using h2),if_pos h2]
  ·rw [if_neg (by simpa using h2),if_neg h2]
theorem Zec (a b:ByteArray):Xd a b=some (ZfX a b):=by
 unfold Xd ZfX
 rw [Zap,Option.bind_some,Zap,Option.bind_some]
 unfold ZdG
 cases Qy a with
 | none=>
  cases Qy b with
  | none=>simp only [Bool.false_eq_true,if_false];rw [Zl0];rfl
  | some y=>rfl
 | some x=>
  cases Qy b with
  | none=>rfl
  | some y=>
   simp only [if_true]
   unfold ZkE
   by_cases h1:x<y
   ·rw [if_pos (by simpa using h1),if_pos h1]
   ·rw [if_neg (by simpa using h1),if_neg h1]
    by_cases h2:y<x
    ·rw [if_pos (by simpa using h2),if_pos h2]
    ·rw [if_neg (by simpa using h2),if_neg h2]
theorem ZiW (a b:ByteArray):QV a b=some (ZfX a b):=by
 unfold QV ZfX
 rw [Zb7,Option.bind_some,Zb7,Option.bind_some]
 unfold ZdG
 cases Qy a with
 | none=>
  cases Qy b with
  | none=>simp only [Bool.false_eq_true,if_false];rw [Ziy];rfl
  | some y=>rfl
 | some x=>
  cases Qy b with
  | none=>rfl
  | some y=>simp only [if_true];rw [ZbF];rfl
def Zg2 {α:Type} (c:α→α→Int):List α→List α→Int
 | [],[]=>0
 | [],_::_=>-1
 | _::_,[]=>1
 | x::l,y::r=>if c x y=0 then Zg2 c l r else c x y
theorem Zpn {α:Type} {c:α→α→Int} (h:Znv c):Znv (Zg2 c) where
 eq:=fun a=>by
  induction a with
  | nil=>intro b;cases b<;>simp [Zg2]
  | cons x l ih=>
   intro b
   cases b with
   | nil=>simp [Zg2]
   | cons y r=>
    simp only [Zg2]
    by_cases hx:c x y=0
    ·rw [if_pos hx,ih,(h.eq x y).1 hx];simp
    ·rw [if_neg hx]
     exact ⟨fun e=>absurd e hx,fun e=>absurd ((h.eq x y).2 (by simp at e;exact e.1)) hx⟩
 anti:=fun a=>by
  induction a with
  | nil=>intro b;cases b<;>simp [Zg2]
  | cons x l ih=>
   intro b
   cases b with
   | nil=>simp [Zg2]
   | cons y r=>
    simp only [Zg2]
    have hy:=h.anti x y
    by_cases hx:c x y=0
    ·rw [if_pos hx,if_pos (by omega),ih]
    ·rw [if_neg hx,if_neg (by omega),hy]
 tr:=fun a=>by
  induction a with
  | nil=>
   intro b d h1 h2
   cases b with
   | nil=>simp [Zg2] at h1
   | cons y r=>cases d with
    | nil=>simp [Zg2] at h2
    | cons z q=>simp [Zg2]
  | cons x l ih=>
   intro b d h1 h2
   cases b with
   | nil=>simp [Zg2] at h1
   | cons y r=>cases d with
    | nil=>simp [Zg2] at h2
    | cons z q=>
     simp only [Zg2] at h1 h2 ⊢
     by_cases hx:c x y=0
     ·rw [if_pos hx] at h1
      obtain rfl:=(h.eq x y).1 hx
      by_cases hz:c x z=0
      ·rw [if_pos hz] at h2 ⊢;exact ih r q h1 h2
      ·rw [if_neg hz] at h2 ⊢;exact h2
     ·rw [if_neg hx] at h1
      by_cases hz:c y z=0
      ·obtain rfl:=(h.eq y z).1 hz
       rw [if_neg hx];exact h1
      ·rw [if_neg hz] at h2
       have:=h.tr x y z h1 h2
       rw [if_neg (by omega)];exact this
def ZbB (a b:Zb):Int:=if Zh0 a.rel b.rel=0 then Zg2 ZfX a.args b.args else Zh0 a.rel b.rel
theorem Zrp {a b:Zb} (h1:a.rel=b.rel) (h2:a.args=b.args):a=b:=by cases a;cases b;simp_all
theorem ZcQ:Znv ZbB where
 eq:=fun a b=>by
  unfold ZbB
  by_cases h:Zh0 a.rel b.rel=0
  ·rw [if_pos h,(Zpn ZoM).eq]
   exact ⟨fun e=>Zrp ((Zbl.eq _ _).1 h) e,fun e=>by rw [e]⟩
  ·rw [if_neg h]
   exact ⟨fun e=>absurd e h,fun e=>absurd ((Zbl.eq _ _).2 (by rw [e])) h⟩
 anti:=fun a b=>by
  unfold ZbB
  have hy:=Zbl.anti a.rel b.rel
  by_cases h:Zh0 a.rel b.rel=0
  ·rw [if_pos h,if_pos (by omega),(Zpn ZoM).anti]
  ·rw [if_neg h,if_neg (by omega),hy]
 tr:=fun a b d h1 h2=>by
  unfold ZbB at *
  by_cases hx:Zh0 a.rel b.rel=0
  ·rw [if_pos hx] at h1
   have e:=(Zbl.eq _ _).1 hx
   rw [e]
   by_cases hz:Zh0 b.rel d.rel=0
   ·rw [if_pos hz] at h2 ⊢;exact (Zpn ZoM).tr _ _ _ h1 h2
   ·rw [if_neg hz] at h2 ⊢;exact h2
  ·rw [if_neg hx] at h1
   by_cases hz:Zh0 b.rel d.rel=0
   ·rw [←(Zbl.eq _ _).1 hz,if_neg hx];exact h1
   ·rw [if_neg hz] at h2
    have:=Zbl.tr _ _ _ h1 h2
    rw [if_neg (by omega)];exact this
theorem Zav {α:Type} (l:List α) (i:Nat):atI l (i:Int)=l[i]?:=by unfold atI;rw [if_pos (by omega),Int.toNat_natCast]
theorem ZjN {A B:List ByteArray} {body:Nat→ByteArray→Unit→Option (Unit ⊕ Int)} {fin:Unit→Option Int}
  (hlt:∀i x y,B[i]?=some y→body i x ()=if ZfX x y=0 then some (.inl ()) else some (.inr (ZfX x y))) (hge:∀x,B.length<A.length→body B.length x ()=some (.inr 1)) (hfin:A.length≤B.length→fin ()=some (if A.length<B.length then -1 else 0)):
  ∀(l:List ByteArray) (i:Nat),i+l.length=A.length→i≤B.length→Zo body fin l i ()=some (Zg2 ZfX l (B.drop i))
 | [],i,h,hi=>by
  simp at h
  rw [ZlZ,hfin (by omega)]
  by_cases hb:A.length<B.length
  ·rw [if_pos hb]
   cases hd:B.drop i with
   | nil=>have:=congrArg List.length hd;simp at this;omega
   | cons y r=>rfl
  ·rw [if_neg hb,List.drop_eq_nil_of_le (by omega)]
   rfl
 | x::l,i,h,hi=>by
  simp only [List.length_cons] at h
  by_cases hb:i<B.length
  ·have hy:B[i]?=some B[i]:=List.getElem?_eq_getElem hb
   rw [List.drop_eq_getElem_cons hb]
   simp only [Zg2]
   by_cases hc:ZfX x B[i]=0
   ·rw [ZX (by rw [hlt i x _ hy,if_pos hc]),if_pos hc]
    exact ZjN hlt hge hfin l (i+1) (by omega) (by omega)
   ·rw [Yi (by rw [hlt i x _ hy,if_neg hc]),if_neg hc]
  ·obtain rfl:i=B.length:=by omega
   rw [Yi (hge x (by omega)),List.drop_eq_nil_of_le (Nat.le_refl _)]
   rfl
theorem Zbo (a b:Zb):Yn a b=some (ZbB a b):=by
 unfold Yn ZbB
 by_cases h:a.rel=b.rel
 ·rw [if_pos (ZO.2 h),if_pos ((Zbl.eq _ _).2 h)]
  refine ZjN (A:=a.args) (B:=b.args) (fun i x y hy=>?_) (fun x hx=>?_) (fun hx=>?_) a.args 0 (by simp) (Nat.zero_le _)
  ·have hi:=(List.getElem?_eq_some_iff.1 hy).1
   rw [if_pos (by simpa using hi),Zav,hy,Option.bind_some,Zec,Option.bind_some]
   by_cases hc:ZfX x y=0
   ·rw [hc];rfl
   ·rw [if_pos (by simpa using hc),if_neg hc]
  ·rw [if_neg (by simp),if_neg (by simp;omega),if_pos (by simpa using hx)]
  ·by_cases h2:a.args.length<b.args.length
   ·rw [if_pos (by simpa using h2),if_pos h2]
   ·rw [if_neg (by simpa using h2),if_neg (by simp;omega),if_neg h2]
 ·rw [if_neg (by rw [ZO];exact h),if_neg (fun e=>h ((Zbl.eq _ _).1 e)),Zl0]
  rfl
theorem Zeb (a b:Zb):XV a b=some (ZbB a b):=by
 unfold XV ZbB
 rw [Ziy,Option.bind_some]
 by_cases h:Zh0 a.rel b.rel=0
 ·rw [if_neg (by simpa using h),if_pos h]
  refine ZjN (A:=a.args) (B:=b.args) (fun i x y hy=>?_) (fun x hx=>?_) (fun hx=>?_) a.args 0 (by simp) (Nat.zero_le _)
  ·have hi:=(List.getElem?_eq_some_iff.1 hy).1
   rw [if_pos (by simpa using hi),Zav,hy,Option.bind_some,ZiW,Option.bind_some]
   by_cases hc:ZfX x y=0
   ·rw [hc];rfl
   ·rw [if_pos (by simpa using hc),if_neg hc]
  ·rw [if_neg (by simp),ZbF]
   unfold ZkE
   rw [if_neg (by omega),if_pos hx]
   rfl
  ·rw [ZbF]
   unfold ZkE
   by_cases h2:a.args.length<b.args.length
   ·rw [if_pos h2,if_pos h2];rfl
   ·rw [if_neg h2,if_neg (by omega),if_neg h2];rfl
 ·rw [if_pos (by simpa using h),if_neg h]
end Go.Proofs.YtfehfkfdfmcgfaaGreatDoor
namespace Go.Proofs.YtfehfkfdfmcgfaaGreatDoor
theorem Xb (f:Zb) (h:f.args.length≤1048576):Xj f=some f:=by
 unfold Xj
 rw [ZoP _ (by omega)]
 rfl
theorem YN (f:Zb) (h:f.args.length≤1048576):YA f=some f:=by
 unfold YA
 rw [Zf6 _ (by omega)]
 rfl
theorem Zlm {B:List ByteArray} {body:Nat→ByteArray→Unit→Option (Unit ⊕ Bool)} (hb:∀i x y,B[i]?=some y→body i x ()=if x=y then some (.inl ()) else some (.inr false)):
  ∀(l:List ByteArray) (i:Nat),i+l.length=B.length→Zo body (fun _=>some true) l i ()=some (decide (l=B.drop i))
 | [],i,h=>by
  simp at h
  rw [ZlZ,List.drop_eq_nil_of_le (by omega)]
  simp
 | x::l,i,h=>by
  simp only [List.length_cons] at h
  have hi:i<B.length:=by omega
  have hd:(x::l=B.drop i)↔(x=B[i]∧l=B.drop (i+1)):=by rw [List.drop_eq_getElem_cons hi,List.cons.injEq]
  rw [Bool.eq_iff_iff.2 (show decide (x::l=B.drop i)=true↔decide (x=B[i]∧l=B.drop (i+1))=true by rw [decide_eq_true_iff,decide_eq_true_iff];exact hd)]
  by_cases hx:x=B[i]
  ·rw [ZX (by rw [hb i x _ (List.getElem?_eq_getElem hi),if_pos hx]),Zlm hb l (i+1) (by omega)]
   simp [hx]
  ·rw [Yi (by rw [hb i x _ (List.getElem?_eq_getElem hi),if_neg hx])]
   simp [hx]
theorem ZlQ (a b:List ByteArray):Zct a b=some (decide (a=b)):=by
 unfold Zct
 by_cases h:a.length=b.length
 ·rw [if_neg (by simp;omega)]
  have:=Zlm (B:=b) (body:=fun i6 x7 _=>(atI b ((i6:Nat):Int)).bind fun x8=>if (sEq x7 x8)=true then some (.inl ()) else some (.inr false)) (fun i x y hy=>by
   show (atI b ((i:Nat):Int)).bind _=_
   rw [Zav,hy,Option.bind_some]
   by_cases hx:x=y
   ·rw [if_pos (ZO.2 hx),if_pos hx]
   ·rw [if_neg (by rw [ZO];exact hx),if_neg hx]) a 0 (by omega)
  simpa using this
 ·rw [if_pos (by simp;omega),decide_eq_false (fun e=>h (by rw [e]))]
open Classical
theorem Zb4 (a b:Zb):ZbR a b=some (decide (a=b)):=by
 unfold ZbR
 by_cases h:a.rel=b.rel
 ·rw [if_pos (ZO.2 h),ZlQ,Option.bind_some]
  congr 1
  rw [Bool.eq_iff_iff,decide_eq_true_iff,decide_eq_true_iff]
  exact ⟨fun e=>Zrp h e,fun e=>by rw [e]⟩
 ·rw [if_neg (by rw [ZO];exact h),decide_eq_false (fun e=>h (by rw [e]))]
theorem ZhG (l:List Zb) (f:Zb):∃z,Yc l f=some z∧(z<0↔f∉l):=by
 unfold Yc
 have key:∀(l:List Zb) (i:Nat),∃z,Zo (σ:=Unit) (fun (i6:Nat) (x7:Zb) _=>(ZbR x7 f).bind fun v8=>if v8=true then some (.inr ((i6:Nat):Int)) else some (.inl ())) (fun _=>some (-1)) l i ()=some z∧(z<0↔f∉l):=by
  intro l
  induction l with
  | nil=>intro i;exact ⟨-1,rfl,by simp⟩
  | cons x l ih=>
   intro i
   by_cases hx:x=f
   ·refine ⟨(i:Int),Yi (by rw [Zb4,Option.bind_some,if_pos (decide_eq_true hx)]),by simp [hx]⟩
   ·obtain ⟨z,e,hz⟩:=ih (i+1)
    refine ⟨z,(ZX (by rw [Zb4,Option.bind_some,if_neg (by simpa using hx)])).trans e,?_⟩
    rw [hz,List.mem_cons]
    exact ⟨fun h=>by rintro (h1 | h1);exact hx h1.symm;exact h h1,fun h h1=>h (.inr h1)⟩
 exact key l 0
def Zd6:List Zb→Zb→List Zb
 | [],f=>[f]
 | x::l,f=>if ZbB x f<0 then x::Zd6 l f else if ZbB x f=0 then x::l else f::x::l
def Zg3 (l:List Zb):Prop:=l.Pairwise fun x y=>ZbB x y<0
theorem QP {y f:Zb}:∀{l:List Zb},y∈Zd6 l f↔y=f∨y∈l
 | []=>by simp [Zd6]
 | x::l=>by
  simp only [Zd6]
  split
  ·rw [List.mem_cons,QP,List.mem_cons]
   exact ⟨fun h=>by rcases h with h | h | h<;>simp [h],fun h=>by rcases h with h | h | h<;>simp [h]⟩
  ·split
   ·rename_i h
    have e:=(ZcQ.eq _ _).1 h
    rw [List.mem_cons,e]
    exact ⟨fun h=>by rcases h with h | h<;>simp [h],fun h=>by rcases h with h | h | h<;>simp [h]⟩
   ·rw [List.mem_cons]
theorem Zmb (f:Zb):∀l:List Zb,(Zd6 l f).length≤l.length+1
 | []=>by simp [Zd6]
 | x::l=>by
  have:=Zmb f l
  simp only [Zd6]
  split
  ·simp;omega
  ·split<;>simp
theorem ZpV {f:Zb}:∀{l:List Zb},Zg3 l→Zg3 (Zd6 l f)
 | [],_=>by simp [Zd6,Zg3]
 | x::l,h=>by
  unfold Zg3 at *
  rw [List.pairwise_cons] at h
  simp only [Zd6]
  split
  ·rename_i hx
   rw [List.pairwise_cons]
   refine ⟨fun y my=>?_,ZpV h.2⟩
   rcases QP.1 my with rfl | my
   ·exact hx
   ·exact h.1 y my
  ·rename_i hx
   split
   ·rw [List.pairwise_cons];exact h
   ·rename_i h0
    have hfx:ZbB f x<0:=by rw [ZcQ.anti x f];omega
    rw [List.pairwise_cons,List.pairwise_cons]
    refine ⟨fun y my=>?_,h⟩
    rcases List.mem_cons.1 my with rfl | my
    ·exact hfx
    ·exact ZcQ.tr _ _ _ hfx (h.1 y my)
theorem ZlP (l:List Zb) (f:Zb) (hl:l.length≤1048576) (ha:∀x∈l,x.args.length≤1048576) (hf:f.args.length≤1048576):YX l f=some (Zd6 l f):=by
 unfold YX
 rw [Zal (fun l _ s=>some (s.1++(if s.2=true then l else Zd6 l f))) (fun l _ s=>s.1.length+2 * l.length+1≤4000000∧∀x∈l,x.args.length≤1048576) ?_ ?_ l 0 ([],false) ⟨by simp;omega,ha⟩]
 ·simp
 ·rintro i ⟨row,done⟩ ⟨h1,_⟩
  cases done with
  | true=>simp
  | false=>
   simp only [Bool.false_eq_true,if_false]
   simp only [List.length_nil] at h1
   rw [Xb f hf,Option.bind_some,Zh _ (by omega)]
   rfl
 ·rintro x l i ⟨row,done⟩ ⟨h1,h2⟩
  simp only [List.length_cons] at h1
  have hx:=h2 x (by simp)
  left
  cases done with
  | true=>
   simp only [if_true]
   rw [Xb x hx,Option.bind_some,Zh _ (by omega)]
   exact ⟨_,rfl,⟨by simp;omega,fun y my=>h2 y (by simp [my])⟩,by simp⟩
  | false=>
   simp only [Bool.false_eq_true,if_false]
   rw [Zbo,Option.bind_some]
   by_cases hlt:ZbB x f<0
   ·rw [if_neg (by simp;omega),Xb x hx,Option.bind_some,Zh _ (by omega)]
    exact ⟨_,rfl,⟨by simp;omega,fun y my=>h2 y (by simp [my])⟩,by simp [Zd6,hlt]⟩
   ·rw [if_pos (by simp;omega),Option.bind_some]
    by_cases h0:ZbB x f=0
    ·rw [if_neg (by simp;omega),Xb x hx,Option.bind_some,Zh _ (by omega)]
     exact ⟨_,rfl,⟨by simp;omega,fun y my=>h2 y (by simp [my])⟩,by simp [Zd6,h0]⟩
    ·rw [if_pos (by simp;omega),Xb f hf,Option.bind_some,Zh _ (by omega),Xb x hx,Option.bind_some,Zh _ (by omega)]
     exact ⟨_,rfl,⟨by simp;omega,fun y my=>h2 y (by simp [my])⟩,by simp [Zd6,h0,hlt]⟩
theorem Zpe (l:List Zb) (f:Zb) (hn:f∉l) (hl:l.length≤1048576) (ha:∀x∈l,x.args.length≤1048576) (hf:f.args.length≤1048576):XW l f=some (Zd6 l f):=by
 unfold XW
 rw [Zal (fun l _ s=>some (s.1++(if s.2=true then l else Zd6 l f))) (fun l _ s=>s.1.length+2 * l.length+1≤4000000∧f∉l∧∀x∈l,x.args.length≤1048576) ?_ ?_ l 0 ([],false) ⟨by simp;omega,hn,ha⟩]
 ·simp
 ·rintro i ⟨row,done⟩ ⟨h1,_⟩
  cases done with
  | true=>simp
  | false=>
   simp only [Bool.false_eq_true,if_false]
   simp only [List.length_nil] at h1
   rw [YN f hf,Option.bind_some,Zh _ (by omega)]
   rfl
 ·rintro x l i ⟨row,done⟩ ⟨h1,h3,h2⟩
  simp only [List.length_cons] at h1
  have hx:=h2 x (by simp)
  have h3':f∉l:=fun m=>h3 (by simp [m])
  left
  cases done with
  | true=>
   simp only [if_true]
   rw [YN x hx,Option.bind_some,Zh _ (by omega)]
   exact ⟨_,rfl,⟨by simp;omega,h3',fun y my=>h2 y (by simp [my])⟩,by simp⟩
  | false=>
   simp only [Bool.false_eq_true,if_false]
   rw [Zeb,Option.bind_some]
   have h0:¬ZbB x f=0:=fun e=>h3 (by rw [(ZcQ.eq _ _).1 e];simp)
   by_cases hlt:ZbB x f<0
   ·rw [if_neg (by simp;omega),YN x hx,Option.bind_some,Zh _ (by omega)]
    exact ⟨_,rfl,⟨by simp;omega,h3',fun y my=>h2 y (by simp [my])⟩,by simp [Zd6,hlt]⟩
   ·rw [if_pos (by simp;omega),YN f hf,Option.bind_some,Zh _ (by omega),YN x hx,Option.bind_some,Zh _ (by omega)]
    exact ⟨_,rfl,⟨by simp;omega,h3',fun y my=>h2 y (by simp [my])⟩,by simp [Zd6,h0,hlt]⟩
end Go.Proofs.YtfehfkfdfmcgfaaGreatDoor
namespace Go.Proofs.YtfehfkfdfmcgfaaGreatDoor
def ZR (p:Zv):Bool:=X9 p.rel&&decide (p.args.length≤3)&&p.args.all Yj
theorem QK (p:Zv):YS p=some (ZR p):=by
 unfold YS ZR
 rw [ZU (p:=Yj) (r:=false)]
 ·simp only [Zgv,Option.bind_some]
  have:decide (((p.args.length:Nat):Int)≤3)=decide (p.args.length≤3):=by rw [Bool.eq_iff_iff];simp only [decide_eq_true_eq];omega
  rw [this]
  cases p.args.all Yj<;>cases X9 p.rel<;>simp
 ·intro i x _
  rw [Zj3]
  cases Yj x<;>simp
theorem Zbe (p:Zv):Y9 p=some (ZR p):=by
 unfold Y9 ZR
 rw [Zga,ZU (p:=Yj) (r:=false)]
 ·by_cases h:p.args.length≤3
  ·have h':¬(3:Int)<((p.args.length:Nat):Int):=by omega
   cases p.args.all Yj<;>cases X9 p.rel<;>simp [h,h']
  ·have h':(3:Int)<((p.args.length:Nat):Int):=by omega
   cases X9 p.rel<;>simp [h,h']
 ·intro i x _
  rw [Zkd]
  cases Yj x<;>simp
def Y3 (p:Zv):Bool:=sEq p.rel ⟨#[]⟩&&decide (p.args.length=0)
theorem Zud {α:Type} (l:List α):((((l.length:Nat):Int))==0)=decide (l.length=0):=by
 rw [Bool.eq_iff_iff,beq_iff_eq,decide_eq_true_eq];omega
theorem ZeC (p:Zv):Y8 p=some (Y3 p):=by
 unfold Y8 Y3
 rw [Zud]
 cases sEq p.rel ⟨#[]⟩<;>simp
def Yk (x:Zt):Bool:=
 if x.kind=1∨x.kind=2 then ZR x.pattern&&sEq x.left ⟨#[]⟩&&sEq x.right ⟨#[]⟩
 else if x.kind=3∨x.kind=4∨x.kind=5 then Y3 x.pattern&&Yj x.left&&Yj x.right
 else false
theorem Zcv (x:Zt):Zcn x=some (Yk x):=by
 unfold Zcn Yk
 simp only [QK,Zj3,Option.bind_some,Y3,Zud,beq_iff_eq]
 by_cases h1:x.kind=1
 ·simp only [h1,if_true,true_or];cases ZR x.pattern<;>cases sEq x.left ⟨#[]⟩<;>simp
 by_cases h2:x.kind=2
 ·simp only [h2,if_true,or_true];cases ZR x.pattern<;>cases sEq x.left ⟨#[]⟩<;>simp
 simp only [h1,h2,if_false,or_self]
 by_cases h3:x.kind=3
 ·simp only [h3,if_true,true_or];cases sEq x.pattern.rel ⟨#[]⟩<;>cases decide (x.pattern.args.length=0)<;>cases Yj x.left<;>simp
 by_cases h4:x.kind=4
 ·simp only [h4,if_true,true_or,or_true];cases sEq x.pattern.rel ⟨#[]⟩<;>cases decide (x.pattern.args.length=0)<;>cases Yj x.left<;>simp
 by_cases h5:x.kind=5
 ·simp only [h5,if_true,or_true];cases sEq x.pattern.rel ⟨#[]⟩<;>cases decide (x.pattern.args.length=0)<;>cases Yj x.left<;>simp
 simp [h3,h4,h5]
theorem Zg4 (x:Zt):ZdA x=some (Yk x):=by
 unfold ZdA Yk
 simp only [Zbe,Zkd,ZeC,Option.bind_some,beq_iff_eq]
 by_cases h1:x.kind=1
 ·simp only [h1,if_true,true_or];cases ZR x.pattern<;>cases sEq x.left ⟨#[]⟩<;>simp
 by_cases h2:x.kind=2
 ·simp only [h2,if_true,or_true];cases ZR x.pattern<;>cases sEq x.left ⟨#[]⟩<;>simp
 simp only [h1,h2,if_false,or_self]
 by_cases h3:x.kind=3
 ·simp only [h3,if_true,true_or];cases Y3 x.pattern<;>cases Yj x.left<;>cases Yj x.right<;>simp
 by_cases h4:x.kind=4
 ·simp only [h4,if_true,true_or,or_true];cases Y3 x.pattern<;>cases Yj x.left<;>cases Yj x.right<;>simp
 by_cases h5:x.kind=5
 ·simp only [h5,if_true,or_true];cases Y3 x.pattern<;>cases Yj x.left<;>cases Yj x.right<;>simp
 simp [h3,h4,h5]
theorem Zo4 {x:Zt} (h:Yk x=true):x.kind=1∨x.kind=2∨x.kind=3∨x.kind=4∨x.kind=5:=by
 unfold Yk at h
 split at h
 ·rename_i h1;omega
 ·split at h
  ·rename_i h1;omega
  ·simp at h
theorem Zqc (x:Zt):Zbf x=some (Yk x&&decide (3≤x.kind)):=by
 unfold Zbf
 rw [Zcv]
 cases Yk x<;>simp
def Xq (a:Zz):Bool:=
 if a.kind=1∨a.kind=2 then ZR a.pattern else if a.kind=3 then Y3 a.pattern else false
theorem Zm9 (a:Zz):Zdd a=some (Xq a):=by
 unfold Zdd Xq
 simp only [QK,Option.bind_some,Y3,Zud,beq_iff_eq]
 by_cases h1:a.kind=1
 ·simp [h1]
 by_cases h2:a.kind=2
 ·simp [h2]
 by_cases h3:a.kind=3
 ·simp only [h3,if_true];cases sEq a.pattern.rel ⟨#[]⟩<;>simp
 simp [h1,h2,h3]
theorem Znc (a:Zz):Zdl a=some (Xq a):=by
 unfold Zdl Xq
 simp only [Zbe,ZeC,Option.bind_some,beq_iff_eq]
 by_cases h1:a.kind=1
 ·simp [h1]
 by_cases h2:a.kind=2
 ·simp [h2]
 by_cases h3:a.kind=3
 ·simp [h3]
 simp [h1,h2,h3]
def Y2 (l:List ByteArray):List ByteArray:=l.filter Ye
theorem ZcZ (l:List ByteArray):(Y2 l).length≤l.length:=List.length_filter_le _ _
theorem ZbJ {x:ByteArray} {l:List ByteArray}:x∈Y2 l↔x∈l∧Ye x=true:=by simp [Y2]
theorem Zdz (l:List ByteArray) (h:l.length≤1073741824):QM l=some (Y2 l):=by
 unfold QM
 rw [Zcm (p:=Ye)]
 ·simp [Y2]
 ·intro j x s _ hs
  rw [ZdQ,Option.bind_some]
  split
  ·rw [Zh _ (by simp at hs;omega)]
  ·rfl
theorem Zke {p:ByteArray→Bool}:∀(l acc:List ByteArray),l.foldl (fun s x=>if p x=true then Qh s x else s) acc=(l.filter p).foldl Qh acc
 | [],_=>rfl
 | x::l,acc=>by
  rw [List.foldl_cons,Zke l]
  by_cases h:p x=true<;>simp [h]
theorem Zch (p:Zv) (h:p.args.length≤1073741823):Zba p=some (ZT (Y2 p.args)):=by
 unfold Zba
 rw [YM (f:=fun s x=>if Ye x=true then Qh s x else s) (fun j s=>s.length≤j) (by simp)]
 ·rw [Zke];rfl
 ·intro j x s _ _ hl hI
  simp at hl
  have:=Zdx x s
  rw [QW,Option.bind_some]
  split
  ·rw [Qb _ _ (by omega)]
   exact ⟨rfl,by omega⟩
  ·exact ⟨rfl,by omega⟩
def Zfz (x:Zt):List ByteArray:=x.pattern.args++[x.left,x.right]
def YB (x:Zt):List ByteArray:=ZT (Y2 (Zfz x))
theorem Zb6 (x:Zt) (h:x.pattern.args.length≤1073741822):Qa x=some (YB x):=by
 unfold Qa Zhu
 rw [Zf6 _ (by omega),Option.bind_some,Zh _ (by omega),Option.bind_some,Zdz _ (by simp;omega),Option.bind_some]
 have:=ZcZ (x.pattern.args++[x.left,x.right])
 simp at this
 rw [XZ _ (by omega)]
 rfl
theorem Zcc (x:Zt) (h:x.pattern.args.length≤1073741820):XH x=some (YB x):=by
 unfold XH
 have h1:=Zei (Y2 x.pattern.args)
 have h2:=ZcZ x.pattern.args
 have h3:=Zdx x.left (ZT (Y2 x.pattern.args))
 have key:∀l:List ByteArray,(∀y,y∈l↔y∈Y2 (Zfz x))→Asc l→l=YB x:=fun l hm ha=>Zfi ha hm
 rw [Zch _ (by omega),Option.bind_some,QW,Option.bind_some,QW]
 simp only [Option.bind_some]
 rw [Qb _ _ (by omega),Option.bind_some,Qb (Qh _ _) _ (by omega),Option.bind_some,Qb _ x.right (by omega),Option.bind_some]
 cases hl:Ye x.left<;>cases hr:Ye x.right<;>simp only [if_true,Bool.false_eq_true,if_false]<;>congr 1<;>apply key<;>(try intro y)<;>(try simp only [Zjb,ZP,ZbJ,Zfz,List.mem_append,List.mem_cons,List.not_mem_nil,or_false])
 all_goals first
  | exact ZcG _
  | exact Zf3 (ZcG _)
  | exact Zf3 (Zf3 (ZcG _))
  | skip
 ·constructor
  ·rintro ⟨a,b⟩;exact ⟨.inl a,b⟩
  ·rintro ⟨a | rfl | rfl,b⟩
   ·exact ⟨a,b⟩
   ·rw [hl] at b;simp at b
   ·rw [hr] at b;simp at b
 ·constructor
  ·rintro (rfl | ⟨a,b⟩)
   ·exact ⟨by simp,hr⟩
   ·exact ⟨.inl a,b⟩
  ·rintro ⟨a | rfl | rfl,b⟩
   ·exact .inr ⟨a,b⟩
   ·rw [hl] at b;simp at b
   ·exact .inl rfl
 ·constructor
  ·rintro (rfl | ⟨a,b⟩)
   ·exact ⟨by simp,hl⟩
   ·exact ⟨.inl a,b⟩
  ·rintro ⟨a | rfl | rfl,b⟩
   ·exact .inr ⟨a,b⟩
   ·exact .inl rfl
   ·rw [hr] at b;simp at b
 ·constructor
  ·rintro (rfl | rfl | ⟨a,b⟩)
   ·exact ⟨by simp,hr⟩
   ·exact ⟨by simp,hl⟩
   ·exact ⟨.inl a,b⟩
  ·rintro ⟨a | rfl | rfl,b⟩
   ·exact .inr (.inr ⟨a,b⟩)
   ·exact .inr (.inl rfl)
   ·exact .inl rfl
theorem Zhk (x:Zt):(YB x).length≤x.pattern.args.length+2:=by
 have h1:=Zei (Y2 (Zfz x))
 have h2:=ZcZ (Zfz x)
 have h3:(Zfz x).length=x.pattern.args.length+2:=by simp [Zfz]
 unfold YB
 omega
theorem ZuC {x:Zt} {v:ByteArray} (h:v∈YB x):Ye v=true:=(ZbJ.1 (ZP.1 h)).2
structure QC (r:Zg):Prop where
 cl:r.cond.length≤1048576
 tl:r.thn.length≤1048576
 ca:∀x∈r.cond,x.pattern.args.length≤1048576
 ta:∀a∈r.thn,a.pattern.args.length≤1048576
def Yr (l:List Zt):List ByteArray:=l.flatMap fun x=>if x.kind=1 then Y2 x.pattern.args else []
def YD (r:Zg) (n:Nat):List ByteArray:=ZT (Yr (r.cond.take n))
theorem Zdy (r:Zg) (n:Int) (h:QC r) (h4:r.cond.length≤4):QN r n=some (YD r n.toNat):=by
 unfold QN YD
 refine (Zal (fun l i (row:List ByteArray)=>some (ZT (row++Yr (l.take (n.toNat - i))))) (fun l i row=>r.cond.drop i=l∧row.length≤1048576 * i∧i≤r.cond.length) ?_ ?_ r.cond 0 [] ⟨by simp,by simp,by simp⟩).trans (by simp)
 ·rintro i row ⟨h1,h2,h3⟩
  rw [XZ _ (by omega)]
  simp [Yr]
 ·rintro x l i row ⟨h1,h2,h3⟩
  left
  have hi:r.cond[i]?=some x:=by have:=congrArg (fun l=>l[0]?) h1;simpa using this
  have hlt:i<r.cond.length:=(List.getElem?_eq_some_iff.1 hi).1
  have hr:r.cond.drop (i+1)=l:=by have:=congrArg List.tail h1;simpa using this
  have hx:=h.ca x (List.mem_of_getElem? hi)
  have hv:=ZcZ x.pattern.args
  by_cases hn:((i:Nat):Int)<n
  ·have e:n.toNat - i=(n.toNat - (i+1))+1:=by omega
   by_cases hk:x.kind=1
   ·refine ⟨row++Y2 x.pattern.args,?_,⟨hr,by simp;omega,by omega⟩,?_⟩
    ·simp only [hn,hk,decide_true,beq_self_eq_true,if_true]
     rw [Zdz _ (by omega),Option.bind_some,Zh _ (by omega)]
    ·rw [e];simp [Yr,hk]
   ·refine ⟨row,?_,⟨hr,by omega,by omega⟩,?_⟩
    ·simp [hn,hk]
    ·rw [e];simp [Yr,hk]
  ·have e:n.toNat - i=0:=by omega
   have e':n.toNat - (i+1)=0:=by omega
   refine ⟨row,?_,⟨hr,by omega,by omega⟩,?_⟩
   ·simp [hn]
   ·rw [e,e'];simp
theorem ZdY (r:Zg) (n:Int) (h:QC r) (h4:r.cond.length≤4):X5 r n=some (YD r n.toNat):=by
 unfold X5 YD
 refine (Zal (fun l i (row:List ByteArray)=>some ((Yr (l.take (n.toNat - i))).foldl Qh row)) (fun l i row=>r.cond.drop i=l∧row.length≤1048576 * i∧i≤r.cond.length∧Asc row) ?_ ?_ r.cond 0 [] ⟨by simp,by simp,by simp,List.Pairwise.nil⟩).trans (by simp [ZT])
 ·rintro i row ⟨h1,h2,h3,h5⟩
  simp [Yr]
 ·rintro x l i row ⟨h1,h2,h3,h5⟩
  have hi:r.cond[i]?=some x:=by have:=congrArg (fun l=>l[0]?) h1;simpa using this
  have hlt:i<r.cond.length:=(List.getElem?_eq_some_iff.1 hi).1
  have hr:r.cond.drop (i+1)=l:=by have:=congrArg List.tail h1;simpa using this
  have hx:=h.ca x (List.mem_of_getElem? hi)
  have hv:=ZcZ x.pattern.args
  have hs:=Zei (Y2 x.pattern.args)
  by_cases hn:((i:Nat):Int)<n
  ·left
   have e:n.toNat - i=(n.toNat - (i+1))+1:=by omega
   by_cases hk:x.kind=1
   ·obtain ⟨f1,f2,f3⟩:=XP (ZT (Y2 x.pattern.args)) row h5
    refine ⟨(ZT (Y2 x.pattern.args)).foldl Qh row,?_,⟨hr,by omega,by omega,f1⟩,?_⟩
    ·simp only [hn,hk,decide_true,beq_self_eq_true,if_true]
     rw [Zch _ (by omega),Option.bind_some,Zmv (fun _ _ _=>rfl) (by omega)]
    ·rw [e]
     simp only [Yr,List.take_succ_cons,List.flatMap_cons,hk,if_true,List.foldl_append]
     congr 2
     obtain ⟨g1,g2,_⟩:=XP (Y2 x.pattern.args) row h5
     exact ZoX g1 f1 fun y=>by rw [g2,f2,ZP]
   ·refine ⟨row,?_,⟨hr,by omega,by omega,h5⟩,?_⟩
    ·simp [hn,hk]
    ·rw [e];simp [Yr,hk]
  ·right
   have e:n.toNat - i=0:=by omega
   refine ⟨row,by simp [hn],by rw [e];simp [Yr]⟩
def Zmm (r:Zg) (i:Int) (v:ByteArray):Bool:=!(allI (fun k x=>!(decide ((k:Int)≠i)&&Yx (YB x) v)) r.cond 0&&r.thn.all fun a=>!Yx a.pattern.args v)
theorem Zgj {r:Zg} {i:Int} {v:ByteArray} {f:Zt→Option (List ByteArray)} {g:List ByteArray→ByteArray→Option Bool} (hf:∀x∈r.cond,f x=some (YB x)) (hg:∀l,g l v=some (Yx l v)) {fin:Unit→Option Bool} (hfin:fin ()=some (!(r.thn.all fun a=>!Yx a.pattern.args v))):
  Zo (σ:=Unit) (fun (k:Nat) (x:Zt) _=>if (((k:Nat):Int) != i)=true then (f x).bind fun l=>(g l v).bind fun b=>if b=true then some (.inr true) else some (.inl ()) else some (.inl ())) fin r.cond 0 ()=some (Zmm r i v):=by
 rw [Xu (p:=fun k x=>!(decide ((k:Int)≠i)&&Yx (YB x) v)) (r:=true)]
 ·unfold Zmm
  cases allI (fun k x=>!(decide ((k:Int)≠i)&&Yx (YB x) v)) r.cond 0 with
  | true=>simp only [if_true,hfin,Bool.true_and]
  | false=>simp
 ·intro j x hj
  rw [hf x (List.mem_of_getElem? hj),Option.bind_some,hg,Option.bind_some,Nat.zero_add]
  by_cases h:(j:Int)=i
  ·simp [h]
  ·have:((j:Int) != i)=true:=by simpa using h
   simp only [this,if_true]
   cases Yx (YB x) v<;>simp [h]
theorem ZgA (r:Zg) (i:Int) (v:ByteArray) (h:QC r):XC r i v=some (Zmm r i v):=by
 unfold XC
 refine Zgj (f:=Qa) (g:=Xc) (fun x mx=>Zb6 x (by have:=h.ca x mx;omega)) (fun l=>Q5 l v) ?_
 rw [Zco (p:=fun a=>Yx a.pattern.args v) (r:=true)]
 ·simp only [←List.not_any_eq_all_not,Bool.not_not]
  cases r.thn.any fun a=>Yx a.pattern.args v<;>rfl
 ·intro j a _
  rw [Q5]
  cases Yx a.pattern.args v<;>simp
theorem ZjV (r:Zg) (i:Int) (v:ByteArray) (h:QC r) (hv:Ye v=true):XK r i v=some (Zmm r i v):=by
 unfold XK
 refine Zgj (f:=XH) (g:=ZV) (fun x mx=>Zcc x (by have:=h.ca x mx;omega)) (fun l=>YV l v) ?_
 rw [Zco (p:=fun a=>Yx a.pattern.args v) (r:=true)]
 ·simp only [←List.not_any_eq_all_not,Bool.not_not]
  cases r.thn.any fun a=>Yx a.pattern.args v<;>rfl
 ·intro j a ma
  rw [Zch _ (by have:=h.ta a ma;omega),Option.bind_some,YV,Option.bind_some]
  have:Yx (ZT (Y2 a.pattern.args)) v=Yx a.pattern.args v:=by
   rw [Bool.eq_iff_iff,Xw,Xw,ZP,ZbJ]
   simp [hv]
  rw [this]
  cases Yx a.pattern.args v<;>simp
def ZmC (r:Zg) (i:Nat) (x:Zt) (v:ByteArray):Bool:=decide (x.kind=1)||Yx (YD r i) v||(decide (x.kind=2)&&!Zmm r i v)
def Zgd (r:Zg) (i:Nat) (x:Zt):Bool:=(YB x).all (ZmC r i x)
theorem Zne (r:Zg) (i:Nat) (x:Zt) (h:QC r) (h4:r.cond.length≤4) (hx:r.cond[i]?=some x):ZbT r i=some (Zgd r i x):=by
 unfold ZbT Zgd
 have ha:atI r.cond (i:Int)=some x:=by unfold atI;rw [if_pos (by omega),Int.toNat_natCast];exact hx
 rw [ha,Option.bind_some,Zdy r _ h h4,Option.bind_some,Zb6 x (by have:=h.ca x (List.mem_of_getElem? hx);omega),Option.bind_some,Int.toNat_natCast]
 rw [ZU (p:=ZmC r i x) (r:=false)]
 ·cases (YB x).all (ZmC r i x)<;>rfl
 ·intro j v mv
  rw [Q5,ZgA r _ v h]
  simp only [Option.bind_some,ZmC,beq_iff_eq,bne_iff_ne,ne_eq]
  by_cases h1:x.kind=1
  ·simp [h1]
  ·simp only [h1,if_false,decide_false,Bool.false_or]
   cases Yx (YD r i) v with
   | true=>simp
   | false=>
    by_cases h2:x.kind=2
    ·simp only [h2,not_true_eq_false,if_false,Bool.false_eq_true,decide_true,Bool.true_and,Bool.false_or]
     cases Zmm r i v<;>simp
    ·simp [h2]
def YQ (r:Zg):Bool:=
 X9 r.name&&decide (0≤r.priority)&&decide (r.priority≤9)&&decide (1≤r.cond.length)&&decide (r.cond.length≤4)&&decide (1≤r.thn.length)&&decide (r.thn.length≤2)
  && allI (fun i x=>Yk x&&(decide (i≠0)||decide (x.kind=1))&&Zgd r i x) r.cond 0
  && r.thn.all (fun a=>Xq a&&(Y2 a.pattern.args).all (Yx (YD r r.cond.length)))
  && decide ((ZT (r.cond.flatMap YB)).length≤6)
theorem ZkP (l:List Zt) (h:∀x∈l,x.pattern.args.length≤1048576) (h4:l.length≤4):Zbp l=some (l.flatMap YB):=by
 unfold Zbp
 rw [YM (f:=fun s x=>s++YB x) (fun j s=>s.length≤1048578 * j) (by simp)]
 ·congr 1
  have:∀(l:List Zt) (acc:List ByteArray),l.foldl (fun s x=>s++YB x) acc=acc++l.flatMap YB:=by
   intro l
   induction l with
   | nil=>simp
   | cons x l ih=>intro acc;rw [List.foldl_cons,ih];simp
  simpa using this l []
 ·intro j x s mx _ hl hI
  have:=h x mx
  have:=Zhk x
  rw [Zb6 x (by omega),Option.bind_some,Zh _ (by omega)]
  exact ⟨rfl,by simp;omega⟩
theorem Zj7 (r:Zg) (h:QC r):Zfe r=some (YQ r):=by
 unfold Zfe YQ
 rw [Zga,Option.bind_some]
 cases X9 r.name with
 | false=>simp
 | true=>
 simp only [if_true,decide_eq_true_eq,Bool.true_and]
 split
 ·rw [decide_eq_false (show ¬0≤r.priority by omega)];simp
 split
 ·rw [decide_eq_false (show ¬r.priority≤9 by omega)];simp
 split
 ·rw [decide_eq_false (show ¬1≤r.cond.length by omega)];simp
 split
 ·rw [decide_eq_false (show ¬r.cond.length≤4 by omega)];simp
 split
 ·rw [decide_eq_false (show ¬1≤r.thn.length by omega)];simp
 split
 ·rw [decide_eq_false (show ¬r.thn.length≤2 by omega)];simp
 rw [decide_eq_true (show 0≤r.priority by omega),decide_eq_true (show r.priority≤9 by omega),decide_eq_true (show 1≤r.cond.length by omega),decide_eq_true (show r.cond.length≤4 by omega),decide_eq_true (show 1≤r.thn.length by omega),decide_eq_true (show r.thn.length≤2 by omega)]
 simp only [Bool.true_and]
 have h4:r.cond.length≤4:=by omega
 rw [Xu (p:=fun i x=>Yk x&&(decide (i≠0)||decide (x.kind=1))&&Zgd r i x) (r:=false)]
 ·cases allI (fun i x=>Yk x&&(decide (i≠0)||decide (x.kind=1))&&Zgd r i x) r.cond 0 with
  | false=>simp
  | true=>
   simp only [if_true,Bool.true_and]
   rw [Zdy r _ h h4,Option.bind_some,Int.toNat_natCast,ZU (p:=fun a=>Xq a&&(Y2 a.pattern.args).all (Yx (YD r r.cond.length))) (r:=false)]
   ·cases r.thn.all fun a=>Xq a&&(Y2 a.pattern.args).all (Yx (YD r r.cond.length)) with
    | false=>simp
    | true=>
     have hl:(r.cond.flatMap YB).length≤1048578 * r.cond.length:=by
      have:∀l:List Zt,(∀x∈l,x.pattern.args.length≤1048576)→(l.flatMap YB).length≤1048578 * l.length:=by
       intro l
       induction l with
       | nil=>simp
       | cons x l ih=>
        intro hl
        have h1:=ih fun y my=>hl y (by simp [my])
        have h2:=hl x (by simp)
        have h3:=Zhk x
        simp only [List.flatMap_cons,List.length_append,List.length_cons]
        omega
      exact this r.cond h.ca
     simp only [if_true,Bool.true_and]
     rw [ZkP _ h.ca h4,Option.bind_some,XZ _ (by omega),Option.bind_some]
     congr 1
     rw [Bool.eq_iff_iff]
     simp only [decide_eq_true_eq]
     omega
   ·intro j a ma
    rw [Znc,Option.bind_some]
    cases Xq a with
    | false=>simp
    | true=>
     simp only [if_true,Bool.true_and]
     rw [Zdz _ (by have:=h.ta a ma;omega),Option.bind_some,ZU (p:=Yx (YD r r.cond.length)) (r:=.inr false)]
     ·cases (Y2 a.pattern.args).all (Yx (YD r r.cond.length))<;>rfl
     ·intro k v _
      rw [Q5,Option.bind_some]
      cases Yx (YD r r.cond.length) v<;>simp
 ·intro j x hj
  rw [Nat.zero_add,Zg4,Option.bind_some,Zne r j x h h4 hj]
  simp only [Option.bind_some]
  cases Yk x with
  | false=>simp
  | true=>
   by_cases h0:j=0
   ·subst h0
    by_cases hk:x.kind=1
    ·simp only [hk];cases Zgd r 0 x<;>simp
    ·simp [hk]
   ·have:((j:Int)==0)=false:=by rw [beq_eq_false_iff_ne];omega
    simp only [this]
    cases Zgd r j x<;>simp [h0]
theorem ZfB {α:Type} (f:α→List ByteArray):∀(l:List α) (acc:List ByteArray),Asc acc→l.foldl (fun s x=>(f x).foldl Qh s) acc=(l.flatMap f).foldl Qh acc
 | [],_,_=>rfl
 | x::l,acc,h=>by rw [List.foldl_cons,ZfB f l _ (XP (f x) acc h).1,List.flatMap_cons,List.foldl_append]
def Zmw (r:Zg):List ByteArray:=ZT (r.cond.flatMap YB++r.thn.flatMap fun a=>Y2 a.pattern.args)
theorem Znj (r:Zg) (h:QC r) (h4:r.cond.length≤4) (h2:r.thn.length≤2):ZdB r=some (Zmw r):=by
 unfold ZdB Zmw
 rw [YM (f:=fun s x=>(YB x).foldl Qh s) (fun j s=>s.length≤1048578 * j∧Asc s) ⟨by simp,List.Pairwise.nil⟩]
 ·have hA:=ZfB YB r.cond [] List.Pairwise.nil
  have hB:Asc (r.cond.foldl (fun s x=>(YB x).foldl Qh s) []):=by rw [hA];exact (XP _ [] List.Pairwise.nil).1
  have hl:(r.cond.foldl (fun s x=>(YB x).foldl Qh s) []).length≤1048578 * 4:=by
   rw [hA]
   have:=(XP (r.cond.flatMap YB) [] List.Pairwise.nil).2.2
   have h3:(r.cond.flatMap YB).length≤1048578 * r.cond.length:=by
    have:∀l:List Zt,(∀x∈l,x.pattern.args.length≤1048576)→(l.flatMap YB).length≤1048578 * l.length:=by
     intro l
     induction l with
     | nil=>simp
     | cons x l ih=>
      intro hl
      have h1:=ih fun y my=>hl y (by simp [my])
      have h2:=hl x (by simp)
      have h3:=Zhk x
      simp only [List.flatMap_cons,List.length_append,List.length_cons]
      omega
    exact this r.cond h.ca
   simp only [List.length_nil,Nat.add_zero] at this
   omega
  rw [YM (f:=fun s a=>(ZT (Y2 a.pattern.args)).foldl Qh s) (fun j s=>s.length≤1048578 * 4+1048576 * j∧Asc s) ⟨by omega,hB⟩]
  ·congr 1
   rw [ZfB (fun a:Zz=>ZT (Y2 a.pattern.args)) r.thn _ hB,hA]
   refine Zfi (XP _ _ (XP _ [] List.Pairwise.nil).1).1 fun y=>?_
   rw [(XP _ _ (XP _ [] List.Pairwise.nil).1).2.1 y,(XP _ [] List.Pairwise.nil).2.1 y]
   simp only [List.mem_append,List.mem_flatMap,ZP,List.not_mem_nil,or_false]
   exact Or.comm
  ·intro j a s ma _ hj hI
   have h5:=h.ta a ma
   have h6:=ZcZ a.pattern.args
   have h7:=Zei (Y2 a.pattern.args)
   obtain ⟨f1,f2,f3⟩:=XP (ZT (Y2 a.pattern.args)) s hI.2
   rw [Zch _ (by omega),Option.bind_some,Zmv (fun _ _ _=>rfl) (by omega)]
   exact ⟨rfl,by omega,f1⟩
 ·intro j x s mx _ hj hI
  have h5:=h.ca x mx
  have h6:=Zhk x
  obtain ⟨f1,f2,f3⟩:=XP (YB x) s hI.2
  rw [Zcc _ (by omega),Option.bind_some,Zmv (fun _ _ _=>rfl) (by omega)]
  exact ⟨rfl,by omega,f1⟩
theorem Zrm {l:List Zt} {y:ByteArray} (h:y∈Yr l):y∈l.flatMap YB:=by
 simp only [Yr,List.mem_flatMap] at h ⊢
 obtain ⟨x,hx,hy⟩:=h
 refine ⟨x,hx,?_⟩
 split at hy
 ·rw [YB,ZP,ZbJ]
  rw [ZbJ] at hy
  exact ⟨by simp [Zfz,hy.1],hy.2⟩
 ·simp at hy
theorem Zgg (r:Zg) (h:QC r):Zcu r=some (YQ r):=by
 unfold Zcu YQ
 rw [Zgv,Option.bind_some]
 cases X9 r.name with
 | false=>simp
 | true=>
 simp only [if_true,Zhs,Option.bind_some,Bool.true_and,Bool.and_eq_true,decide_eq_true_eq]
 split
 rotate_left
 ·rename_i hh
  have:(decide (0≤r.priority)&&decide (r.priority≤9))=false:=by simp;omega
  rw [this];simp
 rename_i hp
 rw [decide_eq_true hp.1,decide_eq_true hp.2]
 split
 rotate_left
 ·rename_i hh
  have:(decide (1≤r.cond.length)&&decide (r.cond.length≤4))=false:=by simp;omega
  simp only [Bool.true_and,this,Bool.false_and]
 rename_i hc
 rw [decide_eq_true (show 1≤r.cond.length by omega),decide_eq_true (show r.cond.length≤4 by omega)]
 split
 rotate_left
 ·rename_i hh
  have:(decide (1≤r.thn.length)&&decide (r.thn.length≤2))=false:=by simp;omega
  simp only [Bool.true_and,this,Bool.false_and]
 rename_i ht
 rw [decide_eq_true (show 1≤r.thn.length by omega),decide_eq_true (show r.thn.length≤2 by omega)]
 simp only [Bool.true_and]
 have h4:r.cond.length≤4:=by omega
 rw [ZdY r _ h h4,Option.bind_some,Int.toNat_natCast]
 rw [Xu (p:=fun i x=>Yk x&&(decide (i≠0)||decide (x.kind=1))&&Zgd r i x) (r:=false)]
 ·cases allI (fun i x=>Yk x&&(decide (i≠0)||decide (x.kind=1))&&Zgd r i x) r.cond 0 with
  | false=>simp
  | true=>
   simp only [if_true,Bool.true_and]
   rw [ZU (p:=fun a=>Xq a&&(Y2 a.pattern.args).all (Yx (YD r r.cond.length))) (r:=false)]
   ·cases ha:r.thn.all fun a=>Xq a&&(Y2 a.pattern.args).all (Yx (YD r r.cond.length)) with
    | false=>simp
    | true=>
     simp only [if_true,Bool.true_and]
     rw [Znj r h h4 (by omega),Option.bind_some]
     have e:Zmw r=ZT (r.cond.flatMap YB):=ZmV fun y=>by
      simp only [List.mem_append]
      refine ⟨fun hy=>?_,.inl⟩
      rcases hy with hy | hy
      ·exact hy
      ·obtain ⟨a,ma,hy⟩:=List.mem_flatMap.1 hy
       have:=List.all_eq_true.1 ha a ma
       simp only [Bool.and_eq_true] at this
       have:=List.all_eq_true.1 this.2 y hy
       rw [Xw,YD,ZP,List.take_length] at this
       exact Zrm this
     rw [e]
     congr 1
     rw [Bool.eq_iff_iff]
     simp only [decide_eq_true_eq]
     omega
   ·intro j a ma
    rw [Zm9,Option.bind_some]
    cases Xq a with
    | false=>simp
    | true=>
     simp only [if_true,Bool.true_and]
     rw [Zch _ (by have:=h.ta a ma;omega),Option.bind_some,ZU (p:=Yx (YD r r.cond.length)) (r:=.inr false)]
     ·have:(ZT (Y2 a.pattern.args)).all (Yx (YD r r.cond.length))=(Y2 a.pattern.args).all (Yx (YD r r.cond.length)):=by
       rw [Bool.eq_iff_iff,List.all_eq_true,List.all_eq_true]
       simp only [ZP]
      rw [this]
      cases (Y2 a.pattern.args).all (Yx (YD r r.cond.length))<;>rfl
     ·intro k v _
      rw [YV,Option.bind_some]
      cases Yx (YD r r.cond.length) v<;>simp
 ·intro j x hj
  have hxa:=h.ca x (List.mem_of_getElem? hj)
  rw [Nat.zero_add,Zcv,Option.bind_some,ZdY r _ h h4,Zcc x (by omega),Int.toNat_natCast]
  simp only [Option.bind_some]
  cases hic:Yk x with
  | false=>simp
  | true=>
   have loop:∀{fin:Unit→Option (Unit ⊕ Bool)} (hfin:fin ()=some (.inl ())),Zo (σ:=Unit) (ρ:=Unit ⊕ Bool) (fun (_:Nat) (v:ByteArray) _=>(ZV (YD r j) v).bind fun b=>(Zbf x).bind fun t=>if t=true then (if b=true then (if (x.kind==2)=true then some (.inl ()) else some (.inl ())) else some (.inr (.inr false))) else (if (x.kind==2)=true then (if b=true then some (.inl ()) else (XK r ((j:Nat):Int) v).bind fun e=>if e=true then some (.inr (.inr false)) else some (.inl ())) else some (.inl ()))) fin (YB x) 0 ()=some (bif Zgd r j x then .inl () else .inr false):=fun {fin} hfin=>by
    rw [ZU (p:=ZmC r j x) (r:=.inr false)]
    ·unfold Zgd
     cases (YB x).all (ZmC r j x)<;>simp [hfin]
    ·intro k v mv
     rw [YV,Zqc,ZjV r _ v h (ZuC mv),hic]
     simp only [Option.bind_some,Bool.true_and,decide_eq_true_eq,beq_iff_eq,ZmC]
     rcases Zo4 hic with hk | hk | hk | hk | hk<;>rw [hk]<;>cases Yx (YD r j) v<;>cases Zmm r j v<;>simp
   by_cases h0:j=0
   ·subst h0
    by_cases hk:x.kind=1
    ·have hk':(x.kind != 1)=false:=by simp [hk]
     simp only [if_true,hk',show (((0:Nat):Int)==0)=true from rfl,Bool.false_eq_true,if_false]
     rw [loop rfl]
     simp [hk]
    ·have hk':(x.kind != 1)=true:=by simpa using hk
     simp [hk',hk]
   ·have:((j:Int)==0)=false:=by rw [beq_eq_false_iff_ne];omega
    simp only [if_true,this,Bool.false_eq_true,if_false]
    rw [loop rfl]
    simp [h0]
end Go.Proofs.YtfehfkfdfmcgfaaGreatDoor
namespace Go.Proofs.YtfehfkfdfmcgfaaGreatDoor
theorem Zjm {v:ByteArray} (h:Ye v=true):ZQ v=false:=by
 cases ha:ZQ v with
 | false=>rfl
 | true=>
  have h1:=ZiN ha
  rw [Q9] at h1
  unfold Ye at h
  simp only [Bool.and_eq_true,decide_eq_true_iff] at h
  omega
def Xm:List Zs→ByteArray→Option ByteArray
 | [],_=>none
 | x::b,v=>if x.var=v then some x.value else Xm b v
def YU (b:List Zs) (t:ByteArray):Option ByteArray:=if ZQ t=true then some t else if Ye t=true then Xm b t else none
theorem ZfA {b:List Zs} {v:ByteArray} (h:Ye v=true):YU b v=Xm b v:=by
 unfold YU
 rw [if_neg (by rw [Zjm h];simp),if_pos h]
def ZfK (x:Zs):Bool:=Ye x.var&&ZQ x.value
def Ziq:Option ByteArray→ByteArray→Bool
 | none,_=>true
 | some p,v=>sLt p v
def YI:Option ByteArray→List Zs→Bool
 | _,[]=>true
 | prev,x::r=>ZfK x&&Ziq prev x.var&&YI (some x.var) r
def ZW (b:List Zs):Bool:=decide (b.length≤6)&&YI none b
theorem Zuw {prev:Option ByteArray} {b:List Zs} (h:YI prev b=true):∀x∈b,ZfK x=true∧∀p,prev=some p→sLt p x.var=true:=by
 induction b generalizing prev with
 | nil=>simp
 | cons y r ih=>
  simp only [YI,Bool.and_eq_true] at h
  obtain ⟨⟨h1,h2⟩,h3⟩:=h
  intro x mx
  rcases List.mem_cons.1 mx with rfl | mx
  ·exact ⟨h1,fun p hp=>by subst hp;exact h2⟩
  ·obtain ⟨k1,k2⟩:=ih h3 x mx
   exact ⟨k1,fun p hp=>by subst hp;exact Zfa h2 (k2 _ rfl)⟩
theorem ZtS {b:List Zs} {v:ByteArray} (h:Xm b v=none):∀x∈b,¬x.var=v:=by
 induction b with
 | nil=>simp
 | cons y r ih=>
  simp only [Xm] at h
  split at h
  ·simp at h
  ·rename_i hy
   intro x mx
   rcases List.mem_cons.1 mx with rfl | mx
   ·exact hy
   ·exact ih h x mx
theorem ZtQ {b:List Zs} {v w:ByteArray} (h:Xm b v=some w):∃x∈b,x.var=v∧x.value=w:=by
 induction b with
 | nil=>simp [Xm] at h
 | cons y r ih=>
  simp only [Xm] at h
  split at h
  ·rename_i hy
   exact ⟨y,by simp,hy,Option.some.inj h⟩
  ·obtain ⟨x,mx,h1⟩:=ih h
   exact ⟨x,by simp [mx],h1⟩
def Zfx:List Zs→ByteArray→ByteArray→List Zs
 | [],v,w=>[⟨v,w⟩]
 | x::b,v,w=>if sLt v x.var=true then ⟨v,w⟩::x::b else x::Zfx b v w
theorem ZpK (v w:ByteArray):∀b:List Zs,(Zfx b v w).length=b.length+1
 | []=>rfl
 | x::b=>by
  simp only [Zfx]
  split
  ·rfl
  ·rw [List.length_cons,ZpK v w b];rfl
theorem Zjx {v w u:ByteArray}:∀{b:List Zs},Xm b v=none→Xm (Zfx b v w) u=if v=u then some w else Xm b u
 | [],_=>by simp [Zfx,Xm]
 | x::b,h=>by
  simp only [Xm] at h
  split at h
  ·simp at h
  ·rename_i hx
   simp only [Zfx]
   split
   ·simp [Xm]
   ·simp only [Xm]
    rw [Zjx h]
    by_cases hu:x.var=u
    ·rw [if_pos hu,if_pos hu,if_neg (fun e=>hx (hu.trans e.symm))]
    ·rw [if_neg hu,if_neg hu]
theorem Zoq {v w:ByteArray} (hv:Ye v=true) (hw:ZQ w=true):∀{b:List Zs} {prev:Option ByteArray},YI prev b=true→Xm b v=none→(∀p,prev=some p→sLt p v=true)→YI prev (Zfx b v w)=true
 | [],prev,_,_,hp=>by
  simp only [Zfx,YI,ZfK,hv,hw,Bool.and_self,Bool.true_and,Bool.and_true]
  cases prev with
  | none=>rfl
  | some p=>exact hp p rfl
 | x::b,prev,h,hg,hp=>by
  have hx:=ZtS hg x (by simp)
  simp only [Xm,hx,if_false] at hg
  simp only [YI,Bool.and_eq_true] at h
  obtain ⟨⟨h1,h2⟩,h3⟩:=h
  simp only [Zfx]
  by_cases hlt:sLt v x.var=true
  ·rw [if_pos hlt]
   have h4:Ziq prev v=true:=by
    cases prev with
    | none=>rfl
    | some p=>exact hp p rfl
   simp only [YI,Bool.and_eq_true]
   exact ⟨⟨by simp [ZfK,hv,hw],h4⟩,⟨⟨h1,hlt⟩,h3⟩⟩
  ·rw [if_neg hlt]
   simp only [YI,Bool.and_eq_true]
   refine ⟨⟨h1,h2⟩,Zoq hv hw h3 hg fun p hp2=>?_⟩
   obtain rfl:=Option.some.inj hp2
   exact ZeS (by simpa using hlt) (fun e=>hx e.symm)
def ZfH (b:List Zs) (v w:ByteArray):Option (List Zs):=
 if ZW b=true∧Ye v=true∧ZQ w=true then
  (match Xm b v with
  | some old=>if old=w then some b else none
  | none=>if b.length=6 then none else some (Zfx b v w))
 else none
theorem Zte {b b':List Zs} {v w:ByteArray} (h:ZfH b v w=some b'):ZW b'=true∧Xm b' v=some w∧∀u z,Xm b u=some z→Xm b' u=some z:=by
 unfold ZfH at h
 split at h
 ·rename_i hc
  obtain ⟨h1,h2,h3⟩:=hc
  cases hg:Xm b v with
  | some old=>
   rw [hg] at h
   simp only at h
   split at h
   ·rename_i he
    obtain rfl:=Option.some.inj h
    exact ⟨h1,by rw [hg,he],fun u z hu=>hu⟩
   ·simp at h
  | none=>
   rw [hg] at h
   simp only at h
   split at h
   ·simp at h
   ·rename_i hl
    obtain rfl:=Option.some.inj h
    unfold ZW at h1 ⊢
    rw [Bool.and_eq_true,decide_eq_true_iff] at h1
    refine ⟨?_,by rw [Zjx hg,if_pos rfl],fun u z hu=>?_⟩
    ·rw [Bool.and_eq_true,decide_eq_true_iff,ZpK]
     exact ⟨by omega,Zoq h2 h3 h1.2 hg (by simp)⟩
    ·rw [Zjx hg,if_neg (fun e=>by rw [←e,hg] at hu;simp at hu)];exact hu
 ·simp at h
def Zbb:List ByteArray→List ByteArray→List Zs→Option (List Zs)
 | [],_,b=>some b
 | _::_,[],_=>none
 | a::p,w::f,b=>if ZQ a=true then (if a=w then Zbb p f b else none) else (ZfH b a w).bind (Zbb p f)
theorem ZjS:∀{p f:List ByteArray} {b b':List Zs},ZW b=true→Zbb p f b=some b'→ZW b'=true∧(∀a∈p,Ye a=true→∃z,Xm b' a=some z)∧∀u z,Xm b u=some z→Xm b' u=some z
 | [],_,b,b',hb,h=>by
  simp only [Zbb,Option.some.injEq] at h
  subst h
  exact ⟨hb,by simp,fun u z h=>h⟩
 | _::_,[],_,_,_,h=>by simp [Zbb] at h
 | a::p,w::f,b,b',hb,h=>by
  simp only [Zbb] at h
  by_cases ha:ZQ a=true
  ·rw [if_pos ha] at h
   split at h
   ·obtain ⟨h1,h2,h3⟩:=ZjS hb h
    refine ⟨h1,fun x mx hx=>?_,h3⟩
    rcases List.mem_cons.1 mx with rfl | mx
    ·rw [Zjm hx] at ha;simp at ha
    ·exact h2 x mx hx
   ·simp at h
  ·rw [if_neg ha] at h
   obtain ⟨b1,e1,h⟩:=Option.bind_eq_some_iff.1 h
   obtain ⟨k1,k2,k3⟩:=Zte e1
   obtain ⟨h1,h2,h3⟩:=ZjS k1 h
   refine ⟨h1,fun x mx hx=>?_,fun u z hu=>h3 u z (k3 u z hu)⟩
   rcases List.mem_cons.1 mx with rfl | mx
   ·exact ⟨w,h3 _ _ k2⟩
   ·exact h2 x mx hx
def Zcp (p:Zv) (f:Zb) (b:List Zs):Bool:=ZR p&&Yb f&&ZW b&&decide (p.rel=f.rel)&&decide (p.args.length=f.args.length)
def QG (p:Zv) (f:Zb) (b:List Zs):Option (List Zs):=if Zcp p f b=true then Zbb p.args f.args b else none
theorem Zjt {p:Zv} {f:Zb} {b b':List Zs} (h:QG p f b=some b'):ZW b'=true∧(∀a∈p.args,Ye a=true→∃z,Xm b' a=some z)∧∀u z,Xm b u=some z→Xm b' u=some z:=by
 unfold QG at h
 split at h
 ·rename_i hc
  unfold Zcp at hc
  simp only [Bool.and_eq_true] at hc
  exact ZjS hc.1.1.2 h
 ·simp at h
def ZaX:List ByteArray→List Zs→Option (List ByteArray)
 | [],_=>some []
 | a::p,b=>(YU b a).bind fun v=>(ZaX p b).map fun l=>v::l
theorem Zd4 {b:List Zs}:∀{p:List ByteArray},p.all Yj=true→(∀a∈p,Ye a=true→∃z,Xm b a=some z)→∃l,ZaX p b=some l∧l.length=p.length
 | [],_,_=>⟨[],rfl,rfl⟩
 | a::p,h,hv=>by
  simp only [List.all_cons,Bool.and_eq_true] at h
  obtain ⟨l,e,hl⟩:=Zd4 h.2 fun x mx=>hv x (by simp [mx])
  have:∃v,YU b a=some v:=by
   have ht:=h.1
   unfold Yj at ht
   rw [Bool.or_eq_true] at ht
   rcases ht with ht | ht
   ·exact ⟨a,by unfold YU;rw [if_pos ht]⟩
   ·obtain ⟨z,hz⟩:=hv a (by simp) ht
    exact ⟨z,by rw [ZfA ht];exact hz⟩
  obtain ⟨v,hv⟩:=this
  exact ⟨v::l,by simp only [ZaX,hv,e,Option.bind_some,Option.map_some],by simp [hl]⟩
def Yf (p:Zv) (b:List Zs):Option Zb:=if ZR p=true∧ZW b=true then (ZaX p.args b).map fun l=>{ rel:=p.rel,args:=l } else none
def ZbI (p:Zv) (b:List Zs) (F:List Zb):List Zb:=F.filter fun f=>(QG p f b).isSome
def Zv6 (l r:ByteArray):Bool:=match Qy l,Qy r with | some m,some n=>decide (m<n) | _,_=>false
def Zq1 (k:Int) (l r:ByteArray):Bool:=if k=3 then decide (l=r) else if k=4 then !decide (l=r) else Zv6 l r
def ZmJ (x:Zt) (b:List Zs):Bool:=
 if Yk x=true∧3≤x.kind∧ZW b=true then (match YU b x.left,YU b x.right with | some l,some r=>Zq1 x.kind l r | _,_=>false) else false
def Zak (x:Zt) (b:List Zs) (F:List Zb):Bool:=
 if Yk x=true∧ZW b=true then
  (if x.kind=1 then decide (0<(ZbI x.pattern b F).length) else if x.kind=2 then decide ((ZbI x.pattern b F).length=0) else ZmJ x b)
 else false
def ZaR (x:Zt) (F:List Zb) (t:Zu):List Zu:=
 if x.kind=1 then F.filterMap fun f=>(QG x.pattern f t.binding).map fun b=>{ facts:=t.facts++[f],binding:=b }
 else if Zak x t.binding F=true then [t] else []
def Zf0 (x:Zt) (F:List Zb) (l:List Zu):List Zu:=l.flatMap (ZaR x F)
def Zu3:Zu:={ facts:=[],binding:=[] }
def Zw (l:List Zt) (F:List Zb):List Zu:=l.foldl (fun ts x=>Zf0 x F ts) [Zu3]
theorem Y6 (p:List Zt) (x:Zt) (F:List Zb):Zw (p++[x]) F=Zf0 x F (Zw p F):=by
 unfold Zw
 rw [List.foldl_append]
 rfl
structure ZlH (p:List Zt) (F:List Zb) (t:Zu):Prop where
 bind:ZW t.binding=true
 len:t.facts.length≤p.length
 sub:∀f∈t.facts,f∈F
 vars:∀v∈Yr p,∃z,Xm t.binding v=some z
theorem ZxL {p:List Zt} {x:Zt} {F:List Zb} {t u:Zu} (h:ZlH p F t) (hu:u∈ZaR x F t):ZlH (p++[x]) F u:=by
 unfold ZaR at hu
 have hv:Yr (p++[x])=Yr p++(if x.kind=1 then Y2 x.pattern.args else []):=by simp [Yr]
 by_cases hk:x.kind=1
 ·rw [if_pos hk] at hu
  obtain ⟨f,mf,e⟩:=List.mem_filterMap.1 hu
  obtain ⟨b,e2,rfl⟩:=Option.map_eq_some_iff.1 e
  obtain ⟨h1,h2,h3⟩:=Zjt e2
  refine ⟨h1,by have:=h.len;simp;omega,fun g mg=>?_,fun v mv=>?_⟩
  ·rcases List.mem_append.1 mg with mg | mg
   ·exact h.sub g mg
   ·simp at mg;subst mg;exact mf
  ·rw [hv,if_pos hk] at mv
   rcases List.mem_append.1 mv with mv | mv
   ·obtain ⟨z,hz⟩:=h.vars v mv
    exact ⟨z,h3 v z hz⟩
   ·obtain ⟨m1,m2⟩:=ZbJ.1 mv
    exact h2 v m1 m2
 ·rw [if_neg hk] at hu
  split at hu
  ·simp at hu
   subst hu
   refine ⟨h.bind,by have:=h.len;simp;omega,h.sub,fun v mv=>?_⟩
   rw [hv,if_neg hk,List.append_nil] at mv
   exact h.vars v mv
  ·simp at hu
theorem ZxC (F:List Zb):ZlH [] F Zu3:=⟨rfl,Nat.le_refl _,by simp [Zu3],by simp [Yr]⟩
theorem Qp (F:List Zb) (l:List Zt):∀t∈Zw l F,ZlH l F t:=by
 have:∀n (l:List Zt),l.length=n→∀t∈Zw l F,ZlH l F t:=by
  intro n
  induction n with
  | zero=>
   intro l h
   rw [List.eq_nil_of_length_eq_zero h]
   intro t mt
   simp [Zw] at mt
   subst mt
   exact ZxC F
  | succ n ih=>
   intro l h
   obtain ⟨p,x,rfl⟩:∃p x,l=p++[x]:=⟨l.dropLast,l.getLast (by intro e;simp [e] at h),(List.dropLast_concat_getLast _).symm⟩
   intro t mt
   rw [Y6] at mt
   obtain ⟨s,ms,mt⟩:=List.mem_flatMap.1 mt
   exact ZxL (ih p (by simpa using h) s ms) mt
 exact this _ l rfl
theorem Zlp (x:Zt) (F:List Zb) (hF:F.length≤24):∀l:List Zu,(Zf0 x F l).length≤24 * l.length
 | []=>Nat.le_refl _
 | t::l=>by
  have ih:=Zlp x F hF l
  have h1:(ZaR x F t).length≤24:=by
   unfold ZaR
   split
   ·exact Nat.le_trans (List.length_filterMap_le _ _) hF
   ·split<;>simp
  unfold Zf0 at *
  rw [List.flatMap_cons,List.length_append,List.length_cons]
  omega
theorem ZaO (F:List Zb) (hF:F.length≤24) (l:List Zt) (hl:l.length≤4):(Zw l F).length≤331776:=by
 have key:∀(l:List Zt) (ts:List Zu),(l.foldl (fun ts x=>Zf0 x F ts) ts).length≤24 ^ l.length * ts.length:=by
  intro l
  induction l with
  | nil=>intro ts;simp
  | cons x l ih=>
   intro ts
   rw [List.foldl_cons,List.length_cons,Nat.pow_succ]
   have h1:=ih (Zf0 x F ts)
   have h2:=Zlp x F hF ts
   refine Nat.le_trans h1 (Nat.le_trans (Nat.mul_le_mul_left _ h2) ?_)
   rw [←Nat.mul_assoc]
   exact Nat.le_refl _
 have h1:=key l [Zu3]
 have h2:24 ^ l.length≤24 ^ 4:=Nat.pow_le_pow_right (by omega) hl
 unfold Zw
 simp only [List.length_singleton,Nat.mul_one] at h1
 omega
end Go.Proofs.YtfehfkfdfmcgfaaGreatDoor
namespace Go.Proofs.YtfehfkfdfmcgfaaGreatDoor
def ZfD (b:List Zs) (i:Nat):Option ByteArray:=if i=0 then none else (b[i - 1]?).map (·.var)
theorem ZjI {b:List Zs} {body:Nat→Zs→Unit→Option (Unit ⊕ Bool)} {fin:Unit→Option Bool} (hb:∀i x,b[i]?=some x→body i x ()=if (ZfK x&&Ziq (ZfD b i) x.var)=true then some (.inl ()) else some (.inr false)):
  ∀(l:List Zs) (i:Nat),b.drop i=l→Zo body fin l i ()=if YI (ZfD b i) l=true then fin () else some false
 | [],i,_=>by simp [Zo,YI]
 | x::l,i,h=>by
  have hx:b[i]?=some x:=by rw [←List.head?_drop,h];rfl
  have hd:b.drop (i+1)=l:=by rw [←List.tail_drop,h];rfl
  have hp:ZfD b (i+1)=some x.var:=by unfold ZfD;rw [if_neg (by omega),Nat.add_sub_cancel,hx];rfl
  by_cases hc:(ZfK x&&Ziq (ZfD b i) x.var)=true
  ·rw [ZX (by rw [hb i x hx,if_pos hc]),ZjI hb l (i+1) hd,hp]
   simp only [YI,hc,Bool.true_and]
  ·rw [Yi (by rw [hb i x hx,if_neg hc])]
   simp only [YI,eq_false_of_ne_true hc,Bool.false_and,Bool.false_eq_true,if_false]
theorem ZnM {b:List Zs} (hl:b.length≤1048576) {i:Nat} {x:Zs} (hx:b[i]?=some x):
  (if Ye x.var=true then (if ZQ x.value=true then (if (decide (0<((i:Nat):Int)))=true then (atI b (IntKind.i64.wrap (((i:Nat):Int) - 1))).bind fun x13=>if (sLt x13.var x.var)=true then some (.inl ()) else some (.inr false) else some (.inl ())) else some (.inr false)) else some (.inr false):Option (Unit ⊕ Bool))
   = if (ZfK x&&Ziq (ZfD b i) x.var)=true then some (.inl ()) else some (.inr false):=by
 have hi:=(List.getElem?_eq_some_iff.1 hx).1
 unfold ZfK
 cases Ye x.var with
 | false=>simp
 | true=>
  cases ZQ x.value with
  | false=>simp
  | true=>
   rw [if_pos rfl,if_pos rfl]
   by_cases h0:i=0
   ·subst h0
    rw [if_neg (by simp)]
    simp [ZfD,Ziq]
   ·have hp:ZfD b i=some (b[i - 1]).var:=by unfold ZfD;rw [if_neg h0,List.getElem?_eq_getElem (by omega)];rfl
    rw [if_pos (by simp;omega),show ((i:Nat):Int) - 1=((i - 1:Nat):Int) by omega,Zd9 (by omega) (by omega),Zav,List.getElem?_eq_getElem (by omega),Option.bind_some,hp]
    simp [Ziq]
theorem i_IsBinding_eq (b:List Zs):Xz b=some (ZW b):=by
 unfold Xz ZW
 by_cases h6:b.length≤6
 ·rw [if_neg (by simp;omega),ZjI (b:=b) (fun i x hx=>by
   rw [ZdQ,Option.bind_some,X1]
   exact ZnM (by omega) hx) b 0 rfl,decide_eq_true h6]
  show (if YI none b=true then some true else some false)=_
  cases YI none b<;>rfl
 ·rw [if_pos (by simp;omega),decide_eq_false h6]
  rfl
theorem QB (b:List Zs) (hl:b.length≤1048576):XE b=some (ZW b):=by
 unfold XE ZW
 rw [ZjI (b:=b) (fun i x hx=>by
   rw [QW,Option.bind_some,X6]
   exact ZnM hl hx) b 0 rfl]
 show (if YI none b=true then some (decide (((b.length:Nat):Int)≤6)) else some false)=_
 have:decide (((b.length:Nat):Int)≤6)=decide (b.length≤6):=by rw [Bool.eq_iff_iff];simp;omega
 rw [this]
 cases YI none b<;>simp
def ZwQ (b:List Zs) (t:ByteArray):ByteArray × Bool:=match YU b t with | some v=>(v,true) | none=>(⟨#[]⟩,false)
def Zv0:Option ByteArray→ByteArray × Bool
 | some v=>(v,true)
 | none=>(⟨#[]⟩,false)
theorem Zb3 (b:List Zs) (t:ByteArray):ZwQ b t=Zv0 (YU b t):=by unfold ZwQ Zv0;cases YU b t<;>rfl
theorem Zlc {t:ByteArray} {body:Nat→Zs→Unit→Option (Unit ⊕ (ByteArray × Bool))} (hb:∀i x,body i x ()=if x.var=t then some (.inr (x.value,true)) else some (.inl ())):
  ∀(b:List Zs) (i:Nat),Zo body (fun _=>some ((⟨#[]⟩),false)) b i ()=some (Zv0 (Xm b t))
 | [],_=>rfl
 | x::b,i=>by
  by_cases hx:x.var=t
  ·rw [Yi (by rw [hb,if_pos hx])]
   simp [Xm,hx,Zv0]
  ·rw [ZX (by rw [hb,if_neg hx]),Zlc hb b (i+1)]
   simp [Xm,hx]
theorem ZcY (b:List Zs) (t:ByteArray):ZaP b t=some (ZwQ b t):=by
 unfold ZaP
 rw [Zb3,X1,Option.bind_some]
 unfold YU
 by_cases ha:ZQ t=true
 ·rw [if_pos ha,if_pos ha];rfl
 ·rw [if_neg ha,if_neg ha,ZdQ,Option.bind_some]
  by_cases hv:Ye t=true
  ·rw [if_pos hv,if_pos hv,Zlc]
   intro i x
   by_cases hx:x.var=t
   ·rw [if_pos (ZO.2 hx),if_pos hx]
   ·rw [if_neg (by rw [ZO];exact hx),if_neg hx]
  ·rw [if_neg hv,if_neg hv];rfl
theorem ZcU (b:List Zs) (t:ByteArray):ZaQ b t=some (ZwQ b t):=by
 unfold ZaQ
 rw [Zb3,X6,Option.bind_some]
 unfold YU
 by_cases ha:ZQ t=true
 ·rw [if_pos ha,if_pos ha];rfl
 ·rw [if_neg ha,if_neg ha]
  by_cases hv:Ye t=true
  ·rw [if_pos hv,Zlc]
   intro i x
   by_cases hx:x.var=t
   ·rw [if_pos (ZO.2 hx),if_pos hx,QW,Option.bind_some,if_pos hv]
   ·rw [if_neg (by rw [ZO];exact hx),if_neg hx]
  ·rw [if_neg hv,ZU (p:=fun _=>true) (r:=((⟨#[]⟩:ByteArray),false))]
   ·simp [Zv0]
   ·intro i x _
    rw [QW,Option.bind_some,if_neg hv]
    split<;>rfl
theorem Zp2 {a v:ByteArray}:((sLt a v||sEq a v)=true)↔¬sLt v a=true:=by
 rw [Bool.or_eq_true,ZO]
 constructor
 ·rintro (h | h)
  ·rw [ZjA h];simp
  ·rw [h,Zii];simp
 ·intro h
  by_cases e:a=v
  ·exact .inr e
  ·exact .inl (ZeS (by simpa using h) (fun e2=>e e2.symm))
theorem Zre {ρ:Type} {v w:ByteArray} {K:List Zs→Option ρ} {body:Nat→Zs→(List Zs × Bool)→Option ((List Zs × Bool) ⊕ ρ)} {fin:(List Zs × Bool)→Option ρ}
  (h1:∀i x row,row.length≤1000→body i x (row,true)=some (.inl (row++[x],true)))
  (h2:∀i x row,row.length≤1000→body i x (row,false)=if (sLt x.var v||sEq x.var v)=true then some (.inl (row++[x],false)) else some (.inl ((row++[{ var:=v,value:=w }])++[x],true)))
  (h3:∀row,row.length≤1000→fin (row,true)=K row) (h4:∀row,row.length≤1000→fin (row,false)=K (row++[{ var:=v,value:=w }])) (b:List Zs) (hb:b.length≤100):Zo body fin b 0 ([],false)=K (Zfx b v w):=by
 rw [Zal (fun l _ s=>K (s.1++(if s.2=true then l else Zfx l v w))) (fun l _ s=>s.1.length+2 * l.length≤900) ?_ ?_ b 0 ([],false) (by simp;omega)]
 ·simp
 ·rintro i ⟨row,done⟩ hI
  simp only [List.length_nil] at hI
  cases done with
  | true=>rw [h3 row (by omega)];simp
  | false=>rw [h4 row (by omega)];simp [Zfx]
 ·rintro x l i ⟨row,done⟩ hI
  simp only [List.length_cons] at hI
  left
  cases done with
  | true=>exact ⟨_,h1 i x row (by omega),by simp;omega,by simp⟩
  | false=>
   rw [h2 i x row (by omega)]
   by_cases hs:sLt v x.var=true
   ·rw [if_neg (by rw [Zp2];simpa using hs)]
    exact ⟨_,rfl,by simp;omega,by simp [Zfx,hs]⟩
   ·rw [if_pos (Zp2.2 hs)]
    exact ⟨_,rfl,by simp;omega,by simp [Zfx,hs]⟩
def Zkg:Option (List Zs)→List Zs × Bool
 | some b=>(b,true)
 | none=>([],false)
theorem Zhl {b:List Zs} {v w:ByteArray} (h:¬(ZW b=true∧Ye v=true∧ZQ w=true)):Zkg (ZfH b v w)=([],false):=by
 unfold ZfH
 rw [if_neg h]
 rfl
theorem Zjj {b:List Zs} {v w:ByteArray} (h1:ZW b=true) (h2:Ye v=true) (h3:ZQ w=true):ZfH b v w=match Xm b v with | some old=>if old=w then some b else none | none=>if b.length=6 then none else some (Zfx b v w):=by
 unfold ZfH
 exact if_pos ⟨h1,h2,h3⟩
theorem X2 {b:List Zs} (h:ZW b=true):b.length≤6:=by
 unfold ZW at h
 rw [Bool.and_eq_true,decide_eq_true_iff] at h
 exact h.1
theorem Zqa (b:List Zs) (v w:ByteArray):ZgK b v w=some (Zkg (ZfH b v w)):=by
 unfold ZgK
 rw [i_IsBinding_eq,Option.bind_some]
 by_cases h1:ZW b=true
 ·rw [if_pos h1,ZdQ,Option.bind_some]
  by_cases h2:Ye v=true
  ·rw [if_pos h2,X1,Option.bind_some]
   by_cases h3:ZQ w=true
   ·have h6:=X2 h1
    rw [if_pos h3,ZcY,Option.bind_some,Zb3,ZfA h2]
    cases hg:Xm b v with
    | some old=>
     have hx:ZfH b v w=if old=w then some b else none:=by rw [Zjj h1 h2 h3,hg]
     rw [hx]
     show (if true=true then (if sEq old w=true then _ else _) else _)=_
     rw [if_pos rfl]
     by_cases he:old=w
     ·rw [if_pos (ZO.2 he),if_pos he]
      unfold ZaT
      rw [Zh _ (by omega)]
      rfl
     ·rw [if_neg (by rw [ZO];exact he),if_neg he]
      rfl
    | none=>
     have hx:ZfH b v w=if b.length=6 then none else some (Zfx b v w):=by rw [Zjj h1 h2 h3,hg]
     rw [hx]
     show (if false=true then _ else _)=_
     rw [if_neg (by simp)]
     by_cases hl:b.length=6
     ·rw [if_pos (by simp;omega),if_pos hl]
      rfl
     ·rw [if_neg (by simp;omega),if_neg hl]
      refine Zre (K:=fun r=>some (r,true)) (fun i x row hr=>?_) (fun i x row hr=>?_) (fun row hr=>?_) (fun row hr=>?_) b (by omega)
      ·show (if true=true then _ else _)=_
       rw [if_pos rfl,Zh _ (by omega)]
      ·show (if false=true then _ else _)=_
       rw [if_neg (by simp)]
       split
       ·rw [Zh _ (by omega)]
       ·rw [Zh _ (by omega),Zh _ (by omega)]
      ·show (if true=true then _ else _)=_
       rw [if_pos rfl]
      ·show (if false=true then _ else _)=_
       rw [if_neg (by simp),Zh _ (by omega)]
   ·rw [if_neg h3,Zhl (fun h=>h3 h.2.2)]
  ·rw [if_neg h2,Zhl (fun h=>h2 h.2.1)]
 ·rw [if_neg h1,Zhl (fun h=>h1 h.1)]
theorem ZsF (b:List Zs) (v w:ByteArray) (hb:b.length≤100):ZiO b v w=some (Zfx b v w):=by
 unfold ZiO
 refine Zre (K:=fun r=>some r) (fun i x row hr=>?_) (fun i x row hr=>?_) (fun row hr=>?_) (fun row hr=>?_) b hb
 ·show (if true=true then _ else _)=_
  rw [if_pos rfl,Zh _ (by omega)]
 ·show (if false=true then _ else _)=_
  rw [if_neg (by simp)]
  split
  ·rw [Zh _ (by omega)]
  ·rw [Zh _ (by omega),Zh _ (by omega)]
 ·show (if true=true then _ else _)=_
  rw [if_pos rfl]
 ·show (if false=true then _ else _)=_
  rw [if_neg (by simp),Zh _ (by omega)]
theorem Zq2 (b:List Zs) (v w:ByteArray) (hb:b.length≤1048576):ZgN b v w=some (Zkg (ZfH b v w)):=by
 unfold ZgN
 rw [QB b hb,Option.bind_some]
 by_cases h1:ZW b=true
 ·rw [if_pos h1,QW,Option.bind_some]
  by_cases h2:Ye v=true
  ·rw [if_pos h2,X6,Option.bind_some]
   by_cases h3:ZQ w=true
   ·have h6:=X2 h1
    rw [if_pos h3,ZcU,Option.bind_some,Zb3,ZfA h2]
    cases hg:Xm b v with
    | some old=>
     have hx:ZfH b v w=if old=w then some b else none:=by rw [Zjj h1 h2 h3,hg]
     rw [hx]
     show (if true=true then (if sEq old w=true then _ else _) else _)=_
     rw [if_pos rfl]
     by_cases he:old=w
     ·rw [if_pos (ZO.2 he),if_pos he]
      unfold ZcA
      rw [Zh _ (by omega)]
      rfl
     ·rw [if_neg (by rw [ZO];exact he),if_neg he]
      rfl
    | none=>
     have hx:ZfH b v w=if b.length=6 then none else some (Zfx b v w):=by rw [Zjj h1 h2 h3,hg]
     rw [hx]
     show (if false=true then _ else _)=_
     rw [if_neg (by simp)]
     by_cases hl:b.length=6
     ·rw [if_pos (by simp;omega),if_pos hl]
      rfl
     ·rw [if_neg (by simp;omega),if_neg hl,ZsF _ _ _ (by omega)]
      rfl
   ·rw [if_neg h3,Zhl (fun h=>h3 h.2.2)]
  ·rw [if_neg h2,Zhl (fun h=>h2 h.2.1)]
 ·rw [if_neg h1,Zhl (fun h=>h1 h.1)]
theorem Zfh {fa:List ByteArray} {body:Nat→ByteArray→List Zs→Option (List Zs ⊕ (List Zs × Bool))}
  (hb:∀i a w row,fa[i]?=some w→ZW row=true→body i a row=if ZQ a=true then (if a=w then some (.inl row) else some (.inr ([],false))) else (match ZfH row a w with | some r=>some (.inl r) | none=>some (.inr ([],false)))):
  ∀(l:List ByteArray) (i:Nat) (row:List Zs),i+l.length=fa.length→ZW row=true→Zo body (fun row=>some (row,true)) l i row=some (Zkg (Zbb l (fa.drop i) row))
 | [],i,row,_,_=>by simp [Zo,Zbb,Zkg]
 | a::l,i,row,h,hr=>by
  simp only [List.length_cons] at h
  have hi:i<fa.length:=by omega
  have hw:fa[i]?=some fa[i]:=List.getElem?_eq_getElem hi
  rw [List.drop_eq_getElem_cons hi]
  simp only [Zbb]
  have e:=hb i a _ row hw hr
  by_cases ha:ZQ a=true
  ·rw [if_pos ha] at e ⊢
   by_cases hq:a=fa[i]
   ·rw [if_pos hq] at e ⊢
    rw [ZX e]
    exact Zfh hb l (i+1) row (by omega) hr
   ·rw [if_neg hq] at e ⊢
    rw [Yi e]
    rfl
  ·rw [if_neg ha] at e ⊢
   cases hx:ZfH row a fa[i] with
   | none=>
    rw [hx] at e
    rw [Yi e]
    rfl
   | some r=>
    rw [hx] at e
    rw [ZX e,Option.bind_some]
    exact Zfh hb l (i+1) r (by omega) (Zte hx).1
theorem Zgr (p:Zv) (f:Zb) (b:List Zs):Za0 p f b=some (Zkg (QG p f b)):=by
 unfold Za0 QG Zcp
 rw [Zbe,Option.bind_some]
 cases h1:ZR p with
 | false=>rfl
 | true=>
  rw [if_pos rfl,Zj8,Option.bind_some]
  cases h2:Yb f with
  | false=>rfl
  | true=>
   rw [if_pos rfl,i_IsBinding_eq,Option.bind_some]
   cases h3:ZW b with
   | false=>rfl
   | true=>
    rw [if_pos rfl]
    by_cases h4:p.rel=f.rel
    ·rw [if_pos (ZO.2 h4),decide_eq_true h4]
     by_cases h5:p.args.length=f.args.length
     ·have h6:=X2 h3
      rw [if_neg (by simp;omega),decide_eq_true h5]
      unfold ZaT
      rw [Zh _ (by omega),Option.bind_some]
      rw [Zfh (fa:=f.args) (fun i a w row hw hr=>?_) p.args 0 b (by omega) h3]
      ·rfl
      ·rw [X1,Option.bind_some,Zav,hw,Option.bind_some,Option.bind_some]
       split
       ·by_cases hq:a=w
        ·rw [if_pos (ZO.2 hq),if_pos hq]
        ·rw [if_neg (by rw [ZO];exact hq),if_neg hq]
       ·rw [Zqa,Option.bind_some]
        cases ZfH row a w<;>rfl
     ·rw [if_pos (by simp;omega),decide_eq_false h5]
      rfl
    ·rw [if_neg (by rw [ZO];exact h4),decide_eq_false h4]
     rfl
theorem Zgn (p:Zv) (f:Zb) (b:List Zs) (hb:b.length≤1048576):Za3 p f b=some (Zkg (QG p f b)):=by
 unfold Za3 QG Zcp
 rw [QK,Option.bind_some]
 cases h1:ZR p with
 | false=>rfl
 | true=>
  rw [if_pos rfl,Zko,Option.bind_some]
  cases h2:Yb f with
  | false=>rfl
  | true=>
   rw [if_pos rfl,QB b hb,Option.bind_some]
   cases h3:ZW b with
   | false=>rfl
   | true=>
    rw [if_pos rfl]
    by_cases h4:p.rel=f.rel
    ·rw [if_pos (ZO.2 h4),decide_eq_true h4]
     by_cases h5:p.args.length=f.args.length
     ·have h6:=X2 h3
      rw [if_neg (by simp;omega),decide_eq_true h5]
      unfold ZcA
      rw [Zh _ (by omega),Option.bind_some]
      rw [Zfh (fa:=f.args) (fun i a w row hw hr=>?_) p.args 0 b (by omega) h3]
      ·rfl
      ·have hr6:=X2 hr
       rw [X6,Option.bind_some,Zav,hw,Option.bind_some,Option.bind_some]
       split
       ·by_cases hq:a=w
        ·rw [if_pos (ZO.2 hq),if_pos hq]
        ·rw [if_neg (by rw [ZO];exact hq),if_neg hq]
       ·rw [Zq2 _ _ _ (by omega),Option.bind_some]
        cases ZfH row a w<;>rfl
     ·rw [if_pos (by simp;omega),decide_eq_false h5]
      rfl
    ·rw [if_neg (by rw [ZO];exact h4),decide_eq_false h4]
     rfl
def YE:Option Zb→Zb × Bool
 | some f=>(f,true)
 | none=>({ rel:=⟨#[]⟩,args:=[] },false)
theorem Znz {b:List Zs} {rel:ByteArray} {body:Nat→ByteArray→List ByteArray→Option (List ByteArray ⊕ (Zb × Bool))} (hb:∀i a row,row.length≤1048576→body i a row=match YU b a with | some v=>some (.inl (row++[v])) | none=>some (.inr ({ rel:=⟨#[]⟩,args:=[] },false))) (l:List ByteArray) (hl:l.length≤1000000):
  Zo body (fun row=>some ({ rel:=rel,args:=row },true)) l 0 []=some (YE ((ZaX l b).map fun l=>{ rel:=rel,args:=l })):=by
 rw [Zal (fun l _ row=>some (YE ((ZaX l b).map fun l=>{ rel:=rel,args:=row++l }))) (fun l _ row=>row.length+l.length≤1048576) ?_ ?_ l 0 [] (by simp;omega)]
 ·simp
 ·intro i row _
  simp [ZaX,YE]
 ·intro a l i row hI
  simp only [List.length_cons] at hI
  have e:=hb i a row (by omega)
  cases hv:YU b a with
  | none=>
   rw [hv] at e
   exact .inr ⟨_,e,by simp [ZaX,hv,YE]⟩
  | some v=>
   rw [hv] at e
   refine .inl ⟨_,e,by simp;omega,?_⟩
   simp only [ZaX,hv,Option.bind_some,Option.map_map]
   cases ZaX l b<;>simp
theorem Zcd (p:Zv) (b:List Zs):XL p b=some (YE (Yf p b)):=by
 unfold XL Yf
 rw [Zbe,Option.bind_some]
 cases h1:ZR p with
 | false=>rfl
 | true=>
  rw [if_pos rfl,i_IsBinding_eq,Option.bind_some]
  cases h3:ZW b with
  | false=>rfl
  | true=>
   have hl:p.args.length≤3:=by unfold ZR at h1;simp at h1;exact h1.1.2
   rw [if_pos rfl,if_pos ⟨rfl,rfl⟩,Znz (b:=b) (fun i a row hr=>?_) p.args (by omega)]
   rw [ZcY,Option.bind_some,Zb3]
   cases YU b a with
   | none=>rfl
   | some v=>
    show (if true=true then _ else _)=_
    rw [if_pos rfl,Zh _ (by omega)]
    rfl
theorem Zez (p:Zv) (b:List Zs) (hb:b.length≤1048576):Yy p b=some (YE (Yf p b)):=by
 unfold Yy Yf
 rw [QK,Option.bind_some]
 cases h1:ZR p with
 | false=>rfl
 | true=>
  rw [if_pos rfl,QB b hb,Option.bind_some]
  cases h3:ZW b with
  | false=>rfl
  | true=>
   have hl:p.args.length≤3:=by unfold ZR at h1;simp at h1;exact h1.1.2
   rw [if_pos rfl,if_pos ⟨rfl,rfl⟩,Znz (b:=b) (fun i a row hr=>?_) p.args (by omega)]
   rw [ZcU,Option.bind_some,Zb3]
   cases YU b a with
   | none=>rfl
   | some v=>
    show (if true=true then _ else _)=_
    rw [if_pos rfl,Zh _ (by omega)]
    rfl
theorem Zfu (o:Option (List Zs)):(Zkg o).2=o.isSome:=by cases o<;>rfl
theorem Zdi (p:Zv) (b:List Zs) (F:List Zb) (hF:F.length≤1048576) (ha:∀f∈F,f.args.length≤1048576):Xt p b F=some (ZbI p b F):=by
 unfold Xt ZbI
 rw [Zcm (p:=fun f=>(QG p f b).isSome)]
 ·simp
 ·intro j f s mf hs
  rw [Zgr,Option.bind_some,Zfu]
  split
  ·rw [YN f (ha f mf),Option.bind_some,Zh _ (by simp at hs;omega)]
  ·rfl
theorem Zdu (p:Zv) (b:List Zs) (F:List Zb) (hb:b.length≤1048576) (hF:F.length≤1048576) (ha:∀f∈F,f.args.length≤1048576):Xs p b F=some (ZbI p b F):=by
 unfold Xs ZbI
 rw [Zcm (p:=fun f=>(QG p f b).isSome)]
 ·simp
 ·intro j f s mf hs
  rw [Zgn _ _ _ hb,Option.bind_some,Zfu]
  split
  ·rw [Xb f (ha f mf),Option.bind_some,Zh _ (by simp at hs;omega)]
  ·rfl
theorem Zk2 (x:Zt) (b:List Zs):Zcs x b=some (ZmJ x b):=by
 unfold Zcs ZmJ Zi1
 rw [Zg4,Option.bind_some]
 cases h1:Yk x with
 | false=>rfl
 | true=>
  rw [if_pos rfl,Option.bind_some]
  by_cases h2:3≤x.kind
  ·rw [if_pos (by simpa using h2),i_IsBinding_eq,Option.bind_some]
   cases h3:ZW b with
   | false=>simp
   | true=>
    rw [if_pos rfl,if_pos ⟨rfl,h2,rfl⟩,ZcY,Option.bind_some,ZcY,Option.bind_some,Zb3,Zb3]
    cases YU b x.left with
    | none=>rfl
    | some l=>
     cases YU b x.right with
     | none=>rfl
     | some r=>
      show (if true=true then (if true=true then (if (x.kind==3)=true then some (sEq l r) else _) else _) else _)=some (Zq1 x.kind l r)
      rw [if_pos rfl,if_pos rfl]
      unfold Zq1
      by_cases k3:x.kind=3
      ·rw [if_pos (by simpa using k3),if_pos k3];rfl
      ·rw [if_neg (by simpa using k3),if_neg k3]
       by_cases k4:x.kind=4
       ·rw [if_pos (by simpa using k4),if_pos k4];rfl
       ·rw [if_neg (by simpa using k4),if_neg k4,Zb7,Option.bind_some,Zb7,Option.bind_some]
        show (if (ZdG l).2=true then (if (ZdG r).2=true then some (decide ((ZdG l).1<(ZdG r).1)) else some false) else some false)=_
        unfold ZdG Zv6
        cases Qy l<;>cases Qy r<;>simp
  ·rw [if_neg (by simpa using h2),if_neg (fun h=>h2 h.2.1)]
theorem ZlC (x:Zt) (b:List Zs) (hb:b.length≤1048576):Zcj x b=some (ZmJ x b):=by
 unfold Zcj ZmJ Zbf
 rw [Zcv,Option.bind_some]
 cases h1:Yk x with
 | false=>rfl
 | true=>
  rw [if_pos rfl,Option.bind_some]
  by_cases h2:3≤x.kind
  ·rw [if_pos (by simpa using h2),QB b hb,Option.bind_some]
   cases h3:ZW b with
   | false=>simp
   | true=>
    rw [if_pos rfl,if_pos ⟨rfl,h2,rfl⟩,ZcU,Option.bind_some,ZcU,Option.bind_some,Zb3,Zb3]
    cases YU b x.left with
    | none=>rfl
    | some l=>
     cases YU b x.right with
     | none=>rfl
     | some r=>
      show (if true=true then (if true=true then (if (x.kind==3)=true then some (sEq l r) else _) else _) else _)=some (Zq1 x.kind l r)
      rw [if_pos rfl,if_pos rfl]
      unfold Zq1
      by_cases k3:x.kind=3
      ·rw [if_pos (by simpa using k3),if_pos k3];rfl
      ·rw [if_neg (by simpa using k3),if_neg k3]
       by_cases k4:x.kind=4
       ·rw [if_pos (by simpa using k4),if_pos k4];rfl
       ·rw [if_neg (by simpa using k4),if_neg k4]
        unfold ZdN
        rw [Zap,Option.bind_some,Option.bind_some]
        show (if (ZdG l).2=true then ((Qe r).bind fun v1=>some v1.2).bind (fun v6=>if v6=true then (Xd l r).bind fun v7=>some (decide (v7<0)) else some false) else some false)=_
        unfold Zv6
        cases hl:Qy l with
        | none=>simp [ZdG,hl]
        | some m=>
         rw [if_pos (by simp [ZdG,hl]),Zap,Option.bind_some,Option.bind_some]
         cases hr:Qy r with
         | none=>simp [ZdG,hr]
         | some n=>
          have hd:decide (ZfX l r<0)=decide (m<n):=by
           have hc:ZfX l r=ZkE m n:=by unfold ZfX;rw [hl,hr]
           rw [hc,Bool.eq_iff_iff,decide_eq_true_iff,decide_eq_true_iff]
           unfold ZkE
           split
           ·omega
           ·split<;>omega
          rw [if_pos (by simp [ZdG,hr]),Zec,Option.bind_some,hd]
  ·rw [if_neg (by simpa using h2),if_neg (fun h=>h2 h.2.1)]
theorem ZlS (x:Zt) (b:List Zs) (F:List Zb) (hF:F.length≤1048576) (ha:∀f∈F,f.args.length≤1048576):ZcD x b F=some (Zak x b F):=by
 unfold ZcD Zak
 rw [Zg4,Option.bind_some]
 cases h1:Yk x with
 | false=>rfl
 | true=>
  rw [if_pos rfl,i_IsBinding_eq,Option.bind_some]
  cases h3:ZW b with
  | false=>rfl
  | true=>
   rw [if_pos rfl,if_pos (show true=true∧true=true from ⟨rfl,rfl⟩)]
   by_cases k1:x.kind=1
   ·rw [if_pos (by simpa using k1),if_pos k1,Zdi _ _ _ hF ha,Option.bind_some]
    congr 1
    rw [Bool.eq_iff_iff];simp
   ·rw [if_neg (by simpa using k1),if_neg k1]
    by_cases k2:x.kind=2
    ·rw [if_pos (by simpa using k2),if_pos k2,Zdi _ _ _ hF ha,Option.bind_some,Zud]
    ·rw [if_neg (by simpa using k2),if_neg k2,Zk2]
     rfl
theorem ZlR (x:Zt) (b:List Zs) (F:List Zb) (hb:b.length≤1048576) (hF:F.length≤1048576) (ha:∀f∈F,f.args.length≤1048576):Zcl x b F=some (Zak x b F):=by
 unfold Zcl Zak
 rw [Zcv,Option.bind_some]
 cases h1:Yk x with
 | false=>rfl
 | true=>
  rw [if_pos rfl,QB b hb,Option.bind_some]
  cases h3:ZW b with
  | false=>rfl
  | true=>
   rw [if_pos rfl,if_pos (show true=true∧true=true from ⟨rfl,rfl⟩)]
   by_cases k1:x.kind=1
   ·rw [if_pos (by simpa using k1),if_pos k1,Zdu _ _ _ hb hF ha,Option.bind_some]
    congr 1
    rw [Bool.eq_iff_iff];simp
   ·rw [if_neg (by simpa using k1),if_neg k1]
    by_cases k2:x.kind=2
    ·rw [if_pos (by simpa using k2),if_pos k2,Zdu _ _ _ hb hF ha,Option.bind_some,Zud]
    ·rw [if_neg (by simpa using k2),if_neg k2,ZlC _ _ hb]
     rfl
end Go.Proofs.YtfehfkfdfmcgfaaGreatDoor
namespace Go.Proofs.YtfehfkfdfmcgfaaGreatDoor
theorem XB {r:Zg} (h:YQ r=true):r.cond.length≤4∧r.thn.length≤2:=by
 simp only [YQ,Bool.and_eq_true,decide_eq_true_eq] at h
 omega
def Zot (r:Zg):Bool:=r.thn.all fun a=>decide (a.kind=1)
def Zgu (r:Zg) (i:Nat) (x:Zt):Bool:=!decide (x.kind=2)||(YB x).all (Yx (YD r i))
def ZM (r:Zg):Bool:=YQ r&&allI (Zgu r) r.cond 0&&Zot r
theorem Zm7 (a b:List ByteArray):Zdm a b=some (a.all (Yx b)):=by
 unfold Zdm
 rw [ZU (p:=Yx b) (r:=false)]
 ·cases a.all (Yx b)<;>rfl
 ·intro i x _
  rw [YV,Option.bind_some]
  cases Yx b x<;>simp
theorem ZnC {fin:Unit→Option Bool} {l:List Zz}:Zo (σ:=Unit) (fun (_:Nat) (x:Zz) _=>if (x.kind != 1)=true then some (.inr false) else some (.inl ())) fin l 0 ()=if (l.all fun a=>decide (a.kind=1))=true then fin () else some false:=by
 refine ZU fun i x _=>?_
 by_cases h:x.kind=1
 ·simp [h]
 ·have:(x.kind != 1)=true:=by simpa using h
  simp [this,h]
theorem ZmX (r:Zg):ZdJ r=some (Zot r):=by
 unfold ZdJ Zot
 rw [ZnC]
 cases r.thn.all fun a=>decide (a.kind=1)<;>rfl
theorem ZlX (r:Zg) (h:QC r):Zcx r=some (ZM r):=by
 unfold Zcx ZM
 rw [Zgg r h,Option.bind_some]
 cases hr:YQ r with
 | false=>simp
 | true=>
  have h4:=(XB hr).1
  simp only [if_true,Bool.true_and]
  rw [Xu (p:=Zgu r) (r:=false),ZnC]
  ·unfold Zot
   cases allI (Zgu r) r.cond 0<;>cases r.thn.all fun a=>decide (a.kind=1)<;>simp
  ·intro j x hj
   rw [Nat.zero_add,Zcc x (by have:=h.ca x (List.mem_of_getElem? hj);omega),ZdY r _ h h4,Int.toNat_natCast]
   simp only [Option.bind_some,Zm7,Zgu]
   by_cases hk:x.kind=2
   ·simp only [hk,beq_self_eq_true,if_true,decide_true,Bool.not_true,Bool.false_or]
    cases (YB x).all (Yx (YD r j))<;>simp
   ·simp [hk]
theorem ZlO (r:Zg) (h:QC r):Zci r=some (ZM r):=by
 unfold Zci ZM
 rw [Zj7 r h,Option.bind_some,ZmX]
 cases hr:YQ r with
 | false=>simp
 | true=>
  have h4:=(XB hr).1
  simp only [if_true,Bool.true_and,Option.bind_some]
  rw [Xu (p:=Zgu r) (r:=false)]
  ·cases allI (Zgu r) r.cond 0<;>cases Zot r<;>simp
  ·intro j x hj
   rw [Nat.zero_add,Zb6 x (by have:=h.ca x (List.mem_of_getElem? hj);omega),Zdy r _ h h4,Int.toNat_natCast]
   simp only [Option.bind_some,Zgu]
   by_cases hk:x.kind=2
   ·simp only [hk,bne_self_eq_false,Bool.false_eq_true,if_false,decide_true,Bool.not_true,Bool.false_or]
    rw [ZU (p:=Yx (YD r j)) (r:=.inr false)]
    ·cases (YB x).all (Yx (YD r j))<;>simp
    ·intro k v _
     rw [Q5,Option.bind_some]
     cases Yx (YD r j) v<;>simp
   ·have:(x.kind != 2)=true:=by simpa using hk
    simp [hk,this]
theorem ZME {l:List Nat} {x:Nat} (h:x∈l):x≤l.sum:=by
 induction l with
 | nil=>simp at h
 | cons a r ih=>
  rcases List.mem_cons.1 h with h | h
  ·subst h;simp
  ·have:=ih h;simp;omega
theorem ZLw {α:Type} {f:α→Nat} {l:List α} {n:Nat} (h:l.length+(l.map f).sum≤n) {x:α} (hx:x∈l):f x≤n:=by
 have:=ZME (List.mem_map_of_mem (f:=f) hx)
 omega
theorem ZL4 {l:List Zt} (h:ZJR l≤1048576):l.length≤1048576∧∀x∈l,x.pattern.args.length≤1048576:=by
 unfold ZJR at h
 refine ⟨by omega,fun x mx=>?_⟩
 have:=ZLw (f:=ZJY) h mx
 simp only [ZJY,ZJH,ZrM] at this
 omega
theorem ZMt {r:Zg} (h:ZJO r≤1048576):QC r:=by
 simp only [ZJO] at h
 have h1:ZJR r.cond≤1048576:=by omega
 have h2:ZJJ r.thn≤1048576:=by omega
 obtain ⟨a,b⟩:=ZL4 h1
 refine ⟨a,?_,b,fun x mx=>?_⟩
 ·unfold ZJJ at h2;omega
 ·unfold ZJJ at h2
  have:=ZLw (f:=ZJN) h2 mx
  simp only [ZJN,ZJH,ZrM] at this
  omega
end Go.Proofs.YtfehfkfdfmcgfaaGreatDoor
namespace Go.Proofs.YtfehfkfdfmcgfaaGreatDoor
section
variable {α σ ρ:Type} {body:Nat→α→σ→Option (σ ⊕ ρ)}
theorem Zoo (I:List α→σ→Prop) (Q:ρ→Prop):∀(l pre:List α) (s:σ),I pre s→(∀p x s,x∈l→p.length<pre.length+l.length→I p s→(∃s',body p.length x s=some (.inl s')∧I (p++[x]) s')∨∃r,body p.length x s=some (.inr r)∧Q r)→
  (∃s',(∀fin:σ→Option ρ,Zo body fin l pre.length s=fin s')∧I (pre++l) s')∨∃r,(∀fin:σ→Option ρ,Zo body fin l pre.length s=some r)∧Q r
 | [],pre,s,h,_=>.inl ⟨s,fun _=>rfl,by simpa using h⟩
 | x::l,pre,s,h,hs=>by
  rcases hs pre x s (by simp) (by simp) h with ⟨s',e,h'⟩ | ⟨r,e,h'⟩
  ·rcases Zoo I Q l (pre++[x]) s' h' fun p y s m hp hI=>hs p y s (by simp [m]) (by simp at hp ⊢;omega) hI with ⟨s2,e2,h2⟩ | ⟨r,e2,h2⟩
   ·refine .inl ⟨s2,fun fin=>?_,by simpa using h2⟩
    rw [ZX e]
    simpa using e2 fin
   ·refine .inr ⟨r,fun fin=>?_,h2⟩
    rw [ZX e]
    simpa using e2 fin
  ·exact .inr ⟨r,fun fin=>Yi e,h'⟩
theorem ZbG (I:List α→σ→Prop) (Q:ρ→Prop) (l:List α) (s:σ) (h:I [] s) (hs:∀p x s,x∈l→p.length<l.length→I p s→(∃s',body p.length x s=some (.inl s')∧I (p++[x]) s')∨∃r,body p.length x s=some (.inr r)∧Q r):
  (∃s',(∀fin:σ→Option ρ,Zo body fin l 0 s=fin s')∧I l s')∨∃r,(∀fin:σ→Option ρ,Zo body fin l 0 s=some r)∧Q r:=by
 have:=Zoo I Q l [] s h fun p x s m hp hI=>hs p x s m (by simpa using hp) hI
 simpa using this
theorem ZeL (I:List α→σ→Prop) (l:List α) (s:σ) (h:I [] s) (hs:∀p x s,x∈l→p.length<l.length→I p s→∃s',body p.length x s=some (.inl s')∧I (p++[x]) s'):∃s',(∀fin:σ→Option ρ,Zo body fin l 0 s=fin s')∧I l s':=by
 rcases ZbG I (fun _=>False) l s h fun p x s m hp hI=>.inl (hs p x s m hp hI) with h | ⟨_,_,h⟩
 ·exact h
 ·exact h.elim
end
def Xk (r:Zg):List ByteArray:=r.thn.filterMap fun x=>if x.kind=1∨x.kind=2 then some x.pattern.rel else none
def Yq (r:Zg):List ByteArray:=r.cond.filterMap fun x=>if x.kind=1∨x.kind=2 then some x.pattern.rel else none
theorem Zqp (r:Zg):(Xk r).length≤r.thn.length:=List.length_filterMap_le _ _
theorem ZlT (r:Zg):(Yq r).length≤r.cond.length:=List.length_filterMap_le _ _
theorem ZhI (r:Zg) (h:r.thn.length≤1048576):Qf r=some (ZT (Xk r)):=by
 unfold Qf
 rw [YC (g:=fun x:Zz=>if x.kind=1∨x.kind=2 then some x.pattern.rel else none)]
 ·have:=Zqp r
  simp only [List.nil_append]
  show (Ym (Xk r)).bind _=_
  rw [XZ _ (by omega)]
  rfl
 ·intro j x s _ hs
  simp at hs
  by_cases h1:x.kind=1
  ·simp only [h1,beq_self_eq_true,if_true];rw [Zh _ (by omega)];rfl
  ·by_cases h2:x.kind=2
   ·have:((2:Int)==1)=false:=by decide
    simp only [h2,this,Bool.false_eq_true,if_false,beq_self_eq_true,if_true];rw [Zh _ (by omega)];rfl
   ·simp [h1,h2]
theorem ZoQ (r:Zg) (h:r.cond.length≤1048576):ZbX r=some (ZT (Yq r)):=by
 unfold ZbX
 rw [YC (g:=fun x:Zt=>if x.kind=1∨x.kind=2 then some x.pattern.rel else none)]
 ·have:=ZlT r
  simp only [List.nil_append]
  show (Ym (Yq r)).bind _=_
  rw [XZ _ (by omega)]
  rfl
 ·intro j x s _ hs
  simp at hs
  by_cases h1:x.kind=1
  ·simp only [h1,beq_self_eq_true,if_true];rw [Zh _ (by omega)];rfl
  ·by_cases h2:x.kind=2
   ·have:((2:Int)==1)=false:=by decide
    simp only [h2,this,Bool.false_eq_true,if_false,beq_self_eq_true,if_true];rw [Zh _ (by omega)];rfl
   ·simp [h1,h2]
theorem Zj0 {α:Type} (kd:α→Int) (f:α→ByteArray):∀(l:List α) (acc:List ByteArray),l.foldl (fun s x=>if kd x=1∨kd x=2 then Qh s (f x) else s) acc=(l.filterMap fun x=>if kd x=1∨kd x=2 then some (f x) else none).foldl Qh acc
 | [],_=>rfl
 | x::l,acc=>by
  rw [List.foldl_cons,Zj0 kd f l]
  by_cases h:kd x=1∨kd x=2<;>simp [h]
theorem ZhJ (r:Zg) (h:r.thn.length≤1048576):QR r=some (ZT (Xk r)):=by
 unfold QR
 rw [YM (f:=fun s (x:Zz)=>if x.kind=1∨x.kind=2 then Qh s x.pattern.rel else s) (fun j s=>s.length≤j) (by simp)]
 ·congr 1
  exact Zj0 (fun x:Zz=>x.kind) (fun x=>x.pattern.rel) r.thn []
 ·intro j x s _ _ hl hI
  have:=Zdx x.pattern.rel s
  by_cases h1:x.kind=1
  ·simp only [h1,beq_self_eq_true,if_true,true_or];rw [Qb _ _ (by omega)];exact ⟨rfl,by omega⟩
  ·by_cases h2:x.kind=2
   ·have:((2:Int)==1)=false:=by decide
    simp only [h2,this,Bool.false_eq_true,if_false,beq_self_eq_true,if_true,or_true];rw [Qb _ _ (by omega)];exact ⟨rfl,by omega⟩
   ·simp [h1,h2];omega
theorem Zpo (r:Zg) (h:r.cond.length≤1048576):ZbY r=some (ZT (Yq r)):=by
 unfold ZbY
 rw [YM (f:=fun s (x:Zt)=>if x.kind=1∨x.kind=2 then Qh s x.pattern.rel else s) (fun j s=>s.length≤j) (by simp)]
 ·congr 1
  exact Zj0 (fun x:Zt=>x.kind) (fun x=>x.pattern.rel) r.cond []
 ·intro j x s _ _ hl hI
  have:=Zdx x.pattern.rel s
  by_cases h1:x.kind=1
  ·simp only [h1,beq_self_eq_true,if_true,true_or];rw [Qb _ _ (by omega)];exact ⟨rfl,by omega⟩
  ·by_cases h2:x.kind=2
   ·have:((2:Int)==1)=false:=by decide
    simp only [h2,this,Bool.false_eq_true,if_false,beq_self_eq_true,if_true,or_true];rw [Qb _ _ (by omega)];exact ⟨rfl,by omega⟩
   ·simp [h1,h2];omega
def Zdq (R:List Zg) (x y:ByteArray):Prop:=∃r∈R,x∈Xk r∧y∈Yq r
inductive YJ (R:List Zg) (a:ByteArray):ByteArray→Prop
 | one {y:ByteArray}:Zdq R a y→YJ R a y
 | next {x y:ByteArray}:YJ R a x→Zdq R x y→YJ R a y
theorem YJ.step {R:List Zg} {a x y:ByteArray} (hx:x=a∨YJ R a x) (h:Zdq R x y):YJ R a y:=by
 rcases hx with rfl | hx
 ·exact .one h
 ·exact .next hx h
structure Zbc (R:List Zg):Prop where
 s:∀r∈R,QC r
 n:(R.flatMap Yq).length≤1048576
theorem Zf8 {m:List (ByteArray × Bool)} {k y:ByteArray}:Zah (Zfn m k true) y false=if y=k then true else Zah m y false:=by
 unfold Zah
 induction m with
 | nil=>
  by_cases h:y=k<;>simp [Zfn,ZfW,h]
 | cons p r ih=>
  simp only [Zfn]
  by_cases h:k=p.1
  ·subst h
   rw [if_pos rfl]
   by_cases h2:y=p.1
   ·simp [ZfW,h2]
   ·simp [ZfW,h2]
  ·rw [if_neg h]
   by_cases h2:y=p.1
   ·subst h2
    have:¬p.1=k:=fun e=>h e.symm
    simp [ZfW,this]
   ·simp only [ZfW,if_neg h2];exact ih
def ZcF (m:List (ByteArray × Bool)) (y:ByteArray):Prop:=Zah m y false=true
def Zgb (U:List ByteArray) (m:List (ByteArray × Bool)):Nat:=U.countP fun y=>!Zah m y false
theorem Zfb {α:Type} {p q:α→Bool}:∀{l:List α},(∀x∈l,p x=true→q x=true)→∀y∈l,p y=false→q y=true→l.countP p+1≤l.countP q
 | x::l,h,y,hy,h1,h2=>by
  rw [List.countP_cons,List.countP_cons]
  have hle:l.countP p≤l.countP q:=List.countP_mono_left fun z mz=>h z (by simp [mz])
  have hx:=h x (by simp)
  rcases List.mem_cons.1 hy with rfl | hy
  ·simp [h1,h2];omega
  ·have ih:=Zfb (p:=p) (q:=q) (l:=l) (fun z mz=>h z (by simp [mz])) y hy h1 h2
   cases hp:p x with
   | true=>simp [hx hp];omega
   | false=>cases q x<;>simp<;>omega
structure ZrD (U:List ByteArray) (P:ByteArray→Prop) (s0 s:List (ByteArray × Bool) × List ByteArray):Prop where
 mono:∀y,ZcF s0.1 y→ZcF s.1 y
 fresh:∀y,ZcF s.1 y→ZcF s0.1 y∨(P y∧y∈s.2)
 sub:∀y∈s0.2,y∈s.2
 row:∀y∈s.2,y∈s0.2∨ZcF s.1 y
 cnt:Zgb U s.1+s.2.length≤Zgb U s0.1+s0.2.length
theorem ZrD.refl (U:List ByteArray) (P:ByteArray→Prop) (s:List (ByteArray × Bool) × List ByteArray):ZrD U P s s:=⟨fun _ h=>h,fun _ h=>.inl h,fun _ h=>h,fun _ h=>.inl h,Nat.le_refl _⟩
theorem ZrD.push {U:List ByteArray} {P:ByteArray→Prop} {s0:List (ByteArray × Bool) × List ByteArray} {m:List (ByteArray × Bool)} {row:List ByteArray} (h:ZrD U P s0 (m,row)) {y:ByteArray} (hy:Zah m y false=false) (hU:y∈U) (hP:P y):ZrD U P s0 (Zfn m y true,row++[y]):=by
 have hS:∀z,ZcF (Zfn m y true) z↔z=y∨ZcF m z:=fun z=>by
  unfold ZcF
  rw [Zf8]
  by_cases e:z=y<;>simp [e]
 refine ⟨fun z hz=>(hS z).2 (.inr (h.mono z hz)),fun z hz=>?_,fun z hz=>List.mem_append.2 (.inl (h.sub z hz)),fun z hz=>?_,?_⟩
 ·rcases (hS z).1 hz with rfl | hz
  ·exact .inr ⟨hP,by simp⟩
  ·exact (h.fresh z hz).imp id fun ⟨a,b⟩=>⟨a,List.mem_append.2 (.inl b)⟩
 ·rcases List.mem_append.1 hz with hz | hz
  ·exact (h.row z hz).imp id fun hh=>(hS z).2 (.inr hh)
  ·exact .inr ((hS z).2 (.inl (by simpa using hz)))
 ·have h1:=h.cnt
  have h2:Zgb U (Zfn m y true)+1≤Zgb U m:=Zfb (fun z _ hz=>by
   rw [Zf8] at hz
   by_cases e:z=y
   ·simp [e] at hz
   ·simpa [e] using hz) y hU (by rw [Zf8];simp) (by simp [hy])
  show _+(row++[y]).length≤_
  rw [List.length_append]
  simp only at h1 ⊢
  simp
  omega
theorem Yh {σ ρ:Type} {body:σ→Option (σ ⊕ ρ)} {s s':σ} (h:body s=some (.inl s')):Yp body s=Yp body s':=by rw [Zfq,h]
theorem Z2 {σ ρ:Type} {body:σ→Option (σ ⊕ ρ)} {s:σ} {r:ρ} (h:body s=some (.inr r)):Yp body s=some r:=by rw [Zfq,h]
theorem Zni {R:List Zg} (hR:Zbc R) (a:ByteArray):∃m,Zde R a=some m∧∀y,ZcF m y↔YJ R a y:=by
 have hU:∀r∈R,∀y∈Yq r,y∈R.flatMap Yq:=fun r mr y my=>List.mem_flatMap.2 ⟨r,mr,my⟩
 have key:∀(n:Nat) (m:List (ByteArray × Bool)) (row:List ByteArray),Zgb (R.flatMap Yq) m+row.length≤n→n≤1048577→(∀y,ZcF m y→YJ R a y)→(∀y∈row,y=a∨ZcF m y)→(∀z,(z=a∨ZcF m z)→z∈row∨∀y,Zdq R z y→ZcF m y)→
   ∃m',Yp (σ:=(List (ByteArray × Bool)) × (List ByteArray)) (fun s=>
   match s with
   | (mp_42,row_43)=>
   if (decide (0<((row_43.length:Nat):Int)))=true then
    chk (0≤0∧0<((row_43.length:Nat):Int)) <|
    (row_43[(Int.toNat 0)]?).bind fun x44=>
    chk (0≤1∧1≤((row_43.length:Nat):Int)) <|
    Zo (σ:=(List (ByteArray × Bool)) × (List ByteArray))
     (fun (i72:Nat) (x73:Zg) s=>
      match s with
      | (mp_57,row_58)=>
      (Qf x73).bind fun v74=>
      (Xc v74 x44).bind fun v75=>
      if v75=true then
       (ZbX x73).bind fun v76=>
       Zo (σ:=(List (ByteArray × Bool)) × (List ByteArray))
        (fun (i83:Nat) (x84:ByteArray) s=>
         match s with
         | (mp_80,row_81)=>
         if (Zah mp_80 x84 false)=true then
          some (.inl (mp_80,row_81))
         else
          chk (row_81.length+1≤1073741824) <|
          some (.inl ((Zfn mp_80 x84 true),(row_81++[x84]))))
        (fun s=>
         match s with
         | (mp_80,row_81)=>
         some (.inl (mp_80,row_81)))
        v76 0 (mp_57,row_58)
      else
       some (.inl (mp_57,row_58)))
     (fun s=>
      match s with
      | (mp_57,row_58)=>
      some (.inl (mp_57,row_58)))
     R 0 (mp_42,(List.drop (Int.toNat 1) row_43))
   else
    some (.inr mp_42)) (m,row)=some m'∧∀y,ZcF m' y↔YJ R a y:=by
  intro n
  induction n with
  | zero=>
   intro m row hn _ h1 h2 h3
   have hr:row=[]:=List.eq_nil_of_length_eq_zero (by omega)
   subst hr
   refine ⟨m,by rw [Zfq];rfl,fun y=>⟨h1 y,fun hy=>?_⟩⟩
   induction hy with
   | one h=>exact ((h3 _ (.inl rfl)).resolve_left (by simp)) _ h
   | next _ h ih=>exact ((h3 _ (.inr ih)).resolve_left (by simp)) _ h
  | succ n ih=>
   intro m row hn hN h1 h2 h3
   cases row with
   | nil=>
    refine ⟨m,by rw [Zfq];rfl,fun y=>⟨h1 y,fun hy=>?_⟩⟩
    induction hy with
    | one h=>exact ((h3 _ (.inl rfl)).resolve_left (by simp)) _ h
    | next _ h ih=>exact ((h3 _ (.inr ih)).resolve_left (by simp)) _ h
   | cons x rest=>
    have hx:x=a∨YJ R a x:=(h2 x (by simp)).imp id (h1 x)
    have hn':Zgb (R.flatMap Yq) m+rest.length≤n:=by simp at hn;omega
    obtain ⟨s',e,hg,hd⟩:=ZeL (ρ:=((List (ByteArray × Bool)) × (List ByteArray)) ⊕ (List (ByteArray × Bool))) (body:=fun (i72:Nat) (x73:Zg) (s:(List (ByteArray × Bool)) × (List ByteArray))=>
      match s with
      | (mp_57,row_58)=>
      (Qf x73).bind fun v74=>
      (Xc v74 x).bind fun v75=>
      if v75=true then
       (ZbX x73).bind fun v76=>
       Zo (σ:=(List (ByteArray × Bool)) × (List ByteArray))
        (fun (i83:Nat) (x84:ByteArray) s=>
         match s with
         | (mp_80,row_81)=>
         if (Zah mp_80 x84 false)=true then
          some (.inl (mp_80,row_81))
         else
          chk (row_81.length+1≤1073741824) <|
          some (.inl ((Zfn mp_80 x84 true),(row_81++[x84]))))
        (fun s=>
         match s with
         | (mp_80,row_81)=>
         some (.inl (mp_80,row_81)))
        v76 0 (mp_57,row_58)
      else
       some (.inl (mp_57,row_58))) (fun pre s=>ZrD (R.flatMap Yq) (YJ R a) (m,rest) s∧∀r∈pre,x∈Xk r→∀y∈Yq r,ZcF s.1 y) R (m,rest) ⟨ZrD.refl _ _ _,by simp⟩ fun p r s mr hp hI=>by
     obtain ⟨mp,rw_⟩:=s
     obtain ⟨hg,hd⟩:=hI
     have hsm:=hR.s r mr
     show ∃s',(Qf r).bind _=_∧_
     rw [ZhI r hsm.tl]
     simp only [Option.bind_some]
     rw [Q5]
     simp only [Option.bind_some]
     by_cases hw:x∈Xk r
     ·have hh:Yx (ZT (Xk r)) x=true:=by rw [Xw,ZP];exact hw
      rw [if_pos hh,ZoQ r hsm.cl]
      simp only [Option.bind_some]
      obtain ⟨s2,e2,hg2,hd2⟩:=ZeL (ρ:=((List (ByteArray × Bool)) × (List ByteArray)) ⊕ (((List (ByteArray × Bool)) × (List ByteArray)) ⊕ (List (ByteArray × Bool)))) (body:=fun (i83:Nat) (x84:ByteArray) (s:(List (ByteArray × Bool)) × (List ByteArray))=>
         match s with
         | (mp_80,row_81)=>
         if (Zah mp_80 x84 false)=true then
          some (.inl (mp_80,row_81))
         else
          chk (row_81.length+1≤1073741824) <|
          some (.inl ((Zfn mp_80 x84 true),(row_81++[x84])))) (fun pre s=>ZrD (R.flatMap Yq) (YJ R a) (m,rest) s∧(∀y,ZcF mp y→ZcF s.1 y)∧∀y∈pre,ZcF s.1 y) (ZT (Yq r)) (mp,rw_) ⟨hg,fun _ h=>h,by simp⟩ fun p y s my hp hI=>by
       obtain ⟨m2,row2⟩:=s
       obtain ⟨g2,g3,g4⟩:=hI
       have hyr:y∈Yq r:=ZP.1 my
       by_cases hs:Zah m2 y false=true
       ·refine ⟨(m2,row2),by simp only [hs,if_true],g2,g3,fun z mz=>?_⟩
        rcases List.mem_append.1 mz with mz | mz
        ·exact g4 z mz
        ·rw [List.mem_singleton.1 mz];exact hs
       ·have hf:Zah m2 y false=false:=by simpa using hs
        have hc:=g2.cnt
        have hG:=g2.push hf (hU r mr y hyr) (YJ.step hx ⟨r,mr,hw,hyr⟩)
        have hmono:∀z,ZcF m2 z→ZcF (Zfn m2 y true) z:=fun z hz=>by
         unfold ZcF at *;rw [Zf8];by_cases e:z=y<;>simp [e,hz]
        refine ⟨(Zfn m2 y true,row2++[y]),?_,hG,fun z hz=>hmono z (g3 z hz),fun z mz=>?_⟩
        ·simp only [hf,Bool.false_eq_true,if_false]
         rw [Zh _ (by simp only at hc;omega)]
        ·rcases List.mem_append.1 mz with mz | mz
         ·exact hmono z (g4 z mz)
         ·rw [List.mem_singleton.1 mz];unfold ZcF;rw [Zf8];simp
      refine ⟨s2,by rw [e2],hg2,fun q mq hq y my=>?_⟩
      rcases List.mem_append.1 mq with mq | mq
      ·exact hd2.1 y (hd q mq hq y my)
      ·rw [List.mem_singleton.1 mq] at my
       exact hd2.2 y (ZP.2 my)
     ·have hh:Yx (ZT (Xk r)) x=false:=by
       cases hq:Yx (ZT (Xk r)) x with
       | false=>rfl
       | true=>rw [Xw,ZP] at hq;exact absurd hq hw
      refine ⟨(mp,rw_),by rw [if_neg (by rw [hh];simp)],hg,fun q mq hq=>?_⟩
      rcases List.mem_append.1 mq with mq | mq
      ·exact hd q mq hq
      ·rw [List.mem_singleton.1 mq] at hq;exact absurd hq hw
    obtain ⟨m',row'⟩:=s'
    obtain ⟨m2,r1,r2⟩:=ih m' row' (by have:=hg.cnt;simp only at this;omega) (by omega)
     (fun y hy=>(hg.fresh y hy).elim (h1 y) fun h=>h.1)
     (fun y hy=>by
      rcases hg.row y hy with h | h
      ·exact (h2 y (by simp [show y∈rest from h])).imp id (hg.mono y)
      ·exact .inr h)
     (fun z hz=>by
      have old:(z=a∨ZcF m z)→z∈row'∨∀y,Zdq R z y→ZcF m' y:=fun hz=>by
       rcases h3 z hz with h | h
       ·rcases List.mem_cons.1 h with rfl | h
        ·exact .inr fun y ⟨r,mr,hw,hy⟩=>hd r mr hw y hy
        ·exact .inl (hg.sub z h)
       ·exact .inr fun y hy=>hg.mono y (h y hy)
      rcases hz with hz | hz
      ·exact old (.inl hz)
      ·rcases hg.fresh z hz with h | ⟨_,h⟩
       ·exact old (.inr h)
       ·exact .inl h)
    refine ⟨m2,(Yh ?_).trans r1,r2⟩
    show (if decide (0<(((x::rest).length:Nat):Int))=true then _ else _)=_
    rw [if_pos (decide_eq_true (by simp only [List.length_cons];omega)),Zh _ (by simp only [List.length_cons];omega)]
    show chk _ (Zo _ _ R 0 (m,rest))=_
    rw [Zh _ (by simp only [List.length_cons];omega)]
    exact e _
 unfold Zde
 refine key (Zgb (R.flatMap Yq) []+1) [] [a] (by simp) ?_ (fun y hy=>by simp [ZcF,Zah,ZfW] at hy) (fun y hy=>.inl (by simpa using hy)) (fun z hz=>.inl ?_)
 ·have:=hR.n
  have h2:Zgb (R.flatMap Yq) []≤(R.flatMap Yq).length:=List.countP_le_length
  omega
 ·rcases hz with rfl | hz
  ·simp
  ·simp [ZcF,Zah,ZfW] at hz
def Zjs (U row:List ByteArray):Nat:=U.countP fun y=>!Yx row y
theorem Zof {row:List ByteArray} {y z:ByteArray}:Yx (row++[y]) z=true↔Yx row z=true∨z=y:=by
 rw [Xw,Xw,List.mem_append,List.mem_singleton]
theorem ZpN {U row:List ByteArray} {y:ByteArray} (hU:y∈U) (hy:Yx row y=false):Zjs U (row++[y])+1≤Zjs U row:=
 Zfb (fun z _ hz=>by
  cases h:Yx row z with
  | false=>rfl
  | true=>have:=Zof (y:=y).2 (.inl h);rw [this] at hz;simp at hz) y hU (by have:=Zof (row:=row) (y:=y) (z:=y).2 (.inr rfl);rw [this];rfl) (by rw [hy];rfl)
open Classical
theorem ZkL {R:List Zg} (hR:Zbc R) (a b:ByteArray):Zbg R a b=some (decide (YJ R a b)):=by
 have hU:∀r∈R,∀y∈Yq r,y∈R.flatMap Yq:=fun r mr y my=>List.mem_flatMap.2 ⟨r,mr,my⟩
 unfold Zbg
 have key:∀(n u:Nat) (row:List ByteArray),Zjs (R.flatMap Yq) row+row.length≤n+u→n+u≤1048577→u≤row.length→(∀y∈row,y=a∨YJ R a y)→a∈row→(∀i x,i<u→row[i]?=some x→∀y,Zdq R x y→y∈row∧y≠b)→
   Yp (σ:=(List ByteArray) × Int)
  (fun s=>
   match s with
   | (row_55,u_56)=>
   if (decide (u_56<((row_55.length:Nat):Int)))=true then
    Zo (σ:=(List ByteArray))
     (fun (i93:Nat) (x94:Zg) row_74=>
      (QR x94).bind fun v95=>
      chk (0≤u_56∧u_56<((row_74.length:Nat):Int)) <|
      (row_74[(Int.toNat u_56)]?).bind fun x96=>
      (ZV v95 x96).bind fun v97=>
      if v97=true then
       (ZbY x94).bind fun v98=>
       (ZV v98 b).bind fun v99=>
       if v99=true then
        some (.inr (.inr true))
       else
        Zo (σ:=(List ByteArray))
         (fun (i108:Nat) (x109:ByteArray) row_105=>
          (ZV row_105 x109).bind fun v110=>
          if v110=true then
           some (.inl row_105)
          else
           chk (row_105.length+1≤1073741824) <|
           some (.inl (row_105++[x109])))
         (fun row_105=>
          some (.inl row_105))
         v98 0 row_74
      else
       some (.inl row_74))
     (fun row_74=>
      some (.inl (row_74,(IntKind.i64.wrap (u_56+1)))))
     R 0 row_55
   else
    some (.inr false))
  (row,((u:Nat):Int))=some (decide (YJ R a b)):=by
  intro n
  have fin:∀(u:Nat) (row:List ByteArray),u=row.length→a∈row→(∀i x,i<u→row[i]?=some x→∀y,Zdq R x y→y∈row∧y≠b)→¬YJ R a b:=fun u row hu ha hc hb=>by
   have all:∀y,YJ R a y→y∈row∧y≠b:=fun y hy=>by
    have one:∀x,x∈row→∀y,Zdq R x y→y∈row∧y≠b:=fun x mx y h=>by
     obtain ⟨i,hi⟩:=List.mem_iff_getElem?.1 mx
     exact hc i x (by rw [hu];exact (List.getElem?_eq_some_iff.1 hi).1) hi y h
    induction hy with
    | one h=>exact one a ha _ h
    | next _ h ih=>exact one _ ih.1 _ h
   exact (all b hb).2 rfl
  have stop:∀(u:Nat) (row:List ByteArray),u=row.length→a∈row→(∀i x,i<u→row[i]?=some x→∀y,Zdq R x y→y∈row∧y≠b)→decide (YJ R a b)=false:=fun u row h1 h2 h3=>decide_eq_false (fin u row h1 h2 h3)
  induction n with
  | zero=>
   intro u row hn _ hu h1 ha hc
   have hu':u=row.length:=by omega
   rw [stop u row hu' ha hc]
   refine Z2 ?_
   show (if decide (((u:Nat):Int)<((row.length:Nat):Int))=true then _ else _)=_
   rw [if_neg (by rw [decide_eq_true_iff];omega)]
  | succ n ih=>
   intro u row hn hN hu h1 ha hc
   by_cases hlt:u<row.length
   ·have hx:row[u]?=some row[u]:=List.getElem?_eq_getElem hlt
    generalize row[u]=x at hx
    have hxr:x=a∨YJ R a x:=h1 x (List.mem_of_getElem? hx)
    rcases ZbG (ρ:=((List ByteArray) × Int) ⊕ Bool) (body:=fun (i93:Nat) (x94:Zg) (row_74:List ByteArray)=>
      (QR x94).bind fun v95=>
      chk (0≤((u:Nat):Int)∧((u:Nat):Int)<((row_74.length:Nat):Int)) <|
      (row_74[(Int.toNat ((u:Nat):Int))]?).bind fun x96=>
      (ZV v95 x96).bind fun v97=>
      if v97=true then
       (ZbY x94).bind fun v98=>
       (ZV v98 b).bind fun v99=>
       if v99=true then
        some (.inr (.inr true))
       else
        Zo (σ:=(List ByteArray))
         (fun (i108:Nat) (x109:ByteArray) row_105=>
          (ZV row_105 x109).bind fun v110=>
          if v110=true then
           some (.inl row_105)
          else
           chk (row_105.length+1≤1073741824) <|
           some (.inl (row_105++[x109])))
         (fun row_105=>
          some (.inl row_105))
         v98 0 row_74
      else
       some (.inl row_74)) (fun pre r2=>(∃q,r2=row++q)∧Zjs (R.flatMap Yq) r2+r2.length≤n+1+u∧(∀y∈r2,y=a∨YJ R a y)∧∀r∈pre,x∈Xk r→∀y∈Yq r,y∈r2∧y≠b) (fun z=>z=.inr true∧YJ R a b) R row ⟨⟨[],by simp⟩,hn,h1,by simp⟩ fun p r r2 mr hp hI=>by
     obtain ⟨⟨q,rfl⟩,g1,g2,g3⟩:=hI
     have hsm:=hR.s r mr
     have hxq:(row++q)[u]?=some x:=by rw [List.getElem?_append_left hlt];exact hx
     rw [ZhJ r hsm.tl,Option.bind_some,Zh _ (by simp;omega),Int.toNat_natCast,hxq,Option.bind_some,YV,Option.bind_some]
     by_cases hw:x∈Xk r
     ·have hh:Yx (ZT (Xk r)) x=true:=by rw [Xw,ZP];exact hw
      rw [if_pos hh,Zpo r hsm.cl,Option.bind_some,YV,Option.bind_some]
      by_cases hb:b∈Yq r
      ·have hh:Yx (ZT (Yq r)) b=true:=by rw [Xw,ZP];exact hb
       rw [if_pos hh]
       exact .inr ⟨_,rfl,rfl,YJ.step hxr ⟨r,mr,hw,hb⟩⟩
      ·have hh:¬Yx (ZT (Yq r)) b=true:=by rw [Xw,ZP];exact hb
       rw [if_neg hh]
       obtain ⟨r3,e3,⟨q3,hq3⟩,k1,k2,k3⟩:=ZeL (ρ:=(List ByteArray) ⊕ (((List ByteArray) × Int) ⊕ Bool)) (body:=fun (i108:Nat) (x109:ByteArray) (row_105:List ByteArray)=>
          (ZV row_105 x109).bind fun v110=>
          if v110=true then
           some (.inl row_105)
          else
           chk (row_105.length+1≤1073741824) <|
           some (.inl (row_105++[x109]))) (fun pre r3=>(∃q',r3=(row++q)++q')∧Zjs (R.flatMap Yq) r3+r3.length≤n+1+u∧(∀y∈r3,y=a∨YJ R a y)∧∀y∈pre,y∈r3) (ZT (Yq r)) (row++q) ⟨⟨[],by simp⟩,g1,g2,by simp⟩ fun p y r3 my hp hI=>by
        obtain ⟨⟨q',rfl⟩,k1,k2,k3⟩:=hI
        have hyr:y∈Yq r:=ZP.1 my
        rw [YV,Option.bind_some]
        by_cases hh:Yx (row++q++q') y=true
        ·rw [if_pos hh]
         refine ⟨_,rfl,⟨q',rfl⟩,k1,k2,fun z mz=>?_⟩
         rcases List.mem_append.1 mz with mz | mz
         ·exact k3 z mz
         ·rw [List.mem_singleton.1 mz];exact Xw.1 hh
        ·have hf:Yx (row++q++q') y=false:=by simpa using hh
         have hab:=ZpN (hU r mr y hyr) hf
         rw [if_neg hh,Zh _ (by omega)]
         refine ⟨_,rfl,⟨q'++[y],by simp⟩,by rw [List.length_append];simp only [List.length_singleton];omega,fun z mz=>?_,fun z mz=>?_⟩
         ·rcases List.mem_append.1 mz with mz | mz
          ·exact k2 z mz
          ·rw [List.mem_singleton.1 mz];exact .inr (YJ.step hxr ⟨r,mr,hw,hyr⟩)
         ·rcases List.mem_append.1 mz with mz | mz
          ·exact List.mem_append.2 (.inl (k3 z mz))
          ·exact List.mem_append.2 (.inr mz)
       refine .inl ⟨r3,e3 _,⟨q++q3,by rw [hq3];simp⟩,k1,k2,fun r' mr' hw' y my=>?_⟩
       rcases List.mem_append.1 mr' with mr' | mr'
       ·have:=g3 r' mr' hw' y my
        exact ⟨by rw [hq3];exact List.mem_append.2 (.inl this.1),this.2⟩
       ·rw [List.mem_singleton.1 mr'] at my
        exact ⟨k3 y (ZP.2 my),fun e=>hb (e ▸ my)⟩
     ·have hh:¬Yx (ZT (Xk r)) x=true:=by rw [Xw,ZP];exact hw
      rw [if_neg hh]
      refine .inl ⟨_,rfl,⟨q,rfl⟩,g1,g2,fun r' mr' hw'=>?_⟩
      rcases List.mem_append.1 mr' with mr' | mr'
      ·exact g3 r' mr' hw'
      ·rw [List.mem_singleton.1 mr'] at hw';exact absurd hw' hw
    with ⟨r2,e,⟨q,rfl⟩,k1,k2,k3⟩ | ⟨z,e,rfl,hb⟩
    ·refine (Yh ?_).trans (ih (u+1) (row++q) (by omega) (by omega) (by rw [List.length_append];omega) k2 (List.mem_append.2 (.inl ha)) fun i y hi hy z hz=>?_)
     ·show (if decide (((u:Nat):Int)<((row.length:Nat):Int))=true then _ else _)=_
      rw [if_pos (decide_eq_true (by omega)),e,YW (by omega) (by omega)]
      rfl
     ·by_cases hiu:i<u
      ·rw [List.getElem?_append_left (by omega)] at hy
       have:=hc i y hiu hy z hz
       exact ⟨List.mem_append.2 (.inl this.1),this.2⟩
      ·have:i=u:=by omega
       subst this
       rw [List.getElem?_append_left hlt,hx] at hy
       obtain rfl:=Option.some.inj hy
       obtain ⟨r,mr,hw,hr⟩:=hz
       exact k3 r mr hw z hr
    ·rw [decide_eq_true hb]
     refine Z2 ?_
     show (if decide (((u:Nat):Int)<((row.length:Nat):Int))=true then _ else _)=_
     rw [if_pos (decide_eq_true (by omega)),e]
   ·have hu':u=row.length:=by omega
    rw [stop u row hu' ha hc]
    refine Z2 ?_
    show (if decide (((u:Nat):Int)<((row.length:Nat):Int))=true then _ else _)=_
    rw [if_neg (by rw [decide_eq_true_iff];omega)]
 refine key 1048577 0 [a] ?_ (by omega) (by simp) (fun y hy=>.inl (by simpa using hy)) (by simp) (fun i x hi=>by omega)
 have h1:=hR.n
 have h2:Zjs (R.flatMap Yq) [a]≤(R.flatMap Yq).length:=List.countP_le_length
 simp only [List.length_singleton]
 omega
theorem ZL9 {R:List Zg} (h:ZJL R≤1048576):Zbc R:=by
 unfold ZJL at h
 refine ⟨fun r mr=>ZMt (ZLw h mr),?_⟩
 have key:∀l:List Zg,(l.flatMap Yq).length≤(l.map ZJO).sum:=by
  intro l
  induction l with
  | nil=>simp
  | cons r l ih=>
   rw [List.flatMap_cons,List.length_append,List.map_cons,List.sum_cons]
   have h1:=ZlT r
   have h2:r.cond.length≤ZJO r:=by simp only [ZJO,ZJR];omega
   omega
 have:=key R
 omega
end Go.Proofs.YtfehfkfdfmcgfaaGreatDoor
namespace Go.Proofs.YtfehfkfdfmcgfaaGreatDoor
theorem ZtX (l:List Zg) (n:ByteArray):∃z,QF l n=some z:=by
 unfold QF
 rcases ZbG (ρ:=Int) (body:=fun (i4:Nat) (x5:Zg) (_:Unit)=>
   if (sEq x5.name n)=true then
    some (.inr ((i4:Nat):Int))
   else
    some (.inl ())) (fun _ _=>True) (fun _=>True) l () trivial (fun p x s mx hp _=>by
  cases h:sEq x.name n with
  | true=>exact .inr ⟨_,by rw [if_pos rfl],trivial⟩
  | false=>exact .inl ⟨(),by rw [if_neg (by simp)],trivial⟩) with ⟨s,e,_⟩ | ⟨z,e,_⟩
 ·exact ⟨-1,e _⟩
 ·exact ⟨z,e _⟩
noncomputable def Zag (l:List Zg) (n:ByteArray):Int:=(QF l n).getD 0
theorem Zeo (l:List Zg) (n:ByteArray):QF l n=some (Zag l n):=by
 obtain ⟨z,h⟩:=ZtX l n
 unfold Zag
 rw [h];rfl
theorem ZhR (l:List Zg) (n:ByteArray):ZdZ l n=some (Zag l n):=Zeo l n
noncomputable def Zd2 (R:List Zg) (j:Nat) (r:Zg):Bool:=YQ r&&(Zag R r.name==((j:Nat):Int))
noncomputable def Z6 (R:List Zg):Bool:=decide (R.length≤6)&&allI (Zd2 R) R 0
theorem Zen {R:List Zg} (h:∀r∈R,QC r):ZaL R=some (Z6 R):=by
 unfold ZaL Z6
 by_cases h6:R.length≤6
 ·rw [if_neg (by simp;omega),decide_eq_true h6,Bool.true_and,Xu (p:=Zd2 R) (r:=false)]
  ·cases allI (Zd2 R) R 0<;>rfl
  ·intro j r hj
   rw [Zj7 r (h r (List.mem_of_getElem? hj)),Option.bind_some,Zeo]
   unfold Zd2
   simp only [Option.bind_some,Nat.zero_add]
   cases YQ r with
   | false=>rfl
   | true=>
    by_cases hf:Zag R r.name=((j:Nat):Int)
    ·simp [hf]
    ·have e:(Zag R r.name==((j:Nat):Int))=false:=by simpa using hf
     simp [e,hf]
 ·rw [if_pos (by simp;omega),decide_eq_false h6];rfl
theorem ZmM {R:List Zg} (h:∀r∈R,QC r):ZdU R=some (Z6 R):=by
 unfold ZdU Z6
 rw [Xu (p:=Zd2 R) (r:=false)]
 ·have:decide (((R.length:Nat):Int)≤6)=decide (R.length≤6):=by rw [Bool.eq_iff_iff];simp;omega
  rw [this]
  cases allI (Zd2 R) R 0<;>simp
 ·intro j r hj
  rw [Zgg r (h r (List.mem_of_getElem? hj)),Option.bind_some,ZhR]
  unfold Zd2
  simp only [Option.bind_some,Nat.zero_add]
  cases YQ r with
  | false=>rfl
  | true=>
   by_cases hf:Zag R r.name=((j:Nat):Int)
   ·simp [hf]
   ·have e:(Zag R r.name==((j:Nat):Int))=false:=by simpa using hf
    simp [e,hf]
open Classical
noncomputable def Zjl (R:List Zg) (rel w:ByteArray):Bool:=!sEq w rel&&!decide (YJ R rel w)
noncomputable def ZgX (R:List Zg) (r:Zg) (x:Zt):Bool:=!(x.kind==2)||(ZT (Xk r)).all (Zjl R x.pattern.rel)
noncomputable def Y4 (R:List Zg) (r:Zg):Bool:=ZM r&&r.cond.all (ZgX R r)
theorem ZfU {R:List Zg} (hR:Zbc R):Zbt R=some (Z6 R&&R.all (Y4 R)):=by
 unfold Zbt
 rw [Zen hR.s,Option.bind_some]
 cases Z6 R with
 | false=>rfl
 | true=>
  rw [if_pos rfl,ZU (p:=Y4 R) (r:=false)]
  ·cases R.all (Y4 R)<;>rfl
  ·intro i r mr
   have hsm:=hR.s r mr
   rw [ZlO r hsm,Option.bind_some]
   unfold Y4
   cases ZM r with
   | false=>rfl
   | true=>
    rw [if_pos rfl,ZU (p:=ZgX R r) (r:=.inr false)]
    ·cases r.cond.all (ZgX R r)<;>rfl
    ·intro i x mx
     unfold ZgX
     by_cases hk:x.kind=2
     ·obtain ⟨m,e,hm⟩:=Zni hR x.pattern.rel
      rw [if_neg (by simp [hk]),e,Option.bind_some,ZhI r hsm.tl,Option.bind_some,ZU (p:=Zjl R x.pattern.rel) (r:=.inr (.inr false))]
      ·rw [show (!(x.kind==2))=false by simp [hk],Bool.false_or]
       cases (ZT (Xk r)).all (Zjl R x.pattern.rel)<;>rfl
      ·intro i w mw
       unfold Zjl
       have:Zah m w false=decide (YJ R x.pattern.rel w):=by
        rw [Bool.eq_iff_iff,decide_eq_true_iff];exact hm w
       rw [this]
       cases sEq w x.pattern.rel<;>cases decide (YJ R x.pattern.rel w)<;>rfl
     ·rw [if_pos (by simp [hk]),show (!(x.kind==2))=true by simp [hk]];rfl
theorem Ztx {α ρ:Type} {r:ρ}:∀(l:List α),Zo (σ:=Unit) (fun (_:Nat) (_:α) _=>some (.inr r)) (fun _=>some r) l 0 ()=some r
 | []=>rfl
 | _::_=>rfl
theorem Zwf (x y:ByteArray):sEq x y=sEq y x:=by
 rw [Bool.eq_iff_iff,ZO,ZO]
 exact eq_comm
theorem ZfN {R:List Zg} (hR:Zbc R):Zbs R=some (Z6 R&&R.all (Y4 R)):=by
 unfold Zbs
 rw [ZU (p:=Y4 R) (r:=false)]
 ·rw [ZmM hR.s,Option.bind_some]
  cases R.all (Y4 R)<;>simp
 ·intro i r mr
  have hsm:=hR.s r mr
  rw [ZlX r hsm,Option.bind_some]
  unfold Y4
  cases ZM r with
  | false=>rfl
  | true=>
   rw [if_pos rfl,ZhJ r hsm.tl,Option.bind_some,ZU (p:=ZgX R r) (r:=.inr false)]
   ·cases r.cond.all (ZgX R r)<;>rfl
   ·intro i x mx
    unfold ZgX
    by_cases hk:x.kind=2
    ·rw [ZU (p:=Zjl R x.pattern.rel) (r:=.inr (.inr false))]
     ·rw [show (!(x.kind==2))=false by simp [hk],Bool.false_or]
      cases (ZT (Xk r)).all (Zjl R x.pattern.rel)<;>rfl
     ·intro i w mw
      rw [if_pos (by simp [hk]),ZkL hR,Zwf]
      unfold Zjl
      cases sEq w x.pattern.rel<;>cases decide (YJ R x.pattern.rel w)<;>rfl
    ·have hf:(x.kind==2)=false:=by simp [hk]
     simp only [hf,Bool.false_eq_true,if_false]
     rw [Ztx]
     rfl
end Go.Proofs.YtfehfkfdfmcgfaaGreatDoor
namespace Go.Proofs.YtfehfkfdfmcgfaaGreatDoor
open Classical
noncomputable def Zda (F:List Zb) (i:Nat) (x:Zb):Bool:=Yb x&&(if i=0 then true else match F[i - 1]? with | some y=>decide (ZbB y x<0) | none=>true)
noncomputable def Z3 (F:List Zb):Bool:=decide (F.length≤24)&&allI (Zda F) F 0
theorem Zmp {α:Type} {p:Nat→α→Bool} {q:α→Bool} (h:∀i x,p i x=true→q x=true):∀{l:List α} {i:Nat},allI p l i=true→∀x∈l,q x=true
 | [],_,_=>by simp
 | y::l,i,ha=>by
  simp only [allI,Bool.and_eq_true] at ha
  intro x mx
  rcases List.mem_cons.1 mx with rfl | mx
  ·exact h i _ ha.1
  ·exact Zmp h ha.2 x mx
theorem QQ {F:List Zb} (h:Z3 F=true):F.length≤24∧∀f∈F,Yb f=true:=by
 unfold Z3 at h
 rw [Bool.and_eq_true,decide_eq_true_iff] at h
 refine ⟨h.1,Zmp (fun i x hx=>?_) h.2⟩
 unfold Zda at hx
 rw [Bool.and_eq_true] at hx
 exact hx.1
theorem YY {f:Zb} (h:Yb f=true):f.args.length≤3:=by
 unfold Yb at h
 simp only [Bool.and_eq_true,decide_eq_true_iff] at h
 exact h.1.2
theorem Znt {F:List Zb} (hl:F.length≤1048576) {i:Nat} {x:Zb} (hx:F[i]?=some x):
  (if Yb x=true then (if (decide (0<((i:Nat):Int)))=true then (atI F (IntKind.i64.wrap (((i:Nat):Int) - 1))).bind fun x11=>(some (ZbB x11 x)).bind fun v12=>if (decide (0≤v12))=true then some (.inr false) else some (.inl ()) else some (.inl ())) else some (.inr false):Option (Unit ⊕ Bool))
   = some (bif Zda F i x then .inl () else .inr false):=by
 have hi:=(List.getElem?_eq_some_iff.1 hx).1
 unfold Zda
 cases Yb x with
 | false=>rfl
 | true=>
  rw [if_pos rfl]
  by_cases h0:i=0
  ·subst h0
   rw [if_neg (by simp)]
   simp
  ·have hg:F[i - 1]?=some F[i - 1]:=List.getElem?_eq_getElem (by omega)
   rw [if_pos (by simp;omega),show ((i:Nat):Int) - 1=((i - 1:Nat):Int) by omega,Zd9 (by omega) (by omega),Zav,hg,Option.bind_some,Option.bind_some,if_neg h0]
   by_cases hc:ZbB F[i - 1] x<0
   ·rw [if_neg (by simpa using hc)]
    simp [hc]
   ·rw [if_pos (by simpa using hc)]
    simp [hc]
theorem Zca (F:List Zb):ZaH F=some (Z3 F):=by
 unfold ZaH Z3
 by_cases h:F.length≤24
 ·rw [if_neg (by simp;omega),decide_eq_true h,Xu (p:=Zda F) (r:=false)]
  ·cases allI (Zda F) F 0<;>rfl
  ·intro j x hx
   rw [Nat.zero_add,Zj8,Option.bind_some]
   simp only [Zeb]
   exact Znt (by omega) hx
 ·rw [if_pos (by simp;omega),decide_eq_false h]
  rfl
theorem ZhY (F:List Zb) (hl:F.length≤1048576):Zdv F=some (Z3 F):=by
 unfold Zdv Z3
 rw [Xu (p:=Zda F) (r:=false)]
 ·have:decide (((F.length:Nat):Int)≤24)=decide (F.length≤24):=by rw [Bool.eq_iff_iff];simp;omega
  rw [this]
  cases allI (Zda F) F 0<;>simp
 ·intro j x hx
  rw [Nat.zero_add,Zko,Option.bind_some]
  simp only [Zbo]
  exact Znt hl hx
theorem ZgF (l:List Zb) (hl:l.length≤1048576) (h:∀f∈l,f.args.length≤1048576):Za7 l=some l:=by
 unfold Za7
 rw [Zjo (g:=fun y=>y)]
 ·simp
 ·intro j y s my hs
  rw [YN y (h y my),Option.bind_some,Zh _ (by simp at hs;omega)]
theorem Zey (l:List Zb) (hl:l.length≤1048576) (h:∀f∈l,f.args.length≤1048576):ZaJ l=some l:=by
 unfold ZaJ
 rw [Zjo (g:=fun y=>y)]
 ·simp
 ·intro j y s my hs
  rw [Xb y (h y my),Option.bind_some,Zh _ (by simp at hs;omega)]
structure ZuM (F:List Zb) (t:Zu):Prop where
 bind:t.binding.length≤6
 len:t.facts.length≤4
 args:∀f∈t.facts,f.args.length≤3
theorem ZlH.s {p:List Zt} {F:List Zb} {t:Zu} (h:ZlH p F t) (hp:p.length≤4) (hF:∀f∈F,f.args.length≤3):ZuM F t:=
 ⟨X2 h.bind,by have:=h.len;omega,fun f mf=>hF f (h.sub f mf)⟩
theorem ZnJ {ρ:Type} {x:Zt} {F:List Zb} {body:Nat→Zu→List Zu→Option (List Zu ⊕ ρ)} {fin:List Zu→Option ρ} (hF:F.length≤24) (ts:List Zu) (hts:ts.length≤331776)
  (hb:∀i t row,t∈ts→row.length≤10000000→body i t row=some (.inl (row++ZaR x F t))):Zo body fin ts 0 []=fin (Zf0 x F ts):=by
 have hst:Zf0 x F []=[]:=rfl
 rw [←hst,Zae (fun p=>Zf0 x F p) ts]
 intro p t q e
 have hl:=Zlp x F hF p
 have hp:p.length≤ts.length:=by rw [e];simp
 rw [hb _ _ _ (by rw [e];simp) (by omega)]
 unfold Zf0
 rw [List.flatMap_append]
 simp
theorem ZeA (l:List Zt) (F:List Zb) (hl:l.length≤4) (hF:F.length≤24) (hA:∀f∈F,f.args.length≤3):QU l F=some (Zw l F):=by
 unfold QU
 have h0:Zw [] F=[({ facts:=[],binding:=[] }:Zu)]:=rfl
 rw [←h0,Zae (fun p=>Zw p F) l]
 intro p x q e
 have hpl:p.length+(q.length+1)=l.length:=by rw [e,List.length_append,List.length_cons]
 rw [Y6]
 refine ZnJ (fin:=fun r=>(some (Sum.inl r):Option (List Zu ⊕ List Zu))) hF (Zw p F) (ZaO F hF p (by omega)) (fun i t row mt hr=>?_)
 have ht:=(Qp F p t mt).s (by omega) hA
 unfold ZaR
 by_cases hk:x.kind=1
 ·rw [if_neg (by simpa using hk),if_pos hk,YC (g:=fun f=>(QG x.pattern f t.binding).map fun b=>({ facts:=t.facts++[f],binding:=b }:Zu))]
  intro j f s mf hs
  rw [Zgr,Option.bind_some,Zfu]
  cases hm:QG x.pattern f t.binding with
  | none=>simp
  | some b=>
   simp only [Option.isSome_some,if_true]
   rw [ZgF _ (by have:=ht.len;omega) (fun g mg=>by have:=ht.args g mg;omega),Option.bind_some,YN f (by have:=hA f mf;omega),Option.bind_some,Zh _ (by have:=ht.len;omega),Zh _ (by omega)]
   rfl
 ·rw [if_pos (by simpa using hk),if_neg hk,ZlS _ _ _ (by omega) (fun f mf=>by have:=hA f mf;omega),Option.bind_some]
  split
  ·rw [Zh _ (by omega)]
  ·simp
theorem Zrt {F:List Zb} {t:Zu} (ht:ZuM F t):Zf4 t=some t:=by
 unfold Zf4 ZcA
 rw [Zey _ (by have:=ht.len;omega) (fun g mg=>by have:=ht.args g mg;omega),Option.bind_some,Zh _ (by have:=ht.bind;omega)]
 rfl
theorem ZqG (ts:List Zu) (x:Zt) (F:List Zb) (hts:ts.length≤331776) (hF:F.length≤24) (hA:∀f∈F,f.args.length≤3) (ht:∀t∈ts,ZuM F t):Zf9 ts x F=some (Zf0 x F ts):=by
 unfold Zf9
 refine ZnJ (fin:=fun r=>some r) hF ts hts (fun i t row mt hr=>?_)
 have ht:=ht t mt
 have htb:=ht.bind
 unfold ZaR
 by_cases hk:x.kind=1
 ·rw [if_neg (by simpa using hk),if_pos hk,YC (g:=fun f=>(QG x.pattern f t.binding).map fun b=>({ facts:=t.facts++[f],binding:=b }:Zu))]
  intro j f s mf hs
  rw [Zgn _ _ _ (by omega),Option.bind_some,Zfu]
  cases hm:QG x.pattern f t.binding with
  | none=>simp
  | some b=>
   simp only [Option.isSome_some,if_true]
   rw [Zey _ (by have:=ht.len;omega) (fun g mg=>by have:=ht.args g mg;omega),Option.bind_some,Xb f (by have:=hA f mf;omega),Option.bind_some,Zh _ (by have:=ht.len;omega),Zh _ (by omega)]
   rfl
 ·rw [if_pos (by simpa using hk),if_neg hk,ZlR _ _ _ (by omega) (by omega) (fun f mf=>by have:=hA f mf;omega),Option.bind_some]
  split
  ·rw [Zrt ht,Option.bind_some,Zh _ (by omega)]
  ·simp
theorem ZhC (l:List Zt) (F:List Zb) (hl:l.length≤4) (hF:F.length≤24) (hA:∀f∈F,f.args.length≤3):ZaF l F=some (Zw l F):=by
 unfold ZaF
 have h0:Zw [] F=[({ facts:=[],binding:=[] }:Zu)]:=rfl
 rw [←h0,Zae (fun p=>Zw p F) l]
 intro p x q e
 have hpl:p.length+(q.length+1)=l.length:=by rw [e,List.length_append,List.length_cons]
 rw [Y6,ZqG _ _ _ (ZaO F hF p (by omega)) hF hA (fun t mt=>(Qp F p t mt).s (by omega) hA)]
 rfl
theorem ZcX {R:List Zg} (h:Z6 R=true):R.length≤6∧∀r∈R,YQ r=true:=by
 unfold Z6 at h
 rw [Bool.and_eq_true,decide_eq_true_iff] at h
 refine ⟨h.1,Zmp (fun i x hx=>?_) h.2⟩
 unfold Zd2 at hx
 rw [Bool.and_eq_true] at hx
 exact hx.1
theorem Zue {r:Zg} (h:YQ r=true):∀a∈r.thn,a.kind=1→ZR a.pattern=true∧∀v∈a.pattern.args,Ye v=true→v∈Yr r.cond:=by
 intro a ma hk
 unfold YQ at h
 simp only [Bool.and_eq_true] at h
 have ha:=List.all_eq_true.1 h.1.2 a ma
 rw [Bool.and_eq_true] at ha
 obtain ⟨h1,h2⟩:=ha
 unfold Xq at h1
 rw [if_pos (.inl hk)] at h1
 refine ⟨h1,fun v mv hv=>?_⟩
 have:=List.all_eq_true.1 h2 v (ZbJ.2 ⟨mv,hv⟩)
 rw [Xw] at this
 unfold YD at this
 rw [ZP,List.take_length] at this
 exact this
end Go.Proofs.YtfehfkfdfmcgfaaGreatDoor
namespace Go.Proofs.YtfehfkfdfmcgfaaGreatDoor
open Classical
theorem Zc5 {α:Type}:∀{l m:List α},l.Nodup→(∀x∈l,x∈m)→l.length≤m.length
 | [],_,_,_=>Nat.zero_le _
 | x::l,m,h,hs=>by
  rw [List.nodup_cons] at h
  have hx:x∈m:=hs x (by simp)
  have h2:=Zc5 (m:=m.erase x) h.2 (fun y my=>(List.mem_erase_of_ne (fun e=>h.1 (by rw [←e];exact my))).2 (hs y (by simp [my])))
  rw [List.length_erase_of_mem hx] at h2
  have:=List.length_pos_of_mem hx
  simp only [List.length_cons]
  omega
theorem Zso {α:Type} {l m:List α} (hl:l.Nodup) (hs:∀x∈l,x∈m) (hm:m.length≤l.length):∀x∈m,x∈l:=fun x mx=>by
 refine Classical.byContradiction fun hn=>?_
 have:=Zc5 (l:=x::l) (m:=m) (List.nodup_cons.2 ⟨hn,hl⟩) (fun y my=>by
  rcases List.mem_cons.1 my with rfl | my
  ·exact mx
  ·exact hs y my)
 simp only [List.length_cons] at this
 omega
theorem ZiL (x:Zb):¬ZbB x x<0:=by rw [(ZcQ.eq x x).2 rfl];omega
theorem ZdT {l:List Zb} (h:Zg3 l):l.Nodup:=List.Pairwise.imp (fun {a b} hab e=>by subst e;exact ZiL a hab) h
theorem Zk8:∀{a b:List Zb},Zg3 a→Zg3 b→(∀x,x∈a↔x∈b)→a=b
 | [],[],_,_,_=>rfl
 | [],y::b,_,_,h=>by have:=(h y).2 (by simp);simp at this
 | x::a,[],_,_,h=>by have:=(h x).1 (by simp);simp at this
 | x::a,y::b,ha,hb,h=>by
  unfold Zg3 at ha hb
  rw [List.pairwise_cons] at ha hb
  have e:x=y:=by
   rcases List.mem_cons.1 ((h x).1 (by simp)) with e | h1
   ·exact e
   ·rcases List.mem_cons.1 ((h y).2 (by simp)) with e | h2
    ·exact e.symm
    ·exact absurd (ZcQ.tr _ _ _ (ha.1 y h2) (hb.1 x h1)) (ZiL x)
  subst e
  rw [Zk8 ha.2 hb.2 fun z=>?_]
  constructor
  ·intro hz
   rcases List.mem_cons.1 ((h z).1 (by simp [hz])) with e | hz2
   ·subst e;exact absurd (ha.1 z hz) (ZiL z)
   ·exact hz2
  ·intro hz
   rcases List.mem_cons.1 ((h z).2 (by simp [hz])) with e | hz2
   ·subst e;exact absurd (hb.1 z hz) (ZiL z)
   ·exact hz2
theorem ZiS {f:Zb}:∀{l:List Zb},f∉l→(Zd6 l f).length=l.length+1
 | [],_=>rfl
 | x::l,h=>by
  simp only [List.mem_cons,not_or] at h
  simp only [Zd6]
  split
  ·rw [List.length_cons,ZiS h.2];rfl
  ·rw [if_neg (fun e=>h.1 ((ZcQ.eq _ _).1 e).symm)]
   rfl
def XT (r:Zg):List Zt:=r.cond.filter fun x=>x.kind != 2
theorem ZnZ {r:Zg}:∀x∈XT r,¬x.kind=2:=fun x mx=>by
 have:=(List.mem_filter.1 mx).2
 simpa using this
theorem ZdL (r:Zg):(XT r).length≤r.cond.length:=List.length_filter_le _ _
theorem ZqD (l:List Zt):Yr (l.filter fun x=>x.kind != 2)=Yr l:=by
 induction l with
 | nil=>rfl
 | cons x l ih=>
  by_cases hx:x.kind=2
  ·rw [List.filter_cons_of_neg (by simpa using hx),ih]
   simp [Yr,hx]
  ·rw [List.filter_cons_of_pos (by simpa using hx)]
   unfold Yr at ih ⊢
   rw [List.flatMap_cons,List.flatMap_cons,ih]
theorem ZbN (r:Zg) (h:r.cond.length≤1048576):YP r=some (XT r):=by
 unfold YP XT
 rw [Zcm (p:=fun x:Zt=>x.kind != 2)]
 ·simp
 ·intro j x s mx hs
  split
  ·rw [Zh _ (by simp at hs;omega)]
  ·rfl
theorem Ze3 (r:Zg) (h:r.cond.length≤1048576):XJ r=some (XT r):=ZbN r h
theorem Zrn {F G:List Zb} (h:∀f∈F,f∈G):∀{l:List Zt},(∀x∈l,¬x.kind=2)→∀t∈Zw l F,t∈Zw l G:=by
 have:∀n (l:List Zt),l.length=n→(∀x∈l,¬x.kind=2)→∀t∈Zw l F,t∈Zw l G:=by
  intro n
  induction n with
  | zero=>intro l hl _ t mt;rw [List.eq_nil_of_length_eq_zero hl] at mt ⊢;exact mt
  | succ n ih=>
   intro l hl hk
   obtain ⟨p,x,rfl⟩:∃p x,l=p++[x]:=⟨l.dropLast,l.getLast (by intro e;simp [e] at hl),(List.dropLast_concat_getLast _).symm⟩
   intro t mt
   rw [Y6] at mt ⊢
   obtain ⟨s,ms,mt⟩:=List.mem_flatMap.1 mt
   refine List.mem_flatMap.2 ⟨s,ih p (by simpa using hl) (fun y my=>hk y (by simp [my])) s ms,?_⟩
   unfold ZaR at mt ⊢
   by_cases h1:x.kind=1
   ·rw [if_pos h1] at mt ⊢
    obtain ⟨f,mf,e⟩:=List.mem_filterMap.1 mt
    exact List.mem_filterMap.2 ⟨f,h f mf,e⟩
   ·have h2:=hk x (by simp)
    have e:Zak x s.binding G=Zak x s.binding F:=by unfold Zak;simp only [if_neg h1,if_neg h2]
    rw [if_neg h1] at mt ⊢
    rw [e]
    exact mt
 intro l hk
 exact this _ l rfl hk
theorem ZcT {F:List Zb} (h:Z3 F=true):Zg3 F:=by
 unfold Z3 at h
 rw [Bool.and_eq_true] at h
 have hadj:∀i y x,F[i]?=some y→F[i+1]?=some x→ZbB y x<0:=fun i y x hy hx=>by
  have:=Zfo h.2 (i+1) x hx
  unfold Zda at this
  rw [Bool.and_eq_true,Nat.zero_add,if_neg (by omega),Nat.add_sub_cancel,hy] at this
  simpa using this.2
 have key:∀(l:List Zb),(∀i y x,l[i]?=some y→l[i+1]?=some x→ZbB y x<0)→Zg3 l:=by
  intro l
  induction l with
  | nil=>intro _;exact List.Pairwise.nil
  | cons a l ih=>
   intro hl
   have hp:=ih (fun i y x hy hx=>hl (i+1) y x (by simpa using hy) (by simpa using hx))
   unfold Zg3 at hp ⊢
   rw [List.pairwise_cons]
   refine ⟨fun x mx=>?_,hp⟩
   cases l with
   | nil=>simp at mx
   | cons b l=>
    have hab:=hl 0 a b rfl rfl
    rcases List.mem_cons.1 mx with rfl | mx
    ·exact hab
    ·rw [List.pairwise_cons] at hp
     exact ZcQ.tr _ _ _ hab (hp.1 x mx)
 exact key F hadj
def Z8 (a:Zz) (t:Zu):Zb:=(YE (Yf a.pattern t.binding)).1
def ZiK (R:List Zg) (G:List Zb):Prop:=∀r∈R,∀t∈Zw (XT r) G,∀a∈r.thn,Z8 a t∈G
structure Cl (R:List Zg) (base G:List Zb):Prop where
 asc:Zg3 G
 base:∀f∈base,f∈G
 closed:ZiK R G
structure ZeE (R:List Zg) (base F:List Zb):Prop where
 asc:Zg3 F
 ok:∀f∈F,Yb f=true
 inc:∀f∈base,f∈F
 low:∀G,Cl R base G→∀f∈F,f∈G
def Znm (R:List Zg) (base:List Zb):Prop:=∀G,Cl R base G→25≤G.length
theorem ZeE.over {R:List Zg} {base F:List Zb} (h:ZeE R base F) (hl:25≤F.length):Znm R base:=fun G hG=>Nat.le_trans hl (Zc5 (ZdT h.asc) (h.low G hG))
theorem ZeE.add {R:List Zg} {base F:List Zb} (h:ZeE R base F) {f:Zb} (hf:Yb f=true) (hin:∀G,Cl R base G→f∈G):ZeE R base (Zd6 F f) where
 asc:=ZpV h.asc
 ok:=fun g mg=>by
  rcases QP.1 mg with rfl | mg
  ·exact hf
  ·exact h.ok g mg
 inc:=fun g mg=>QP.2 (.inr (h.inc g mg))
 low:=fun G hG g mg=>by
  rcases QP.1 mg with rfl | mg
  ·exact hin G hG
  ·exact h.low G hG g mg
theorem Zkk {b:List Zs} (hb:ZW b=true):∀{p l:List ByteArray},ZaX p b=some l→l.all ZQ=true∧l.length=p.length
 | [],l,h=>by
  simp only [ZaX,Option.some.injEq] at h
  subst h
  simp
 | a::p,l,h=>by
  simp only [ZaX] at h
  obtain ⟨v,hv,h⟩:=Option.bind_eq_some_iff.1 h
  obtain ⟨l',hl',rfl⟩:=Option.map_eq_some_iff.1 h
  obtain ⟨h1,h2⟩:=Zkk hb hl'
  have ha:ZQ v=true:=by
   unfold YU at hv
   split at hv
   ·rename_i ha
    obtain rfl:=Option.some.inj hv
    exact ha
   ·split at hv
    ·obtain ⟨x,mx,_,rfl⟩:=ZtQ hv
     unfold ZW at hb
     rw [Bool.and_eq_true] at hb
     have:=(Zuw hb.2 x mx).1
     unfold ZfK at this
     rw [Bool.and_eq_true] at this
     exact this.2
    ·simp at hv
  simp [ha,h1,h2]
theorem Zs6 {r:Zg} {F:List Zb} {t:Zu} (hr:ZM r=true) (ht:t∈Zw (XT r) F) {a:Zz} (ma:a∈r.thn):Yb (Z8 a t)=true:=by
 unfold ZM at hr
 simp only [Bool.and_eq_true] at hr
 have hk:a.kind=1:=by
  have:=List.all_eq_true.1 hr.2 a ma
  simpa using this
 have htk:=Qp F _ t ht
 obtain ⟨h1,h2⟩:=Zue hr.1.1 a ma hk
 have hp:=h1
 unfold ZR at hp
 simp only [Bool.and_eq_true,decide_eq_true_iff] at hp
 obtain ⟨l,e,_⟩:=Zd4 (b:=t.binding) hp.2 (fun v mv hv=>htk.vars v (by
  unfold XT
  rw [ZqD]
  exact h2 v mv hv))
 obtain ⟨h3,h4⟩:=Zkk htk.bind e
 have:Yf a.pattern t.binding=some { rel:=a.pattern.rel,args:=l }:=by
  unfold Yf
  rw [if_pos ⟨h1,htk.bind⟩,e]
  rfl
 unfold Z8
 rw [this]
 show Yb { rel:=a.pattern.rel,args:=l }=true
 unfold Yb
 simp only [Bool.and_eq_true,decide_eq_true_iff]
 exact ⟨⟨hp.1.1,by omega⟩,h3⟩
theorem ZeE.derived {R:List Zg} {base F:List Zb} (h:ZeE R base F) {r:Zg} (mr:r∈R) {t:Zu} (mt:t∈Zw (XT r) F) {a:Zz} (ma:a∈r.thn):∀G,Cl R base G→Z8 a t∈G:=
 fun G hG=>hG.closed r mr t (Zrn (h.low G hG) ZnZ t mt) a ma
def Res (R:List Zg) (base:List Zb) (x:List Zb × Bool):Prop:=
 (x.2=true∧ZeE R base x.1∧x.1.length≤24∧ZiK R x.1)∨(x.2=false∧x.1=[]∧Znm R base)
theorem Res.uniq {R:List Zg} {base:List Zb} {x y:List Zb × Bool} (hx:Res R base x) (hy:Res R base y):x=y:=by
 obtain ⟨F,b⟩:=x
 obtain ⟨G,c⟩:=y
 rcases hx with ⟨h1,h2,h3,h4⟩ | ⟨h1,h2,h3⟩<;>rcases hy with ⟨k1,k2,k3,k4⟩ | ⟨k1,k2,k3⟩<;>simp only at h1 h2 h3 k1 k2 k3<;>subst h1<;>subst k1
 ·have e:F=G:=Zk8 h2.asc k2.asc fun f=>⟨fun hf=>h2.low G ⟨k2.asc,k2.inc,k4⟩ f hf,fun hf=>k2.low F ⟨h2.asc,h2.inc,h4⟩ f hf⟩
  rw [e]
 ·have:=k3 F ⟨h2.asc,h2.inc,h4⟩
  omega
 ·have:=h3 G ⟨k2.asc,k2.inc,k4⟩
  omega
 ·rw [h2,k2]
structure Zi7 (R:List Zg) (base row0:List Zb) (s:List Zb × Bool):Prop where
 good:ZeE R base s.1
 len:s.1.length≤24
 sub:∀f∈row0,f∈s.1
 grow:s.2=true→row0.length<s.1.length
 same:s.2=false→s.1=row0
theorem Zuh {ρ:Type} {R:List Zg} {base row0:List Zb} {r:Zg} (mr:r∈R) (hr:ZM r=true) {rowS:List Zb} (hS:ZeE R base rowS) {t:Zu} (mt:t∈Zw (XT r) rowS) {q:ρ}
  {body:Nat→Zz→(List Zb × Bool)→Option ((List Zb × Bool) ⊕ ρ)}
  (hb:∀i a s,body i a s=(Yc s.1 (Z8 a t)).bind fun v836=>if (decide (0≤v836))=true then some (.inl s) else if (decide (24≤((s.1.length:Nat):Int)))=true then some (.inr q) else (XW s.1 (Z8 a t)).bind fun v837=>some (.inl (v837,true)))
  (s:List Zb × Bool) (h:Zi7 R base row0 s):
  (∃s',(∀fin:(List Zb × Bool)→Option ρ,Zo body fin r.thn 0 s=fin s')∧Zi7 R base row0 s'∧(s'.2=false→s.2=false∧∀a∈r.thn,Z8 a t∈row0))∨((∀fin:(List Zb × Bool)→Option ρ,Zo body fin r.thn 0 s=some q)∧Znm R base):=by
 rcases ZbG (body:=body) (fun p s'=>Zi7 R base row0 s'∧(s'.2=false→s.2=false∧∀a∈p,Z8 a t∈row0)) (fun x=>x=q∧Znm R base) r.thn s ⟨h,fun hs=>⟨hs,by simp⟩⟩ (fun p a s' ma hp hI=>by
  obtain ⟨hP,hC⟩:=hI
  rw [hb]
  obtain ⟨z,hz,hz2⟩:=ZhG s'.1 (Z8 a t)
  rw [hz,Option.bind_some]
  have hok:=Zs6 hr mt ma
  have hin:=hS.derived mr mt ma
  by_cases hm:Z8 a t∈s'.1
  ·left
   have hz3:¬z<0:=fun h=>hz2.1 h hm
   rw [if_pos (by simp;omega)]
   refine ⟨s',rfl,hP,fun hs=>⟨(hC hs).1,fun b mb=>?_⟩⟩
   rcases List.mem_append.1 mb with mb | mb
   ·exact (hC hs).2 b mb
   ·simp at mb
    subst mb
    rw [←hP.same hs]
    exact hm
  ·have hz3:=hz2.2 hm
   rw [if_neg (by simp;omega)]
   by_cases h24:24≤s'.1.length
   ·right
    rw [if_pos (by simp;omega)]
    refine ⟨q,rfl,rfl,(hP.good.add hok hin).over ?_⟩
    rw [ZiS hm]
    omega
   ·left
    rw [if_neg (by simp;omega),Zpe _ _ hm (by omega) (fun f mf=>by have:=YY (hP.good.ok f mf);omega) (by have:=YY hok;omega),Option.bind_some]
    refine ⟨_,rfl,⟨hP.good.add hok hin,by rw [ZiS hm];omega,fun f mf=>QP.2 (.inr (hP.sub f mf)),fun _=>?_,fun h=>by simp at h⟩,fun h=>by simp at h⟩
    rw [ZiS hm]
    have:=Zc5 (l:=row0) (m:=s'.1)
    cases hs:s'.2 with
    | true=>have:=hP.grow hs;omega
    | false=>rw [hP.same hs];omega) with ⟨s',e,h'⟩ | ⟨x,e,rfl,h'⟩
 ·exact .inl ⟨s',e,h'⟩
 ·exact .inr ⟨e,h'⟩
theorem ZtF {ρ:Type} {R:List Zg} {base row0:List Zb} {r:Zg} (mr:r∈R) (hr:ZM r=true) {q:ρ}
  {ab:Zu→Nat→Zz→(List Zb × Bool)→Option ((List Zb × Bool) ⊕ ((List Zb × Bool) ⊕ ρ))} {body:Nat→Zu→(List Zb × Bool)→Option ((List Zb × Bool) ⊕ ρ)}
  (hab:∀t i a s,ab t i a s=(Yc s.1 (Z8 a t)).bind fun v836=>if (decide (0≤v836))=true then some (.inl s) else if (decide (24≤((s.1.length:Nat):Int)))=true then some (.inr (.inr q)) else (XW s.1 (Z8 a t)).bind fun v837=>some (.inl (v837,true)))
  (hb:∀i t s,body i t s=Zo (ab t) (fun s=>some (.inl s)) r.thn 0 s)
  (s:List Zb × Bool) (h:Zi7 R base row0 s):
  (∃s',(∀fin:(List Zb × Bool)→Option ρ,Zo body fin (Zw (XT r) s.1) 0 s=fin s')∧Zi7 R base row0 s'∧(s'.2=false→s.2=false∧∀t∈Zw (XT r) row0,∀a∈r.thn,Z8 a t∈row0))∨((∀fin:(List Zb × Bool)→Option ρ,Zo body fin (Zw (XT r) s.1) 0 s=some q)∧Znm R base):=by
 rcases ZbG (body:=body) (fun p s'=>Zi7 R base row0 s'∧(s'.2=false→s.2=false∧∀t∈p,∀a∈r.thn,Z8 a t∈row0)) (fun x=>x=q∧Znm R base) (Zw (XT r) s.1) s ⟨h,fun hs=>⟨hs,by simp⟩⟩ (fun p t s' mt hp hI=>by
  obtain ⟨hP,hC⟩:=hI
  rw [hb]
  rcases Zuh mr hr h.good mt (hab t) s' hP with ⟨s2,e2,hP2,hC2⟩ | ⟨e2,ho⟩
  ·left
   refine ⟨s2,e2 _,hP2,fun hs=>?_⟩
   obtain ⟨k1,k2⟩:=hC2 hs
   obtain ⟨k3,k4⟩:=hC k1
   refine ⟨k3,fun u mu=>?_⟩
   rcases List.mem_append.1 mu with mu | mu
   ·exact k4 u mu
   ·simp at mu
    subst mu
    exact k2
  ·exact .inr ⟨q,e2 _,rfl,ho⟩) with ⟨s',e,hP,hC⟩ | ⟨x,e,rfl,h'⟩
 ·refine .inl ⟨s',e,hP,fun hs=>?_⟩
  obtain ⟨k1,k2⟩:=hC hs
  exact ⟨k1,by rw [h.same k1] at k2;exact k2⟩
 ·exact .inr ⟨e,h'⟩
theorem ZzU {ρ:Type} {R:List Zg} {base row0:List Zb} (hL:∀r∈R,ZM r=true) (h0:ZeE R base row0) (hl0:row0.length≤24) {q:ρ}
  {ab:Zu→Nat→Zz→(List Zb × Bool)→Option ((List Zb × Bool) ⊕ ((List Zb × Bool) ⊕ ((List Zb × Bool) ⊕ ρ)))} {tb:Zg→Nat→Zu→(List Zb × Bool)→Option ((List Zb × Bool) ⊕ ((List Zb × Bool) ⊕ ρ))} {body:Nat→Zg→(List Zb × Bool)→Option ((List Zb × Bool) ⊕ ρ)}
  (hab:∀t i a s,ab t i a s=(Yc s.1 (Z8 a t)).bind fun v836=>if (decide (0≤v836))=true then some (.inl s) else if (decide (24≤((s.1.length:Nat):Int)))=true then some (.inr (.inr (.inr q))) else (XW s.1 (Z8 a t)).bind fun v837=>some (.inl (v837,true)))
  (htb:∀r i t s,tb r i t s=Zo (ab t) (fun s=>some (.inl s)) r.thn 0 s)
  (hb:∀i r s,r∈R→s.1.length≤24→(∀f∈s.1,Yb f=true)→body i r s=Zo (tb r) (fun s=>some (.inl s)) (Zw (XT r) s.1) 0 s):
  (∃s',(∀fin:(List Zb × Bool)→Option ρ,Zo body fin R 0 (row0,false)=fin s')∧Zi7 R base row0 s'∧(s'.2=false→ZiK R row0))∨((∀fin:(List Zb × Bool)→Option ρ,Zo body fin R 0 (row0,false)=some q)∧Znm R base):=by
 rcases ZbG (body:=body) (fun p s'=>Zi7 R base row0 s'∧(s'.2=false→∀r∈p,∀t∈Zw (XT r) row0,∀a∈r.thn,Z8 a t∈row0)) (fun x=>x=q∧Znm R base) R (row0,false) ⟨⟨h0,hl0,fun f mf=>mf,fun h=>by simp at h,fun _=>rfl⟩,by simp⟩ (fun p r s' mr hp hI=>by
  obtain ⟨hP,hC⟩:=hI
  rw [hb _ _ _ mr hP.len hP.good.ok]
  rcases ZtF (q:=.inr q) mr (hL r mr) (hab) (htb r) s' hP with ⟨s2,e2,hP2,hC2⟩ | ⟨e2,ho⟩
  ·left
   refine ⟨s2,e2 _,hP2,fun hs=>?_⟩
   obtain ⟨k1,k2⟩:=hC2 hs
   intro u mu
   rcases List.mem_append.1 mu with mu | mu
   ·exact hC k1 u mu
   ·simp at mu
    subst mu
    exact k2
  ·exact .inr ⟨q,e2 _,rfl,ho⟩) with ⟨s',e,hP,hC⟩ | ⟨x,e,rfl,h'⟩
 ·exact .inl ⟨s',e,hP,hC⟩
 ·exact .inr ⟨e,h'⟩
theorem Zvr {R:List Zg} {base:List Zb} {body:(List Zb × Bool)→Option ((List Zb × Bool) ⊕ (List Zb × Bool))} (stop:∀row,body (row,false)=some (.inr (row,true)))
  (pass:∀row,ZeE R base row→row.length≤24→(∃s',body (row,true)=some (.inl s')∧Zi7 R base row s'∧(s'.2=false→ZiK R row))∨(body (row,true)=some (.inr ([],false))∧Znm R base)) (hbase:ZeE R base base) (hF24:base.length≤24):∃x,Yp body (base,true)=some x∧Res R base x:=by
 have key:∀n row,ZeE R base row→row.length≤24→25≤row.length+n→∃x,Yp body (row,true)=some x∧Res R base x:=by
  intro n
  induction n with
  | zero=>intro row _ h3 h4;omega
  | succ n ih=>
   intro row hg hl hn
   rcases pass row hg hl with ⟨⟨row',u⟩,e,hP,hC⟩ | ⟨e,ho⟩
   ·rw [Yh e]
    cases u with
    | true=>
     have:=hP.grow rfl
     exact ih row' hP.good hP.len (by simp only at this;omega)
    | false=>
     have hs:=hP.same rfl
     simp only at hs
     subst hs
     exact ⟨_,Z2 (stop _),.inl ⟨rfl,hP.good,hP.len,hC rfl⟩⟩
   ·exact ⟨_,Z2 e,.inr ⟨rfl,rfl,ho⟩⟩
 exact key 25 base hbase hF24 (by omega)
theorem Zhx {R:List Zg} (hR:Zbc R) (base:List Zb):(¬(Z6 R&&R.all (Y4 R))=true∨¬Z3 base=true→Yt R base=some ([],false))∧((Z6 R&&R.all (Y4 R))=true→Z3 base=true→∃x,Yt R base=some x∧Res R base x):=by
 constructor
 ·intro h
  unfold Yt
  rw [ZfU hR,Option.bind_some]
  split
  ·rename_i h1
   rw [Zca,Option.bind_some,if_neg (h.resolve_left (fun h=>h h1))]
  ·rfl
 ·intro h1 h2
  have hL:∀r∈R,ZM r=true:=fun r mr=>by
   rw [Bool.and_eq_true] at h1
   have:=List.all_eq_true.1 h1.2 r mr
   unfold Y4 at this
   rw [Bool.and_eq_true] at this
   exact this.1
  have hrl:∀r∈R,r.cond.length≤4:=fun r mr=>by
   have:=hL r mr
   unfold ZM at this
   simp only [Bool.and_eq_true] at this
   exact (XB this.1.1).1
  obtain ⟨hF24,hFF⟩:=QQ h2
  have hbase:ZeE R base base:=⟨ZcT h2,hFF,fun f mf=>mf,fun G hG f mf=>hG.base f mf⟩
  unfold Yt
  rw [ZfU hR,Option.bind_some,if_pos h1,Zca,Option.bind_some,if_pos h2,ZgF _ (by omega) (fun f mf=>by have:=YY (hFF f mf);omega),Option.bind_some]
  refine Zvr (fun row=>rfl) (fun row hg hl=>?_) hbase hF24
  have hgen:=ZzU (ρ:=(List Zb × Bool) ⊕ (List Zb × Bool)) (q:=.inr ([],false)) hL hg hl
   (ab:=fun t _ a s=>(Yc s.1 (Z8 a t)).bind fun v836=>if (decide (0≤v836))=true then some (.inl s) else if (decide (24≤((s.1.length:Nat):Int)))=true then some (.inr (.inr (.inr (.inr ([],false))))) else (XW s.1 (Z8 a t)).bind fun v837=>some (.inl (v837,true)))
   (tb:=fun r _ t s=>Zo (fun _ a s=>(Yc s.1 (Z8 a t)).bind fun v836=>if (decide (0≤v836))=true then some (.inl s) else if (decide (24≤((s.1.length:Nat):Int)))=true then some (.inr (.inr (.inr (.inr ([],false))))) else (XW s.1 (Z8 a t)).bind fun v837=>some (.inl (v837,true))) (fun s=>some (.inl s)) r.thn 0 s)
   (body:=fun _ r s=>(YP r).bind fun v757=>(QU v757 s.1).bind fun v758=>Zo (fun _ t s=>Zo (fun _ a s=>(XL a.pattern t.binding).bind fun v835=>(Yc s.1 v835.1).bind fun v836=>if (decide (0≤v836))=true then some (.inl s) else if (decide (24≤((s.1.length:Nat):Int)))=true then some (.inr (.inr (.inr (.inr ([],false))))) else (XW s.1 v835.1).bind fun v837=>some (.inl (v837,true))) (fun s=>some (.inl s)) r.thn 0 s) (fun s=>some (.inl s)) v758 0 s)
   (fun _ _ _ _=>rfl) (fun _ _ _ _=>rfl) (fun i r s mr hs hok=>by
    show (YP r).bind _=_
    rw [ZbN r (by have:=hrl r mr;omega),Option.bind_some,ZeA _ _ (by have:=ZdL r;have:=hrl r mr;omega) hs (fun f mf=>YY (hok f mf)),Option.bind_some]
    simp only [Zcd,Option.bind_some]
    rfl)
  rcases hgen with ⟨s',e,hP,hC⟩ | ⟨e,ho⟩
  ·exact .inl ⟨s',e (fun s=>some (.inl s)),hP,hC⟩
  ·exact .inr ⟨e (fun s=>some (.inl s)),ho⟩
structure Zmt (R:List Zg) (base l:List Zb) (row:List Zb):Prop where
 good:ZeE R base row
 sub:∀f∈l,f∈row
theorem ZBC {ρ:Type} {R:List Zg} {base l:List Zb} {r:Zg} (mr:r∈R) (hr:ZM r=true) (hS:ZeE R base l) {t:Zu} (mt:t∈Zw (XT r) l) {N:Nat} (hN:N≤1000000) (ht2:r.thn.length≤2)
  {body:Nat→Zz→List Zb→Option (List Zb ⊕ ρ)} (hb:∀i a row,body i a row=(YX row (Z8 a t)).bind fun v=>some (.inl v)) (row:List Zb) (h:Zmt R base l row) (hlen:row.length≤N):
  ∃row',(∀fin:List Zb→Option ρ,Zo body fin r.thn 0 row=fin row')∧Zmt R base l row'∧row'.length≤N+2∧(∀f∈row,f∈row')∧∀a∈r.thn,Z8 a t∈row':=by
 obtain ⟨row',e,h1,h2,h3,h4⟩:=ZeL (body:=body) (fun p row'=>Zmt R base l row'∧row'.length≤N+p.length∧(∀f∈row,f∈row')∧∀a∈p,Z8 a t∈row') r.thn row ⟨h,by simpa using hlen,fun f mf=>mf,by simp⟩ (fun p a row' ma hp hI=>by
  obtain ⟨h1,h2,h3,h4⟩:=hI
  have hok:=Zs6 hr mt ma
  rw [hb,ZlP _ _ (by omega) (fun f mf=>by have:=YY (h1.good.ok f mf);omega) (by have:=YY hok;omega),Option.bind_some]
  refine ⟨_,rfl,⟨h1.good.add hok (hS.derived mr mt ma),fun f mf=>QP.2 (.inr (h1.sub f mf))⟩,?_,fun f mf=>QP.2 (.inr (h3 f mf)),fun b mb=>?_⟩
  ·have:=Zmb (Z8 a t) row'
   simp only [List.length_append,List.length_singleton]
   omega
  ·rcases List.mem_append.1 mb with mb | mb
   ·exact QP.2 (.inr (h4 b mb))
   ·simp at mb
    subst mb
    exact QP.2 (.inl rfl))
 exact ⟨row',e,h1,by omega,h3,h4⟩
theorem ZBK {ρ:Type} {R:List Zg} {base l:List Zb} {r:Zg} (mr:r∈R) (hr:ZM r=true) (hS:ZeE R base l) (hl24:l.length≤24) (hc4:r.cond.length≤4) (ht2:r.thn.length≤2)
  {body:Nat→Zu→List Zb→Option (List Zb ⊕ ρ)} (hb:∀i t row,t∈Zw (XT r) l→body i t row=Zo (fun (_:Nat) (a:Zz) row=>(YX row (Z8 a t)).bind fun v=>(some (.inl v):Option (List Zb ⊕ (List Zb ⊕ ρ)))) (fun row=>some (.inl row)) r.thn 0 row) (row:List Zb) (h:Zmt R base l row) (hlen:row.length≤24):
  ∃row',(∀fin:List Zb→Option ρ,Zo body fin (Zw (XT r) l) 0 row=fin row')∧Zmt R base l row'∧(∀f∈row,f∈row')∧∀t∈Zw (XT r) l,∀a∈r.thn,Z8 a t∈row':=by
 have hn:=ZaO l hl24 (XT r) (by have:=ZdL r;omega)
 obtain ⟨row',e,h1,h2,h3,h4⟩:=ZeL (body:=body) (fun p row'=>Zmt R base l row'∧row'.length≤24+2 * p.length∧(∀f∈row,f∈row')∧∀t∈p,∀a∈r.thn,Z8 a t∈row') (Zw (XT r) l) row ⟨h,by simpa using hlen,fun f mf=>mf,by simp⟩ (fun p t row' mt hp hI=>by
  obtain ⟨h1,h2,h3,h4⟩:=hI
  rw [hb _ _ _ mt]
  obtain ⟨row2,e2,k1,k2,k3,k4⟩:=ZBC (ρ:=List Zb ⊕ ρ) (body:=fun (_:Nat) (a:Zz) row=>(YX row (Z8 a t)).bind fun v=>some (.inl v)) mr hr hS mt (N:=24+2 * p.length) (by omega) ht2 (fun _ _ _=>rfl) row' h1 h2
  refine ⟨row2,e2 _,k1,by simp only [List.length_append,List.length_singleton];omega,fun f mf=>k3 f (h3 f mf),fun u mu a ma=>?_⟩
  rcases List.mem_append.1 mu with mu | mu
  ·exact k3 _ (h4 u mu a ma)
  ·simp at mu
   subst mu
   exact k4 a ma)
 exact ⟨row',e,h1,h3,h4⟩
theorem Zhv {R:List Zg} (hR:Zbc R) (base:List Zb) (hb20:base.length≤1048576):(¬(Z6 R&&R.all (Y4 R))=true∨¬Z3 base=true→Yu R base=some ([],false))∧((Z6 R&&R.all (Y4 R))=true→Z3 base=true→∃x,Yu R base=some x∧Res R base x):=by
 constructor
 ·intro h
  unfold Yu
  rw [ZfN hR,Option.bind_some]
  split
  ·rename_i h1
   rw [ZhY _ hb20,Option.bind_some,if_neg (h.resolve_left (fun h=>h h1))]
  ·rfl
 ·intro h1 h2
  have hL:∀r∈R,ZM r=true:=fun r mr=>by
   rw [Bool.and_eq_true] at h1
   have:=List.all_eq_true.1 h1.2 r mr
   unfold Y4 at this
   rw [Bool.and_eq_true] at this
   exact this.1
  have hrl:∀r∈R,r.cond.length≤4∧r.thn.length≤2:=fun r mr=>by
   have:=hL r mr
   unfold ZM at this
   simp only [Bool.and_eq_true] at this
   exact XB this.1.1
  obtain ⟨hF24,hFF⟩:=QQ h2
  have hbase:ZeE R base base:=⟨ZcT h2,hFF,fun f mf=>mf,fun G hG f mf=>hG.base f mf⟩
  unfold Yu
  rw [ZfN hR,Option.bind_some,if_pos h1,ZhY _ hb20,Option.bind_some,if_pos h2,Zey _ (by omega) (fun f mf=>by have:=YY (hFF f mf);omega),Option.bind_some]
  refine Zvr (fun row=>rfl) (fun l hg hl=>?_) hbase hF24
  rcases ZbG (σ:=List Zb) (ρ:=(List Zb × Bool) ⊕ (List Zb × Bool)) (body:=fun (_:Nat) (r:Zg) row=>(XJ r).bind fun v745=>(ZaF v745 l).bind fun v746=>Zo (fun _ t row=>Zo (fun _ a row=>(Yy a.pattern t.binding).bind fun v802=>(YX row v802.1).bind fun v803=>some (.inl v803)) (fun row=>some (.inl row)) r.thn 0 row) (fun row=>if (decide (24<((row.length:Nat):Int)))=true then some (.inr (.inr ([],false))) else some (.inl row)) v746 0 row)
   (fun p row=>Zmt R base l row∧row.length≤24∧∀r∈p,∀t∈Zw (XT r) l,∀a∈r.thn,Z8 a t∈row) (fun x=>x=.inr ([],false)∧Znm R base) R l ⟨⟨hg,fun f mf=>mf⟩,hl,by simp⟩ (fun p r row mr hp hI=>by
    obtain ⟨i1,i2,i3⟩:=hI
    obtain ⟨hc4,ht2⟩:=hrl r mr
    obtain ⟨row',e,k1,k3,k4⟩:=ZBK (ρ:=List Zb ⊕ ((List Zb × Bool) ⊕ (List Zb × Bool))) (body:=fun (_:Nat) (t:Zu) row=>Zo (fun _ a row=>(Yy a.pattern t.binding).bind fun v802=>(YX row v802.1).bind fun v803=>some (.inl v803)) (fun row=>some (.inl row)) r.thn 0 row) mr (hL r mr) hg hl hc4 ht2 (fun i t row mt=>by
     have hb6:=X2 (Qp l _ t mt).bind
     have e1:∀p,Yy p t.binding=some (YE (Yf p t.binding)):=fun p=>Zez p t.binding (by omega)
     simp only [e1,Option.bind_some]
     rfl) row i1 i2
    simp only [Ze3 r (by omega),Option.bind_some,ZhC (XT r) l (by have:=ZdL r;omega) hl (fun f mf=>YY (hg.ok f mf)),e]
    by_cases h24:24<row'.length
    ·rw [if_pos (by simp;omega)]
     exact .inr ⟨_,rfl,rfl,k1.good.over (by omega)⟩
    ·rw [if_neg (by simp;omega)]
     refine .inl ⟨_,rfl,k1,by omega,fun u mu t mt a ma=>?_⟩
     rcases List.mem_append.1 mu with mu | mu
     ·exact k3 _ (i3 u mu t mt a ma)
     ·simp at mu
      subst mu
      exact k4 t mt a ma) with ⟨row,e,hP,hlen,hC⟩ | ⟨x,e,rfl,ho⟩
  ·left
   refine ⟨_,e (fun row=>some (.inl (row,decide (((l.length:Nat):Int)<((row.length:Nat):Int))))),?_⟩
   by_cases hlt:l.length<row.length
   ·have hd:decide (((l.length:Nat):Int)<((row.length:Nat):Int))=true:=by simpa using hlt
    rw [hd]
    exact ⟨⟨hP.good,hlen,hP.sub,fun _=>hlt,fun h=>by simp at h⟩,fun h=>by simp at h⟩
   ·have hd:decide (((l.length:Nat):Int)<((row.length:Nat):Int))=false:=by simpa using hlt
    have hback:=Zso (ZdT hg.asc) hP.sub (by omega)
    have heq:row=l:=Zk8 hP.good.asc hg.asc fun f=>⟨hback f,hP.sub f⟩
    rw [hd]
    exact ⟨⟨hP.good,hlen,hP.sub,fun h=>by simp at h,fun _=>heq⟩,fun _ r mr t mt a ma=>hback _ (hC r mr t mt a ma)⟩
  ·exact .inr ⟨e (fun row=>some (.inl (row,decide (((l.length:Nat):Int)<((row.length:Nat):Int))))),ho⟩
theorem Zij {R:List Zg} (hR:Zbc R) (base:List Zb) (hb20:base.length≤1048576):∃x,Yu R base=some x∧Yt R base=some x∧(x=([],false)∨(Z6 R&&R.all (Y4 R))=true∧Z3 base=true∧Res R base x):=by
 obtain ⟨s1,s2⟩:=Zhv hR base hb20
 obtain ⟨i1,i2⟩:=Zhx hR base
 by_cases h1:(Z6 R&&R.all (Y4 R))=true
 ·by_cases h2:Z3 base=true
  ·obtain ⟨x,e1,r1⟩:=s2 h1 h2
   obtain ⟨y,e2,r2⟩:=i2 h1 h2
   rw [←r1.uniq r2] at e2
   exact ⟨x,e1,e2,.inr ⟨h1,h2,r1⟩⟩
  ·exact ⟨_,s1 (.inr h2),i1 (.inr h2),.inl rfl⟩
 ·exact ⟨_,s1 (.inl h1),i1 (.inl h1),.inl rfl⟩
theorem Zhg {α:Type} {f:α→Nat} {N:Nat}:∀{l:List α},(∀x∈l,f x≤N)→(l.map f).sum≤l.length * N
 | [],_=>by simp
 | x::l,h=>by
  have h1:=h x (by simp)
  have h2:=Zhg (l:=l) fun y my=>h y (by simp [my])
  simp only [List.map_cons,List.sum_cons,List.length_cons,Nat.add_mul]
  omega
theorem Zn3 {f:Zb} (h:Yb f=true):ZgB f≤64:=by
 unfold Yb X9 at h
 simp only [Bool.and_eq_true,decide_eq_true_eq,List.all_eq_true] at h
 obtain ⟨⟨⟨h1,_⟩,h2⟩,h3⟩:=h
 have h4:=(Zbr h1).2
 have h5:(f.args.map ByteArray.size).sum≤f.args.length * 8:=Zhg fun x mx=>(Zbr (h3 x mx)).2
 unfold ZgB ZrM
 omega
end Go.Proofs.YtfehfkfdfmcgfaaGreatDoor
namespace Go.Proofs.YtfehfkfdfmcgfaaGreatDoor
def meets (a b:Nat):Prop:=a &&& b≠0
theorem ZmI:∀{a b:List Int},a.Pairwise (·<·)→b.Pairwise (·<·)→(∀x,x∈a↔x∈b)→a=b
 | [],[],_,_,_=>rfl
 | [],y::b,_,_,h=>by have:=(h y).2 (by simp);simp at this
 | x::a,[],_,_,h=>by have:=(h x).1 (by simp);simp at this
 | x::a,y::b,ha,hb,h=>by
  rw [List.pairwise_cons] at ha hb
  have hxy:x=y:=by
   have h1:=(h x).1 (by simp)
   have h2:=(h y).2 (by simp)
   rcases List.mem_cons.1 h1 with e | h1
   ·exact e
   ·rcases List.mem_cons.1 h2 with e | h2
    ·exact e.symm
    ·have:=hb.1 x h1;have:=ha.1 y h2;omega
  subst hxy
  rw [ZmI ha.2 hb.2 fun z=>?_]
  constructor
  ·intro hz
   rcases List.mem_cons.1 ((h z).1 (by simp [hz])) with e | hz'
   ·subst e;have:=ha.1 z hz;omega
   ·exact hz'
  ·intro hz
   rcases List.mem_cons.1 ((h z).2 (by simp [hz])) with e | hz'
   ·subst e;have:=hb.1 z hz;omega
   ·exact hz'
end Go.Proofs.YtfehfkfdfmcgfaaGreatDoor
namespace Go.Proofs.YtfehfkfdfmcgfaaGreatDoor
def ZxR (l:List Int) (x:Int):Bool:=l.any fun y=>y==x
theorem ZqQ {l:List Int} {x:Int}:ZxR l x=true↔x∈l:=by simp [ZxR]
theorem Zqf (l:List Int) (x:Int):Zgz l x=some (ZxR l x):=by
 unfold Zgz ZxR
 rw [Zco (p:=fun y=>y==x) (r:=true)]
 ·cases l.any fun y=>y==x<;>simp
 ·intro i y _
  cases y==x<;>simp
theorem Zua {l:List Int} {x:Int}:x∈Zkx l↔x∈l:=(List.mergeSort_perm l _).mem_iff
theorem Zuf {l:List Int} (h:l.Nodup):(Zkx l).Pairwise (·<·):=by
 have h1:(Zkx l).Pairwise fun x y=>decide (x≤y)=true:=List.pairwise_mergeSort (fun a b c h1 h2=>by simp at *;omega) (fun a b=>by simp;omega) l
 have h2:(Zkx l).Nodup:=(List.mergeSort_perm l _).nodup_iff.2 h
 have h3:(Zkx l).Pairwise (·≠·):=h2
 exact (h1.and h3).imp fun ⟨a,b⟩=>by simp at a;omega
def Zd5:List Int→Int→List Int
 | [],x=>[x]
 | y::l,x=>if y<x then y::Zd5 l x else if y=x then y::l else x::y::l
theorem ZpM (l:List Int) (x:Int) (h:l.length+1≤1073741824):Zgk l x=some (Zd5 l x):=by
 unfold Zgk
 refine (Zal (fun l _ (st:List Int × Bool)=>some (if st.2=true then st.1++l else st.1++Zd5 l x)) (fun l _ (st:List Int × Bool)=>st.1.length+l.length+(if st.2=true then 0 else 1)≤1073741824) ?_ ?_ l 0 ([],false) (by simpa using h)).trans (by simp)
 ·rintro i ⟨row,d⟩ hI
  cases d with
  | true=>simp
  | false=>simp only [Bool.false_eq_true,if_false,Zd5];simp at hI;rw [Zh _ (by omega)]
 ·rintro y l i ⟨row,d⟩ hI
  left
  cases d with
  | true=>
   simp at hI
   exact ⟨(row++[y],true),by simp only [if_true];rw [Zh _ (by omega)],by simp;omega,by simp⟩
  | false=>
   simp at hI
   by_cases h1:x≤y
   ·by_cases h2:y=x
    ·subst h2
     exact ⟨(row++[y],true),by simp;rw [Zh _ (by omega)],by simp;omega,by simp [Zd5]⟩
    ·exact ⟨(row++[x]++[y],true),by simp [h1,h2];rw [Zh _ (by omega),Zh _ (by omega)],by simp;omega,by simp [Zd5,h2,show ¬y<x by omega]⟩
   ·exact ⟨(row++[y],false),by simp [h1];rw [Zh _ (by omega)],by simp;omega,by simp [Zd5,show y<x by omega]⟩
theorem Zk9 {x y:Int}:∀{l:List Int},y∈Zd5 l x↔y=x∨y∈l
 | []=>by simp [Zd5]
 | z::l=>by
  simp only [Zd5]
  split
  ·rw [List.mem_cons,Zk9,List.mem_cons]
   constructor
   ·rintro (h | h | h)<;>simp [h]
   ·rintro (h | h | h)<;>simp [h]
  ·split
   ·rename_i h;subst h;simp
   ·simp
theorem Zqo {x:Int}:∀{l:List Int},l.Pairwise (·<·)→(Zd5 l x).Pairwise (·<·)
 | [],_=>by simp [Zd5]
 | z::l,h=>by
  rw [List.pairwise_cons] at h
  simp only [Zd5]
  split
  ·rw [List.pairwise_cons]
   refine ⟨fun y hy=>?_,Zqo h.2⟩
   rcases Zk9.1 hy with rfl | hy
   ·assumption
   ·exact h.1 y hy
  ·split
   ·rw [List.pairwise_cons];exact h
   ·rw [List.pairwise_cons,List.pairwise_cons]
    refine ⟨fun y hy=>?_,h⟩
    rcases List.mem_cons.1 hy with rfl | hy
    ·omega
    ·have:=h.1 y hy;omega
theorem Zp1 (x:Int):∀l:List Int,(Zd5 l x).length≤l.length+1
 | []=>by simp [Zd5]
 | z::l=>by
  simp only [Zd5]
  split
  ·have:=Zp1 x l;simp;omega
  ·split<;>simp
end Go.Proofs.YtfehfkfdfmcgfaaGreatDoor
