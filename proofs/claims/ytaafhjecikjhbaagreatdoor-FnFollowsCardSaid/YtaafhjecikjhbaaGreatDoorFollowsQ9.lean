/- Texts of this proof, joined: SoS, Sc, Dp16, Dp17, Dp18, Dp19, Dp3, Dp20, Open, LawFnFollows. What each holds is said at its theorems. -/
import Derived.Test.YtaafhjecikjhbaaGreatDoorFollowsQ8
import Derived.Test.YtaafhjecikjhbaaGreatDoorFollowsQ7
import Derived.Test.YtaafhjecikjhbaaGreatDoorFollowsQ6
import Derived.Shelf.GgSortMore.Stable
import Derived.Lib.ReflectliteSwap
import Derived.OwnWalk
import Derived.Outline
import Derived.WalkSpells
import Derived.StillTailTactics
import Derived.Test.YtaafhjecikjhbaaGreatDoorFollowsQ1
import Derived.Deep.Slices
import Derived.ChangeArms
import Derived.ProofKit
import Derived.Test.YtaafhjecikjhbaaGreatDoorFollowsQ4
open Array renaming range→A5,length_toList→AK,getElem?_toList→AT,getElem?_eq_getElem→AW,getElem?_eq_some_iff→AX,toList_range→AZ
open List renaming map→A0,getElem?_eq_getElem→A6,range→A9,flatMap_cons→AC,length_cons→AH,filterMap_cons→AJ,length_map→AL,getElem?_eq_some_iff→AN,nodup_cons→AO,mem_cons→AP,ext_getElem→AQ,getElem?_take_of_lt→AR,getElem?_drop→AS,getElem?_eq_none→AU,mem_of_getElem?→AY,mem_append→Ac,mem_cons_of_mem→Ad
open Nat renaming le_refl→AB,le_trans→AE,add_sub_cancel→AF,zero_le→AG,add_mul→AI,eq_zero_or_pos→Aa
open Option renaming bind_some→AA,getD_some→AD
open Option.some renaming inj→A4
open Go.Proofs.Tryz
set_option linter.unusedSimpArgs false
set_option linter.unusedVariables false
set_option maxRecDepth 1000000
set_option maxHeartbeats 4000000
namespace Go.Proofs.YtaafhjecikjhbaaGreatDoor
section
open Go.RowKit
section
variable {I:Array Nat->World->Prop} {n blk g sf:Nat} {lt:Nat->Nat->Bool} {lb sb:Array Value}
theorem ZAU {k a:Nat}{d:Array Nat}(h:a+20<=n) (hk:n - a<=k):Zk2 lt n k a d=Zk2 lt n (k - 1) (a+20) (Zga lt d a (a+20)):=by
 obtain ⟨k,rfl⟩:∃k',k=k'+1:=⟨k - 1,yE⟩
 rw [Zk2,if_pos h,AF]
theorem ZyJ {k a:Nat}{d:Array Nat}(h:¬a+20<=n):Zk2 lt n k a d=(a,d):=by
 cases k with
 |zero=>rfl
 |succ k=>rw [Zk2,if_neg h]
theorem ZBt {bs k a:Nat}{d:Array Nat}(h0:0<bs) (h:a+2*bs<=n) (hk:n - a<=k):Zim lt n bs k a d=Zim lt n bs (k - 1) (a+2*bs) (ZdS lt n a (a+bs) (a+2*bs) d):=by
 obtain ⟨k,rfl⟩:∃k',k=k'+1:=⟨k - 1,yE⟩
 rw [Zim,if_pos h,AF]
theorem ZzK {bs k a:Nat}{d:Array Nat}(h:¬a+2*bs<=n):Zim lt n bs k a d=(a,d):=by
 cases k with
 |zero=>rfl
 |succ k=>rw [Zim,if_neg h]
theorem ZBm {bs k:Nat}{d:Array Nat}(h:bs<n) (hk:n - bs<=k):ZnK lt n k bs d=ZnK lt n (k - 1) (2*bs) (ZoQ lt n bs d):=by
 obtain ⟨k,rfl⟩:∃k',k=k'+1:=⟨k - 1,yE⟩
 rw [ZnK,if_pos h,AF]
theorem Zyn {bs k:Nat}{d:Array Nat}(h:¬bs<n):ZnK lt n k bs d=d:=by
 cases k with
 |zero=>rfl
 |succ k=>rw [ZnK,if_neg h]
theorem ZxA (h:ZgF I n blk g sf lt lb sb) {zn:Int}(en:zn=n) (dk:Array Nat) (W:World) (hI:I dk W):
  Calls prog 147 #[.agg #[.func (.func g) #[] lb,.func (.func sf) #[] sb],.int .i64 zn] W (soP I blk W (Zg6 lt n dk)):=by
 subst en
 have HS:=Lib.hid h
 have n62:=h.n62
 have hblk:=h.lt _ _ hI
 obtain ⟨i1,o1⟩:=h.box hI (.cells #[.func (.func g) #[] lb,.func (.func sf) #[] sb] 212)
 have HI1:=Lib.hid i1
 have HO1:=Lib.hid o1
 have HB1:Hid (Blk (W.alloc (.cells #[.func (.func g) #[] lb,.func (.func sf) #[] sb] 212)) W.heap.size 212 #[.func (.func g) #[] lb,.func (.func sf) #[] sb]):=Blk.new _ _ _
 clear hI h i1 o1
 go_enter func147,ntmps147
 go_wp2
 go_loopw [5,6] (fun va vb wr=>∃(a k:Nat) (d:Array Nat),va=.int .i64 a/\vb=.int .i64 ((a+20:Nat):Int)/\a<=n/\n - a<=k/\Hid (Zk2 lt n k a d=Zk2 lt n n 0 dk)/\Hid (I d wr)/\Hid (Y8 [blk] W wr)/\Hid (Blk wr W.heap.size 212 #[.func (.func g) #[] lb,.func (.func sf) #[] sb])) (fun va _ _=>n - (intOf va).toNat)
 case atStart=>exact ⟨0,n,dk,rfl,rfl,AG _,AB _,rfl,HI1,HO1,HB1⟩
 case round=>
  clear HI1 HO1 HB1
  obtain ⟨a,k,d,rfl,rfl,han,hk,HH,HI,HO,HB⟩:=hrel
  have c0:=HB.out.at (i:=0) rfl
  have c1:=HB.out.at (i:=1) rfl
  by_cases j:a+20<=n
  .have HH2:=Lib.hid ((ZAU (lt:=lt) (d:=d) j hk).symm.trans HH.out)
   clear HH
   have hz:((a+20:Nat):Int)=(a:Int)+20:=by omega
   rw [hz]
   go_wp2_with fail
   refine (Zjo HS.out a (a+20) rfl yE d _ HI.out yE yE).mono ?_
   rintro e w1 ⟨rfl,i2,o2⟩
   go_wp2
   exact ⟨⟨a+20,k - 1,_,by go_num,by go_num,yE,yE,HH2,i2,HO.out.trans o2,YC HB.out o2 yE⟩,by simp [intOf];omega⟩
  .have hX:Zk2 lt n n 0 dk=(a,d):=HH.out.symm.trans (ZyJ j)
   have HX:Hid (ZnK lt n n 20 (Zga lt d a n)=Zg6 lt n dk):=by
    show _=Zg6 lt n dk
    unfold Zg6
    rw [hX]
   clear HH hX
   have hz:((a+20:Nat):Int)=(a:Int)+20:=by omega
   rw [hz]
   have hge:¬(a:Int)+20<=n:=by omega
   go_wp2_with fail
   refine (Zjo HS.out a n rfl rfl d _ HI.out yE yE).mono ?_
   rintro e w1 ⟨rfl,i2,o2⟩
   replace HI:=Lib.hid i2
   replace HO:=Lib.hid (HO.out.trans o2)
   replace HB:=Lib.hid (YC HB.out o2 yE)
   clear i2 o2 c0 c1
   generalize Zga lt d a n=d at *
   go_wp2
   go_loopw [4] (fun vs wr=>∃(bs k:Nat) (d:Array Nat),vs=.int .i64 bs/\20<=bs/\bs<=20+2*n/\n - bs<=k/\Hid (ZnK lt n k bs d=Zg6 lt n dk)/\Hid (I d wr)/\Hid (Y8 [blk] W wr)/\Hid (Blk wr W.heap.size 212 #[.func (.func g) #[] lb,.func (.func sf) #[] sb])) (fun vs _=>n - (intOf vs).toNat)
   case atStart=>exact ⟨20,n,d,rfl,AB _,yE,yE,HX,HI,HO,HB⟩
   case round=>
    clear HI HO HB HX
    obtain ⟨bs,k,d,rfl,hbs,hbn,hk,HH,HI,HO,HB⟩:=hrel
    have c0:=HB.out.at (i:=0) rfl
    have c1:=HB.out.at (i:=1) rfl
    by_cases b:bs<n
    .have HH2:=Lib.hid ((ZBm (lt:=lt) (d:=d) b hk).symm.trans HH.out)
     clear HH
     go_wp2
     go_loopw [5,6] (fun va vb wr=>∃(a k2:Nat) (d2:Array Nat),va=.int .i64 a/\vb=.int .i64 ((a+2*bs:Nat):Int)/\a<=n/\n - a<=k2/\Hid (Zim lt n bs k2 a d2=Zim lt n bs n 0 d)/\Hid (I d2 wr)/\Hid (Y8 [blk] W wr)/\Hid (Blk wr W.heap.size 212 #[.func (.func g) #[] lb,.func (.func sf) #[] sb])) (fun va _ _=>n - (intOf va).toNat)
     case atStart=>exact ⟨0,n,d,rfl,by go_num,AG _,AB _,rfl,HI,HO,HB⟩
     case round=>
      clear HI HO HB c0 c1
      obtain ⟨a,k2,d2,rfl,rfl,han2,l,HH,HI,HO,HB⟩:=hrel
      have c0:=HB.out.at (i:=0) rfl
      have c1:=HB.out.at (i:=1) rfl
      have hz:((a+2*bs:Nat):Int)=(a:Int)+2*bs:=by omega
      rw [hz]
      by_cases c:a+2*bs<=n
      .have HH3:=Lib.hid ((ZBt (lt:=lt) (d:=d2) yE c l).symm.trans HH.out)
       clear HH
       have m:(a:Int)+2*bs<=n:=by omega
       go_wp2_with fail
       refine (Zhf HS.out n a (a+bs) (a+2*bs) rfl yE yE d2 _ HI.out yE yE yE yE).mono ?_
       rintro e w1 ⟨rfl,i2,o2⟩
       go_wp2
       exact ⟨⟨a+2*bs,k2 - 1,_,by go_num,by go_num,yE,yE,HH3,i2,HO.out.trans o2,YC HB.out o2 yE⟩,by simp [intOf];omega⟩
      .have hX:Zim lt n bs n 0 d=(a,d2):=HH.out.symm.trans (ZzK c)
       clear HH
       have m:¬(a:Int)+2*bs<=n:=by omega
       by_cases f:a+bs<n
       .have HX:Hid (ZdS lt n a (a+bs) n d2=ZoQ lt n bs d):=by
         show _=ZoQ lt n bs d
         unfold ZoQ
         rw [hX,if_pos f]
        clear hX
        have o:(a:Int)+bs<n:=by omega
        go_wp2_with fail
        refine (Zhf HS.out n a (a+bs) n rfl yE rfl d2 _ HI.out yE yE yE yE).mono ?_
        rintro e w1 ⟨rfl,i2,o2⟩
        go_wp2
        exact ⟨⟨2*bs,k - 1,_,by go_num,yE,yE,yE,by rw [HX.out];exact HH2,i2,HO.out.trans o2,YC HB.out o2 yE⟩,by simp [intOf];omega⟩
       .have HX:Hid (d2=ZoQ lt n bs d):=by
         show _=ZoQ lt n bs d
         unfold ZoQ
         rw [hX,if_neg f]
        clear hX
        have o:¬(a:Int)+bs<n:=by omega
        go_wp2
        exact ⟨⟨2*bs,k - 1,_,by go_num,yE,yE,yE,by rw [HX.out];exact HH2,HI,HO,HB⟩,by simp [intOf];omega⟩
    .have hX:d=Zg6 lt n dk:=(Zyn b).symm.trans HH.out
     have HX:=Lib.hid hX
     clear hX HH
     go_wp2
     go_end0
     exact ⟨rfl,by rw [<-HX.out];exact HI.out,HO.out⟩
end
end
section
open Go.RowKit
noncomputable def scT:TypeInfo:=(prog.info? 55).get yO
noncomputable def scE:TypeInfo:=(prog.info? 64).get yO
theorem scK (n:Nat):Lib.swapperK n scE 25=if n=0 then 1 else if n=1 then 2 else 9:=by
 have a:scE.hasPointers=true:=yO
 have b:(scE.bytes==8)=false:=yO
 unfold Lib.swapperK
 by_cases h0:n=0
 .subst h0;rfl
 .by_cases h1:n=1
  .subst h1;rfl
  .have c:(n==0)=false:=by simp [h0]
   have d:(n==1)=false:=by simp [h1]
   simp [a,b,c,d,h0,h1]
theorem ZkP {g t:Nat}:∀(vs:List Value) {w:World}{cs:Array Value}(o:Nat),Blk w g t cs->∃a,Blk (w.setCells g o vs) g t a/\a.size=cs.size/\∀k,k<cs.size->a[k]?=if o<=k/\k<o+vs.length then vs[k - o]? else cs[k]?
 | [],w,cs,o,h=>⟨cs,h,rfl,fun k _=>by rw [if_neg (by simp only[List.length_nil];omega)]⟩
 |v::vs,w,cs,o,h=>by
  obtain ⟨a,h1,h2,h3⟩:=ZkP vs (o+1) (h.set_ o v)
  refine ⟨a,h1,by rw [h2];simp,fun k hk=>?_⟩
  rw [h3 k (by simpa using hk)]
  by_cases e:k=o
  .subst e
   rw [if_neg yE,if_pos yG]
   simp [hk]
  .by_cases e2:o+1<=k/\k<o+1+vs.length
   .rw [if_pos e2,if_pos (by simp only[AH];omega),show k - o=(k - (o+1))+1 by omega,List.getElem?_cons_succ]
   .rw [if_neg e2,if_neg (by simp only[AH];omega),Array.getElem?_setIfInBounds,if_neg (fun x=>e x.symm)]
theorem ZnY {css:Nat->List Value}{m:Nat}:∀{ks:List Nat}{t r:Nat}(ht:t<ks.length),(∀k∈ks,(css k).length=m)->r<m->(ks.flatMap css)[t*m+r]?=(css ks[t])[r]?
 | [],t,r,ht,_,_=>by simp at ht
 |k::ks,0,r,ht,h,hr=>by
  rw [AC,Nat.zero_mul,Nat.zero_add,List.getElem?_append_left (by rw [h k yG];exact hr)];rfl
 |k::ks,t+1,r,ht,h,hr=>by
  have hk:=h k yG
  rw [AC,List.getElem?_append_right (by rw [hk,AI];omega),hk,show (t+1)*m+r - m=t*m+r by rw [AI];omega]
  exact ZnY (ks:=ks) (by simpa using ht) (fun k mk=>h k (by simp [mk])) hr
theorem Ztu {css:Nat->List Value}{m:Nat}:∀{ks:List Nat},(∀k∈ks,(css k).length=m)->(ks.flatMap css).length=ks.length*m
 | [],_=>by simp
 |k::ks,h=>by rw [AC,List.length_append,h k yG,Ztu (fun k mk=>h k (by simp [mk])),AH,AI];omega
theorem ZyY {l:List ZC}:∀{ks:List Nat}{t:Nat},(∀k∈ks,k<l.length)->(ks.filterMap fun i=>l[i]?)[t]?=(ks[t]?).bind fun i=>l[i]?
 | [],t,_=>by simp
 |k::ks,t,h=>by
  obtain ⟨x,hx⟩:∃x,l[k]?=some x:=⟨_,A6 (h k yG)⟩
  rw [AJ,hx]
  cases t with
  |zero=>simp [hx]
  |succ t=>exact ZyY (ks:=ks) fun k mk=>h k (by simp [mk])
theorem Zt1 {l:List ZC}:∀{ks:List Nat},(∀k∈ks,k<l.length)->(ks.filterMap fun i=>l[i]?).length=ks.length
 | [],_=>by simp
 |k::ks,h=>by
  obtain ⟨x,hx⟩:∃x,l[k]?=some x:=⟨_,A6 (h k yG)⟩
  rw [AJ,hx]
  simp [Zt1 (ks:=ks) fun k mk=>h k (by simp [mk])]
theorem Zv3 {n t : Nat}(h : t < n) : (A5 n)[t]! = t := by
  rw [getElem!_pos (A5 n) t (by simpa using h)]
  simp
theorem Zmq {W:World}{l:List ZC}{css:Nat->List Value}{Ls:Nat->List Nat}:∀{ks:List Nat},(∀k∈ks,∃x,l[k]?=some x/\RCs W (Yu x) (css k) (Ls k)/\(css k).length=7)->REs W 7 ((ks.filterMap fun i=>l[i]?).map Yu) (ks.flatMap css) (ks.flatMap Ls)
 | [],_=>⟨rfl,rfl⟩
 |k::ks,h=>by
  obtain ⟨x,hx,h1,h2⟩:=h k yG
  rw [AJ,hx]
  exact ⟨css k,_,Ls k,_,by rw [AC],by rw [AC],⟨h1,h2⟩,Zmq fun k mk=>h k (by simp [mk])⟩
theorem ZwH {W:World}{l:List ZC}{cs:List Value}{L:List Nat}(h:REs W 7 (l.map Yu) cs L):∃(css:Nat->List Value) (Ls:Nat->List Nat),cs=(A9 l.length).flatMap css/\L=(A9 l.length).flatMap Ls/\∀k,k<l.length->∃x,l[k]?=some x/\RCs W (Yu x) (css k) (Ls k)/\(css k).length=7:=by
 obtain ⟨css,Ls,h1,h2,h3,h4,h5⟩:=Zjb (c:=ZqI) (ZpQ.reps_of h)
 have fl:∀{β:Type} (xs:List (List β)) (n:Nat),xs.length=n->xs.flatten=(A9 n).flatMap fun i=>(xs[i]?).getD []:=fun xs n hn=>by
  subst hn
  rw [List.flatMap_def]
  congr 1
  refine AQ yG fun i a b=>?_
  simp only[List.getElem_map,List.getElem_range]
  rw [A6 a,AD]
 refine ⟨fun i=>(css[i]?).getD [],fun i=>(Ls[i]?).getD [],by rw [h3];exact fl css _ h1,by rw [h4];exact fl Ls _ h2,fun k hk=>?_⟩
 obtain ⟨x,hx⟩:∃x,l[k]?=some x:=⟨_,A6 hk⟩
 obtain ⟨c1,hc⟩:∃x,css[k]?=some x:=⟨_,A6 yE⟩
 obtain ⟨l1,hl⟩:∃x,Ls[k]?=some x:=⟨_,A6 yE⟩
 have hr:=h5 k x c1 l1 hx hc hl
 exact ⟨x,hx,by simp only[hc,hl,AD];exact ZpQ.to hr,by simp only[hc,AD];exact ZqI.len hr⟩
structure ScD (w:World) (B b g o cap sz:Nat) (l:List ZC) (css:Nat->List Value) (Ls:Nat->List Nat):Prop where
 el:∀k,k<l.length->∃x,l[k]?=some x/\RCs w (Yu x) (css k) (Ls k)/\(css k).length=7
 far:∀k,k<l.length->∀y∈Ls k,y<w.heap.size/\y≠g
 gb:g≠b
 hB:B<=g
 cap:l.length<=cap/\cap<=maxLen/\o+cap*7<=sz
 jf:JF0 g
 cmp:∀x∈l,∀y∈l,(Yp x y).isSome=true
structure ScI (w:World) (b g o cap sz:Nat) (l:List ZC) (css:Nat->List Value) (Ls:Nat->List Nat) (dk:Array Nat) (W:World):Prop where
 pm:Pm (A5 l.length) dk
 box:Blk W b 55 #[.slice (some ⟨g,o,none⟩) l.length cap]
 row:∃cur,Blk W g 64 cur/\cur.size=sz/\∀t r,t<l.length->r<7->cur[o+(t*7+r)]?=(css dk[t]!)[r]?
 keep:∀k,k<l.length->∀y∈Ls k,W.heap[y]?=w.heap[y]?
 j:J0 W
section
variable {w W W':World} {B b g o cap sz:Nat} {l:List ZC} {css:Nat->List Value} {Ls:Nat->List Nat} {dk:Array Nat}
theorem Zkl (h:Pm (A5 l.length) dk):dk.size=l.length:=by rw [h.1];simp
theorem Zpq (h:Pm (A5 l.length) dk):∀k∈dk.toList,k<l.length:=fun k mk=>by
 have:=h.2.mem_iff.1 mk
 simpa using this
theorem Zvz (h:Pm (A5 l.length) dk) {t:Nat}(ht:t<l.length):dk[t]!<l.length/\dk.toList[t]?=some dk[t]!:=by
 have hs:=Zkl h
 rw [getElem!_pos dk t yE]
 exact ⟨Zpq h _ yG,by simp [A6,hs,ht]⟩
theorem ScD.at_ (D:ScD w B b g o cap sz l css Ls) (h:ScI w b g o cap sz l css Ls dk W):∀k∈dk.toList,∃x,l[k]?=some x/\RCs W (Yu x) (css k) (Ls k)/\(css k).length=7:=fun k mk=>by
 have hk:=Zpq h.pm k mk
 obtain ⟨x,h1,h2,h3⟩:=D.el k hk
 exact ⟨x,h1,h2.keep (h.keep k hk),h3⟩
theorem ScD.len (D:ScD w B b g o cap sz l css Ls) (h:ScI w b g o cap sz l css Ls dk W):∀k∈dk.toList,(css k).length=7:=fun k mk=>by
 obtain ⟨_,_,_,h3⟩:=D.at_ h k mk
 exact h3
theorem ScD.owns (D:ScD w B b g o cap sz l css Ls) (h:ScI w b g o cap sz l css Ls dk W):W.ownsV B 64 7 (.slice (some ⟨g,o,none⟩) l.length cap) l.length (dk.toList.flatMap css):=by
 obtain ⟨a,h1,h2,h3⟩:=h.row
 have hs:=Zkl h.pm
 have hl:(dk.toList.flatMap css).length=l.length*7:=by rw [Ztu (ks:=dk.toList) (D.len h),AK (xs:=dk),hs]
 obtain ⟨c1,c2,c3⟩:=D.cap
 refine ⟨hl,.inr ⟨g,o,cap,a,rfl,D.hB,h1,c1,c2,yE,List.ext_getElem? fun j=>?_⟩⟩
 by_cases hj:j<l.length*7
 .have e:j=j / 7*7+j % 7:=by omega
  have ht:j / 7<l.length:=by omega
  rw [AR hj,AS,AT,e,h3 (j / 7) (j % 7) ht yE,ZnY (ks:=dk.toList) (by simp;omega) (D.len h) yE]
  rw [getElem!_pos dk (j / 7) yE]
  simp
 .rw [AU (by rw [List.length_take];omega),AU (by rw [hl];omega)]
theorem ScI.ext (D:ScD w B b g o cap sz l css Ls) (h:ScI w b g o cap sz l css Ls dk W) (hb:Below W.heap.size W W'):ScI w b g o cap sz l css Ls dk W':=by
 obtain ⟨a,h1,h2⟩:=h.row
 refine ⟨h.pm,h.box.later hb,⟨a,h1.later hb,h2⟩,fun k hk y my=>?_,Xu hJ0 h.j hb⟩
 have e:=h.keep k hk y my
 have c:y<W.heap.size:=by
  have h1:=(D.far k hk y my).1
  rw [AW h1]at e
  exact (AX.1 e).1
 exact (hb.block y c).trans e
theorem ZCi (D : ScD w B b g o cap sz l css Ls) (h : ScI w b g o cap sz l css Ls dk W) {i j : Nat}(hi : i < l.length) (hj : j < l.length) : Calls prog 113 #[.int .i64 i, .int .i64 j, .pointer (some ⟨b, 0, none⟩)] W fun e w' => e = .returned (.bool (ltC l dk[i]! dk[j]!)) /\ ScI w b g o cap sz l css Ls dk w' /\ Below W.heap.size W w' := by
  obtain ⟨i1, i2⟩ := Zvz h.pm hi
  obtain ⟨j1, j2⟩ := Zvz h.pm hj
  obtain ⟨x, hx⟩ : ∃ x, l[dk[i]!]? = some x := ⟨_, A6 i1⟩
  obtain ⟨y, hy⟩ : ∃ y, l[dk[j]!]? = some y := ⟨_, A6 j1⟩
  obtain ⟨v, hv⟩ := Option.isSome_iff_exists.1 (D.cmp x (AY hx) y (AY hy))
  have c := Zpq h.pm
  have hr : ZbC i j (dk.toList.filterMap fun i => l[i]?) = some (decide (v < 0)) := by
    unfold ZbC
    rw [YN, ZyY c, i2, AA, hx, AA, YN, ZyY c, j2, AA, hy, AA, hv, AA]
  have hl : ltC l dk[i]! dk[j]! = decide (v < 0) := by
    unfold ltC
    rw [hx, AA, hy, AA, hv, AD]
  have d := D.owns h
  have a : ((dk.toList.filterMap fun i => l[i]?).map Yu).length = l.length := by rw [AL, Zt1 c, AK, Zkl h.pm]
  obtain ⟨c1, c2, c3⟩ := D.cap
  have f : RC W (.pt [.sl 64 7 (A0 Yu (dk.toList.filterMap fun i => l[i]?))]) (.pointer (some ⟨b, 0, none⟩)) (b :: ([g] ++ dk.toList.flatMap Ls)) := by
    refine ⟨b, [.slice (some ⟨g, o, none⟩) l.length cap], _, rfl, h.box.lt, rfl, fun k u hu => ?_, ⟨_, [], [g] ++ dk.toList.flatMap Ls, [], rfl, by simp, ⟨some ⟨g, o, none⟩, cap, dk.toList.flatMap css, [g], dk.toList.flatMap Ls, by rw [a], by rw [a]; exact c1, c2, rfl, by omega, ⟨by rw [a]; exact d.1, .inr ⟨by rw [a]; omega, g, o, rfl, rfl, fun k u hu => Zg7 d rfl k u hu⟩⟩, Zmq (D.at_ h)⟩, rfl, rfl⟩⟩
    rw [Nat.zero_add]
    cases k with
    |zero => simp at hu; subst hu; exact h.box.at (i := 0) rfl
    |succ k => simp at hu
  rw [hl]
  refine (Zm.givesB (ZiY hr) h.j (vs := [_, _, _]) ⟨Zu4 W i, Zu4 W j, .inr ⟨rfl, _, _, rfl, f, fun _ _ h => h⟩, trivial⟩).mono ?_
  rintro e w' ⟨rfl, hb⟩
  exact ⟨rfl, h.ext D hb, hb⟩
theorem Zvu {W:World}{x:ZC}{cs:List Value}{L:List Nat}(h:RCs W (Yu x) cs L) (hl:cs.length=7):∀u∈cs,u.oneCell'=true:=
 REs.one (w:=W) (m:=7) (xs:=[Yu x]) (cs:=cs) (L:=L) ⟨cs,[],L,[],yG,yG,⟨h,hl⟩,rfl,rfl⟩
theorem ZiL {g:Nat}:∀(vs:List Value) (o:Nat) (w:World),Y8 [g] w (w.setCells g o vs)
 | [],_,w=>Y8.refl _ _
 |v::vs,o,w=>((Y8.refl [g] w).setCell (p:=⟨g,o,none⟩) yG v).trans (ZiL vs (o+1) _)
theorem ZB2 (D:ScD w B b g o cap sz l css Ls) (h:ScI w b g o cap sz l css Ls dk W) {i j:Nat}(hi:i<l.length) (hj:j<l.length):∃W',(callFunc 188 (#[.int .i64 i,.int .i64 j]++#[.slice (some ⟨g,o,none⟩) l.length cap,typeHandle prog 64])).run prog W=.ok (.value (.tuple #[])) W'/\ScI w b g o cap sz l css Ls (swq dk i j) W'/\Y8 [g] W W':=by
 obtain ⟨cur,h1,h2,h3⟩:=h.row
 obtain ⟨i1,i2⟩:=Zvz h.pm hi
 obtain ⟨j1,j2⟩:=Zvz h.pm hj
 obtain ⟨x,hx,rx,lx⟩:=D.el _ i1
 obtain ⟨y,hy,ry,ly⟩:=D.el _ j1
 obtain ⟨c1,c2,c3⟩:=D.cap
 have hs:scE.size=7:=yO
 have hsz:=Zkl h.pm
 obtain ⟨n,hn⟩:∃n,n=l.length:=⟨_,rfl⟩
 have c:∀t r v,t<l.length->(css dk[t]!)[r]?=some v->r<7->W.cell? ⟨g,o+t*7+r,none⟩=some v:=fun t r v ht hv hr=>by
  have:=h3 t r ht hr
  rw [hv]at this
  rw [Nat.add_assoc]
  exact h1.at this
 have d:=Lib.run_swap_cells (P:=prog) false 64 scE yO (fun _=>by kernel_rfl) g o l.length cap i j hi hj (css dk[i]!) (css dk[j]!) (by rw [hs];exact lx) (by rw [hs];exact ly) (Zvu rx lx) (Zvu ry ly) W
  (fun k v hk=>by rw [hs];exact c i k v hi hk (by have:=(AN.1 hk).1;omega)) (fun k v hk=>by rw [hs];exact c j k v hj hk (by have:=(AN.1 hk).1;omega)) (fun k _=>h1.frozen _) (fun k _=>h1.frozen _)
 rw [hs]at d
 have ho:Y8 [g] W ((W.setCells g (o+i*7) (css dk[j]!)).setCells g (o+j*7) (css dk[i]!)):=(ZiL _ _ _).trans (ZiL _ _ _)
 obtain ⟨cur1,p1,p2,p3⟩:=ZkP (css dk[j]!) (o+i*7) h1
 obtain ⟨f,q1,q2,q3⟩:=ZkP (css dk[i]!) (o+j*7) p1
 have a:∀t,t<l.length->o+t*7+7<=sz:=fun t ht=>by omega
 refine ⟨_,?_,⟨h.pm.trans ?_,?_,⟨f,q1,yE,fun t r ht hr=>?_⟩,fun k hk y my=>?_,?_⟩,ho⟩
 .rw [run_callFunc_extern func188 yO yO yO (e:=Extern.ReflectliteSwapper.swap false) yO]
  rw [show (#[.int .i64 i,.int .i64 j]++#[.slice (some ⟨g,o,none⟩) l.length cap,typeHandle prog 64]:Array Value)=#[.int .i64 i,.int .i64 j,.slice (some ⟨g,o,none⟩) l.length cap,typeHandle prog 64] from rfl,d]
  rfl
 .exact Zkw dk i j
 .exact (ho.block b h.box.lt (by simpa using fun e=>D.gb e.symm)).trans h.box
 .have a1:=a t ht
  have a2:=a i hi
  have a3:=a j hj
  unfold swq
  rw [if_pos ⟨yE,yE⟩,Go.Sort.swp_get dk yE yE,q3 _ yE,lx,p3 _ yE,ly]
  by_cases e1:t=j
  .subst e1
   rw [if_pos ⟨yE,yE⟩,if_pos rfl]
   congr 1
   omega
  .rw [if_neg (fun hh=>e1 yE),if_neg e1]
   by_cases e2:t=i
   .subst e2
    rw [if_pos ⟨yE,yE⟩,if_pos rfl]
    congr 1
    omega
   .rw [if_neg (fun hh=>e2 yE),if_neg e2]
    exact h3 t r ht hr
 .obtain ⟨y1,y2⟩:=D.far k hk y my
  have e:=h.keep k hk y my
  have m:y<W.heap.size:=by
   rw [AW y1]at e
   exact (AX.1 e).1
  exact (ho.block y m (by simpa using y2)).trans e
 .exact hJ0.below (·=g) W _ h.j (fun b hb=>hb ▸ D.jf) ho.os ho.tape ho.output ho.size fun k hk hn=>ho.block k hk (by simpa using hn)
theorem ZyU (D:ScD w B b g o cap sz l css Ls) (a:l.length<4611686018427387904):ZgF (ScI w b g o cap sz l css Ls) l.length g 113 188 (ltC l) #[.pointer (some ⟨b,0,none⟩)] #[.slice (some ⟨g,o,none⟩) l.length cap,typeHandle prog 64] where
 n62:=a
 eg:=enters_of func113 yO rfl
 less:=fun dk W i j h hi hj=>ZCi D h hi hj
 swap:=fun dk W i j h hi hj=>ZB2 D h hi hj
 ext:=fun dk W W' h hb=>h.ext D hb
 lt:=fun dk W h=>by obtain ⟨cur,h1,_⟩:=h.row;exact h1.lt
end
noncomputable def ZpX (l:List ZC):List ZC:=(Zg6 (ltC l) l.length (A5 l.length)).toList.filterMap fun i=>l[i]?
theorem Zwe (l:List ZC):(ZpX l).length=l.length:=by
 have h:=ZnJ (ltC l) l.length (A5 l.length)
 unfold ZpX
 rw [Zt1 (Zpq h),AK,Zkl h]
/-- the sort: the row holds its choices in order -/
theorem ZBn {w : World} {B b : Nat} {v : Value} {cs : List Value} {L : List Nat} {l : List ZC} (hj : J0 w) (hblk : Blk w b 55 #[v]) (hown : w.ownsV B 64 7 v l.length cs) (hre : REs w 7 (A0 Yu l) cs L) (hO : Own w B (b :: (v.ownBlock.toList ++ L))) (hJF : ∀ g, B ≤ g → JF0 g) (h20 : l.length ≤ 1048576) (hcmp : ∀ x ∈ l, ∀ y ∈ l, (Yp x y).isSome = true) :
    Calls prog 112 #[.iface 55 v, .func (.func 113) #[] #[.pointer (some ⟨b, 0, none⟩)]] w fun e w' => e = .returned (.tuple #[]) ∧ w'.cell? ⟨b, 0, none⟩ = some v ∧ (∃ cs' L', w'.ownsV B 64 7 v l.length cs' ∧ REs w' 7 (A0 Yu (ZpX l)) cs' L' ∧ Own w' B (b :: (v.ownBlock.toList ++ L'))) ∧ Below B w w' := by
  obtain ⟨A, c, rfl, hnc, hcm⟩ := Y2 hown
  obtain ⟨hnb, hnd⟩ := AO.1 hO.nodup
  have hB : B ≤ b := hO.ge b (List.mem_cons_self ..)
  by_cases h2 : l.length ≤ 1
  · have hf : ∃ f, prog.funcs.findIdx? (·.name == "internal/reflectlite" ++ ".Swapper$" ++ toString (Lib.swapperK l.length scE 25)) = some f := by
      rw [scK]
      by_cases h0 : l.length = 0
      · rw [if_pos h0]; exact ⟨180, by kernel_rfl⟩
      · rw [if_neg h0, if_pos yE]; exact ⟨181, by kernel_rfl⟩
    obtain ⟨f, hf⟩ := hf
    have hT := Any.sort_SliceStable_tiny laysGt8 55 64 scT scE yO yO yO yO 25 (fun _ => by kernel_rfl) A l.length c h2 f hf (.func 113) #[] #[.pointer (some ⟨b, 0, none⟩)] w
    refine (show Calls _ 112 _ _ _ from hT).mono ?_
    rintro e w' ⟨rfl, os, rfl⟩
    have hst : ZpX l = l := by
      have key : ∀ X : Array Nat, Pm (A5 l.length) X → X.toList = A9 l.length := fun X hX => by
        have p := hX.2
        rw [AZ] at p
        rcases Aa l.length with h0 | h0
        · rw [h0] at p ⊢
          exact List.perm_nil.1 p
        · have h1 : l.length = 1 := by omega
          rw [h1] at p ⊢
          exact List.perm_singleton.1 p
      unfold ZpX
      rw [key _ (ZnJ (ltC l) l.length (A5 l.length))]
      match l, h2 with
      | [], _ => rfl
      | [x], _ => rfl
    have hb0 : Below w.heap.size w (Go.Sort.grow w os) := ⟨rfl, rfl, rfl, by rw [Go.Sort.size_grow]; omega, fun k hk => Go.Sort.heap_grow_old _ _ hk⟩
    have hlt := hO.lt
    have hk : ∀ y ∈ b :: ((Value.slice A l.length c).ownBlock.toList ++ L), (Go.Sort.grow w os).heap[y]? = w.heap[y]? := fun y m => hb0.block y (hlt y m)
    refine ⟨rfl, (Go.Sort.cell?_grow _ _ _ hblk.lt).trans (hblk.at (i := 0) rfl), ⟨cs, L, XT hown fun y m => hk y (by simp at m ⊢; exact .inr (.inl m)), ?_, hO.keep hk⟩, hb0.mono (AE hB (Nat.le_of_lt hblk.lt))⟩
    rw [hst]
    exact REs.keep hre fun y m => hk y (by simp [m])
  · rcases hown.2 with ⟨h0, h1⟩ | ⟨g, o, cap, cur, hv, hb, hg, hnc', hm, hs, ht⟩
    · omega
    simp only[Value.slice.injEq, true_and] at hv
    obtain ⟨rfl, rfl⟩ := hv
    have hgb : g ≠ b := fun e => hnb (by rw [← e]; simp [Value.ownBlock])
    have hgL : ∀ y ∈ L, y ≠ g := fun y m e => (List.nodup_append.1 hnd).2.2 g (by simp [Value.ownBlock]) y m e.symm
    obtain ⟨css, Ls, e1, e2, hel⟩ := ZwH hre
    subst e1 e2
    have hl7 : ∀ k ∈ A9 l.length, (css k).length = 7 := fun k mk => by
      obtain ⟨_, _, _, h7⟩ := hel k (by simpa using mk)
      exact h7
    have D : ScD w B b g o c cur.size l css Ls := ⟨hel, fun k hk y my => ⟨hO.lt y (by simp; right; right; exact ⟨k, hk, my⟩), hgL y (by simp; exact ⟨k, hk, my⟩)⟩, hgb, hb, ⟨hnc, hcm, hs⟩, hJF g hb, hcmp⟩
    have hI : ScI w b g o c cur.size l css Ls (A5 l.length) w := by
      refine ⟨Pm.refl _, hblk, ⟨cur, hg, rfl, fun t r ht' hr => ?_⟩, fun _ _ _ _ => rfl, hj⟩
      have hx : ((cur.toList.drop o).take (l.length * 7))[t * 7 + r]? = (css t)[r]? := by
        rw [ht, ZnY (by simpa using ht') hl7 hr]
        simp
      rw [AR yE, AS, AT] at hx
      rw [hx, Zv3 ht']
    have hb2 : Below w.heap.size w (stableWorld prog laysGt8_ren 55 (some ⟨g, o, none⟩) l.length c w) := ((Below.refl _ _).alloc (AB _) _).alloc yG _
    have hI2 := hI.ext D hb2
    have hsb : sliceBound prog 64 scE 25 (some ⟨g, o, none⟩) l.length c = #[.slice (some ⟨g, o, none⟩) l.length c, typeHandle prog 64] := by
      unfold sliceBound
      rw [show Lib.swapperK l.length scE 25 = 9 by rw [scK, if_neg yE, if_neg yE]]
      rfl
    have hS := ZxA (ZyU D yE) rfl _ _ hI2
    have hT := Any.sort_SliceStable_of_stable laysGt8 55 64 scT scE yO yO yO yO 25 (fun _ => by kernel_rfl) (some ⟨g, o, none⟩) l.length c yE 188 (by rw [scK, if_neg yE, if_neg yE]; kernel_rfl) (.func 113) #[] #[.pointer (some ⟨b, 0, none⟩)] w _ (by rw [hsb]; exact hS)
    refine (show Calls _ 112 _ _ _ from hT).mono ?_
    rintro e w' ⟨rfl, hI3, ho⟩
    have hp := (hI3.pm.2).flatMap_right Ls
    rw [AZ] at hp
    have hBw : B ≤ w.heap.size := AE hB (Nat.le_of_lt hblk.lt)
    refine ⟨rfl, hI3.box.at (i := 0) rfl, ⟨_, (Zg6 (ltC l) l.length (A5 l.length)).toList.flatMap Ls, D.owns hI3, Zmq (D.at_ hI3), ⟨?_, fun y m => hO.ge y ?_, fun y m => ?_⟩⟩, Below.trans (hb2.mono hBw) (ho.below (AE hBw hb2.size) (by simpa using hb))⟩
    · refine (List.Perm.nodup_iff ?_).2 hO.nodup
      exact (hp.append_left _).cons b
    · exact ((hp.append_left _).cons b).mem_iff.1 m
    · rcases AP.1 m with rfl | m
      · exact ⟨_, _, hI3.box⟩
      · rcases Ac.1 m with m | m
        · simp [Value.ownBlock] at m
          subst m
          obtain ⟨cur', h1, _⟩ := hI3.row
          exact ⟨_, _, h1⟩
        · obtain ⟨k, mk, my⟩ := List.mem_flatMap.1 m
          rw [hI3.keep k (Zpq hI3.pm k mk) y my]
          refine hO.plain y (by simp; right; right; exact ⟨k, Zpq hI3.pm k mk, my⟩)
def ScK (l:List ZC) (st:St):Prop:=st.sl 3=.bp 0 0/\st.ob 0=.box 55 [.row 1]/\st.ob 1=.row 64 7 (A0 Yu l) 2
theorem ZAz [NW] {W:QO}{U:Nat->Prop}{st:St}{a:Act}{w:World}{l:List ZC}(hx:∀b,¬(W.x b\/W.y b)) (hI:Inv W U st a w) (hk:ScK l st):
  a.defers=[]/\∃b v cs L,a.tmps.getD 3 undef=.pointer (some ⟨b,0,none⟩)/\Blk w b 55 #[v]/\w.ownsV W.heap.size 64 7 v l.length cs/\REs w 7 (A0 Yu l) cs L/\Own w W.heap.size (b::(v.ownBlock.toList++L))/\Bel W w:=by
 obtain ⟨g,hH,hS⟩:=hI.ex
 obtain ⟨k1,k2,k3⟩:=hk
 have h9:=hS 3
 rw [k1]at h9
 obtain ⟨b,e1,e2⟩:=h9
 have o1:=hH.obs 0
 rw [k2]at o1
 obtain ⟨b',vs,f1,f2,f3,f4,f5⟩:=o1
 obtain rfl:b=b':=by rw [e1]at f1;simpa using f1
 have o2:=hH.obs 1
 rw [k3]at o2
 obtain ⟨_,cs,L,p1,p2,p3⟩:=o2
 obtain ⟨_,p3,p4⟩:True/\g.O 1=(g.val 1).ownBlock.toList/\g.D 1=L:=by
  rcases p3 with ⟨_,h1,h2⟩|⟨h,_⟩|⟨h,_⟩
  .exact ⟨trivial,h1,h2⟩
  .simp at h
  .simp at h
 have hv:vs=[g.val 1]:=by
  cases vs with
  |nil=>exact f5.elim
  |cons v vs=>
   cases vs with
   |nil=>rw [f5.1.1]
   |cons _ _=>exact f5.2.elim
 subst hv
 have j:∀k,∀y∈g.O k++g.D k,W.heap.size<=y:=fun k y m=>(hH.plain k y m).1.resolve_right (hx y)
 have o:∀y∈g.O 0++g.D 0,∃i e,w.heap[y]?=some (.cells i e (0,0)):=fun y m=>by
  have h:=(hH.plain 0 y m).2
  rw [k2]at h
  exact h
 have d:∀y∈g.O 1++g.D 1,∃i e,w.heap[y]?=some (.cells i e (0,0)):=fun y m=>by
  have h:=(hH.plain 1 y m).2
  rw [k3]at h
  exact h
 have c:=j 1
 have f:=hH.nodup 1
 have p:=hH.apart 0 1 yF b (by rw [f2];simp)
 rw [p3,p4]at c f p d
 rw [AL]at p1
 have q:W.heap.size<=b:=j 0 b (by rw [f2];simp)
 refine ⟨hI.defers,b,g.val 1,cs,L,e2,f4,ZmO p1 fun y m=>c y (List.mem_append_left _ m),p2,⟨AO.2 ⟨p,f⟩,fun y m=>?_,fun y m=>?_⟩,hH.below⟩
 .rcases AP.1 m with rfl|m
  .exact q
  .exact c y m
 .rcases AP.1 m with rfl|m
  .exact o y (by rw [f2];simp)
  .exact d y m
theorem Zr0 {l:List Value}{n:Nat}(h:l.length=n):∃f:Nat->Value,l=(A9 n).map f:=by
 refine ⟨fun i=>l.getD i undef,AQ (by simp [h]) fun i h1 h2=>?_⟩
 simp [h1]
theorem ZGO {l_0 v1:List ZC}(h:Zbt l_0=some v1) (M:v1.length<=1048576) (E:∀x∈v1,∀y∈v1,(Yp x y).isSome=true):Zm prog J0 68 [(false,[.sl 64 7 (A0 Yu l_0)])] [(false,[(false,.sl 64 7 (A0 Yu (ZpX v1)))])]:=by
 refine ZvG (od:=fun _=>none) (hds:=hds) htt hJ0 hmix 3 (ScK v1) func68 yO rfl yO yO ?_ ?_
 .unfold Zbt at h
  simp only[Zp5,Zm8,f68,Zq,go_sem,seval]
  refine Zn h (fun i o st=>IV [(3,.bp 0 0),(6,.p false [.c (.sl 64 7 (A0 Yu l_0))]),(7,.p false [.c (.int .i64 ((l_0.length:Nat):Int))]),(8,.p false [.c (.int .i64 ((i:Nat):Int))])] [.box 55 [.row 1],.row 64 7 (A0 Yu o) 2] st) [(true,16,0)] [16,80] yF ?_ ?_ ?_
  .simp only[*,go_sem,seval]
  .rintro i9 x10 o ⟨sl,ob,n⟩ y1 B F N h hy1
   simp only[go_sem,seval,Zd]at F
   obtain ⟨⟨g5_3,G,g5_7,g5_8⟩,og5_0,og5_1,hn⟩:=F
   subst hn
   have C:=WF.slotL N G (j:=0) rfl
   have q6:=Z0 B
   have q7:=Z2 B
   have q8:=Zt (Z1 B) C
   try simp only[*,go_sem,seval]
   obtain ⟨v11,e9,h⟩:=Zy h
   refine Za (by have hh:=ZlM e9;first|exact hh|(simp only[*,go_sem]at hh;exact hh)) ?_
   obtain ⟨O,h⟩:=Zz h
   try simp only[Nat.reduceLeDiff]at O
   try simp only[*,go_sem,seval]
   refine ⟨_,[],[0,146],(A4 h).symm,yF,?_⟩
   try simp only[*,go_sem,seval]
  .rintro o ⟨sl,ob,n⟩ z hW12 h
   simp only[go_sem,seval,Zd]at z
   obtain ⟨⟨D,g13_6,g13_7,g13_8⟩,t,u,hn⟩:=z
   subst hn
   have q14:=ZW (l_0.length)
   obtain rfl:=A4 h
   try simp only[*,go_sem,seval]
   show ScK _ _
   exact ⟨by first|exact D|simp only[*,go_sem,seval],by first|exact t|simp only[*,go_sem,seval],by first|exact u|simp only[*,go_sem,seval]⟩
 .intro _ W U st a w hJ hz hx hI hN hk
  obtain ⟨P,b,v,cs,L,h9,q,A,H,hO,d⟩:=ZAz hx hI hk
  simp only[Zph]
  obtain ⟨I,df⟩:=a
  obtain ⟨tm,rfl⟩:∃l,I=List.toArray l:=⟨I.toList,yG⟩
  obtain rfl:df=[]:=P
  have hN:tm.length=23:=hN
  clear hI hk
  obtain ⟨f,rfl⟩:=Zr0 hN
  have hf:f 3=.pointer (some ⟨b,0,none⟩):=h9
  clear h9 hN
  have hj:J0 w:=hJ0.below (fun _=>False) W.toWorld w hJ (fun _ hh=>hh.elim) d.os d.tape d.output d.size fun k hk _=>d.block k hk fun hh=>hx k (.inl hh)
  have hS:=ZBn hj q A H hO (fun g hg=>hJ0.new W.toWorld g hJ hg) M E
  have k0:w.cell? ⟨b,0,none⟩=some v:=q.at (i:=0) rfl
  have HBW:=Lib.hid d
  have HX:=Lib.hid hx
  have HZ:=Lib.hid hz
  clear q A H hO d hx hz hj
  simp only[A9,List.range.loop,A0,hf]
  go_wp2_with (go_at_call 112;refine hS.mono ?_;rintro e w' ⟨rfl,k1,J,K⟩)
  clear hS k0
  have HR:=Lib.hid J
  have HW:=Lib.hid K
  clear J K
  go_wp2
  go_ret
  obtain ⟨Q,L',h1,h2,h3⟩:=HR.out
  obtain ⟨_,R⟩:=AO.1 h3.nodup
  have HO:Own w' W.heap.size (v.ownBlock.toList++L'):=⟨R,fun y m=>h3.ge y (Ad _ m),fun y m=>h3.plain y (Ad _ m)⟩
  refine ⟨v,fun _=>True,rfl,⟨[_],v.ownBlock.toList++L',⟨_,[],v.ownBlock.toList++L',[],rfl,yG,.inr ⟨rfl,_,rfl,yF,Q,L',by rw [AL,Zwe];exact h1,h2,rfl,fun _ _=>trivial⟩,rfl,rfl⟩,HO,rfl⟩,fun _ _=>trivial,?_⟩
  exact ⟨HW.out.os.trans HBW.out.os,HW.out.tape.trans HBW.out.tape,HW.out.output.trans HBW.out.output,AE HBW.out.size HW.out.size,fun k hk=>(HW.out.block k hk).trans (HBW.out.block k hk fun hh=>HX.out k (.inl hh))⟩
theorem ZkS {l_0 r:List ZC}(h:Zbz l_0=some r):Zm prog J0 68 [(false,[.sl 64 7 (A0 Yu l_0)])] [(false,[(false,.sl 64 7 (A0 Yu r))])]:=by
 unfold Zbz at h
 obtain ⟨v1,e1,h⟩:=Zy h
 by_cases hc:v1.length<=1048576/\∀x∈v1,∀y∈v1,(Yp x y).isSome=true
 .rw [if_pos hc]at h
  obtain rfl:=A4 h
  exact ZGO e1 hc.1 hc.2
 .rw [if_neg hc]at h;cases h
end
section
theorem Zoi {a:Zp}{r:(Zh×Zp)}(h:ZeE a=some r):XQ prog J0 JF0 89 (.box 103 (YO a)) [] [(true,[(false,.str r.1.name),(false,.int .i64 r.1.priority),(false,.sl 137 5 (A0 ZR r.1.cond)),(false,.sl 89 3 (A0 Z3 r.1.thn))])] (.box 103 (YO r.2)):=by
 refine ZEv [(5,[0,1,2,3,4,5,6,7],true),(12,[0,1,2,3,4,5,6],true),(13,[0,1,2,3,4,5,6,7,8,9,10],true)] func89 rfl ?_
 unfold ZeE at h
 have v:Z7 ⟨#[114]⟩=true:=by decide
 simp only[fnH,f89,Qu,Qp,YT,go_sem,Zf,seval,v]
 obtain ⟨v1,e1,h⟩:=Zy h
 refine Yl (by have hh:=Xm e1;first|exact hh|(simp only[go_sem,Zf, *]at hh;exact hh)) ?_
 simp only[go_sem,Zf,seval, *]
 obtain ⟨v2,e2,h⟩:=Zy h
 refine Yl (by have hh:=ZdH e2;first|exact hh|(simp only[go_sem,Zf, *]at hh;exact hh)) ?_
 simp only[go_sem,Zf,seval, *]
 obtain ⟨v3,e3,h⟩:=Zy h
 refine Yl (by have hh:=Xm e3;first|exact hh|(simp only[go_sem,Zf, *]at hh;exact hh)) ?_
 simp only[go_sem,Zf,seval, *]
 refine XB h (fun s st=>match s with|(m,o,q,b,t)=>IV [(0,.bp 0 0),(2,.bp 1 0),(3,.bp 2 0),(4,.p false [.c (.int .i64 t)])] [.box 103 [.c (.sl 5 1 (A0 Zdx m)),.c (.int .i64 o),.c (.int .i64 q)],.box 86 [.c (.str ⟨#[]⟩),.c (.int .i64 0),.nil 137 5,.nil 89 3],.box 86 [.c (.str ⟨#[114]⟩),.c (.int .i64 v1.1),.row 3,.nil 89 3],.row 137 5 (A0 ZR b) 2] st) [] [0,1,129,97] yF ?_ ?_
 .simp only[go_sem,Zf,seval, *]
 .rintro ⟨m,o,q,b,t⟩ ⟨sl,ob,n⟩ y4 u hW6 h f
  simp only[go_sem,Zf,seval,Zd]at u
  obtain ⟨⟨g7_0,g7_2,g7_3,g7_4⟩,og7_0,og7_1,og7_2,og7_3,hn⟩:=u
  subst hn
  simp only[go_sem,Zf,seval, *]
  refine Zc h (fun c8 h=>?_) (fun c8 h=>?_)<;>try simp only[go_sem,Zf,seval, *]
  .obtain ⟨v10,e9,h⟩:=Zy h
   refine Yl (by have hh:=Zsl e9;first|exact hh|(simp only[go_sem,Zf, *]at hh;exact hh)) ?_
   obtain ⟨w,h⟩:=Zz h
   try simp only[Nat.reduceLeDiff]at w
   simp only[go_sem,Zf,seval, *]
   refine ⟨_,[],[0,1,2,116],(A4 h).symm,yF,?_⟩
   simp only[go_sem,Zf,seval, *]
  .refine Zb h fun x y h=>Za (by have hh:=ZcH y;first|exact hh|(simp only[go_sem,Zf, *]at hh;exact hh)) ?_
   simp only[go_sem,Zf,seval, *]
   obtain ⟨z,A,h⟩:=Zy h
   refine Yl (by have hh:=ZdH A;first|exact hh|(simp only[go_sem,Zf, *]at hh;exact hh)) ?_
   simp only[go_sem,Zf,seval, *]
   refine XB h (fun s st=>match s with|(g,i,j,d,k)=>IV [(0,.bp 0 0),(2,.bp 1 0),(3,.bp 2 0),(5,.p false [.row 4]),(6,.bp 5 0),(7,.p false [.c (.int .i64 k)])] [.box 103 [.c (.sl 5 1 (A0 Zdx g)),.c (.int .i64 i),.c (.int .i64 j)],.box 86 [.c (.str ⟨#[]⟩),.c (.int .i64 0),.nil 137 5,.nil 89 3],.box 86 [.c (.str ⟨#[114]⟩),.c (.int .i64 v1.1),.row 3,.nil 89 3],.row 137 5 (A0 ZR b) 2,.row 9 1 (A0 ZE x) 2,.box 87 [.c (.str z.1.rel),.row 6],.row 9 1 (A0 ZE d) 2] st) [] [0,1,2,3,100,164,148] yF ?_ ?_
   .simp only[go_sem,Zf,seval, *]
   .rintro ⟨g,i,j,d,k⟩ ⟨sl,ob,n⟩ y13 l hW15 h e
    simp only[go_sem,Zf,seval,Zd]at l
    obtain ⟨⟨g16_0,g16_2,g16_3,g16_5,g16_6,g16_7⟩,og16_0,og16_1,og16_2,og16_3,og16_4,og16_5,og16_6,hn⟩:=l
    subst hn
    simp only[go_sem,Zf,seval, *]
    refine Zc h (fun B h=>?_) (fun B h=>?_)<;>try simp only[go_sem,Zf,seval, *]
    .obtain ⟨p18,h⟩:=Zz h
     obtain ⟨x26,e19,h⟩:=Zy h
     simp only[go_sem,Zf,seval, *]
     refine Zb h fun v27 C h=>Za (by have hh:=ZcT C;first|exact hh|(simp only[go_sem,Zf, *]at hh;exact hh)) ?_
     simp only[go_sem,Zf,seval, *]
     refine Zc h (fun D h=>?_) (fun D h=>?_)<;>try simp only[go_sem,Zf,seval, *]
     .refine Zb h fun v28 E h=>Za (by have hh:=QH E;first|exact hh|(simp only[go_sem,Zf, *]at hh;exact hh)) ?_
      simp only[go_sem,Zf,seval, *]
      refine Zc h (fun F h=>?_) (fun F h=>?_)<;>try simp only[go_sem,Zf,seval, *]
      .refine ⟨_,[],[0,1,2,3,4,5,6],(A4 h).symm,yF,?_⟩
       simp only[go_sem,Zf,seval, *]
      .obtain ⟨v29,G,h⟩:=Zy h
       refine Yl (by have hh:=ZhE G;first|exact hh|(simp only[go_sem,Zf, *]at hh;exact hh)) ?_
       simp only[go_sem,Zf,seval, *]
       refine ⟨_,[],[0,1,2,3,4,5,6],(A4 h).symm,yF,?_⟩
       simp only[go_sem,Zf,seval, *]
     .refine ⟨_,[],[0,1,2,3,4,5,6],(A4 h).symm,yF,?_⟩
      simp only[go_sem,Zf,seval, *]
    .obtain ⟨v30,H,h⟩:=Zy h
     refine Yl (by have hh:=ZiT H;first|exact hh|(simp only[go_sem,Zf, *]at hh;exact hh)) ?_
     simp only[go_sem,Zf,seval, *]
     obtain ⟨v31,I,h⟩:=Zy h
     refine Yl (by have hh:=Zhh I;first|exact hh|(simp only[go_sem,Zf, *]at hh;exact hh)) ?_
     simp only[go_sem,Zf,seval, *]
     refine Zc h (fun J h=>?_) (fun J h=>?_)<;>try simp only[go_sem,Zf,seval, *]
     .refine Zb h fun v32 K h=>Za (by have hh:=ZhX K;first|exact hh|(simp only[go_sem,Zf, *]at hh;exact hh)) ?_
      simp only[go_sem,Zf,seval, *]
      refine Zc h (fun L h=>?_) (fun L h=>?_)<;>try simp only[go_sem,Zf,seval, *]
      .replace h:=Zw h e
       replace h:=Zw h f
       obtain rfl:=A4 h
       simp only[go_sem,Zf,seval, *]
      .obtain ⟨v33,M,h⟩:=Zy h
       refine Yl (by have hh:=Zgc M;first|exact hh|(simp only[go_sem,Zf, *]at hh;exact hh)) ?_
       replace h:=Zw h e
       replace h:=Zw h f
       obtain rfl:=A4 h
       simp only[go_sem,Zf,seval, *]
     .refine Zb h fun v34 N h=>Za (by have hh:=ZhX N;first|exact hh|(simp only[go_sem,Zf, *]at hh;exact hh)) ?_
      simp only[go_sem,Zf,seval, *]
      refine Zc h (fun O h=>?_) (fun O h=>?_)<;>try simp only[go_sem,Zf,seval, *]
      .replace h:=Zw h e
       replace h:=Zw h f
       obtain rfl:=A4 h
       simp only[go_sem,Zf,seval, *]
      .obtain ⟨v35,P,h⟩:=Zy h
       refine Yl (by have hh:=Zgc P;first|exact hh|(simp only[go_sem,Zf, *]at hh;exact hh)) ?_
       replace h:=Zw h e
       replace h:=Zw h f
       obtain rfl:=A4 h
       simp only[go_sem,Zf,seval, *]
theorem Ze9 {rules_0:(List Zh)}{l_1:(List Zv)}{fired_2:(List ZP)}{r:(List ZC)}(h:QM rules_0 l_1 fired_2=some r):Zm prog J0 31 [(false,[.sl 86 4 (A0 Zx rules_0)]),(false,[.sl 98 3 (A0 Z4 l_1)]),(false,[.sl 81 2 (A0 Z9 fired_2)])] [(false,[(false,.sl 64 7 (A0 Yu r))])]:=by
 refine fnk func31 rfl ?_
 unfold QM at h
 simp only[fnS,f31,Zq,go_sem,seval]
 refine Zb h fun _ g h=>Za (Zbr g)<|yA ?_
 refine yB h (fun _ h=>?_) fun _ h=>?_
 refine Zb h fun _ k h=>Za (ZiG k)<|yA ?_
 refine yB h (fun _ h=>?_) fun _ h=>?_
 refine Zb h fun _ l h=>Za (Zgf l)<|yA ?_
 obtain ⟨a,m,h⟩:=Zy h
 refine ZCC (ZlT m)<|yA ?_
 refine Zn h (fun i b st=>IV [(0,yM (yW rules_0)),(1,yM (zA l_1)),(2,yM (zE fired_2)),(7,.p false [.row 0]),(23,yM (zJ a)),(24,yL a.length),(25,yL i)] [.row 64 7 (A0 Yu b) 2] st) [(false,7,0)] [256] yF yD ?_ ?_
 rintro _ _ b ⟨_,_,_⟩ _ d e o h _
 simp only[go_sem,seval,Zd]at e
 obtain ⟨⟨_,_,_,_,q,_,_⟩,_,hn⟩:=e
 subst hn
 have t:=WF.slotL o q (j:=0) rfl
 have:=Z0 d
 have:=Z2 d
 have:=Zt (Z1 d) t
 simp only[*,go_sem,seval]
 refine Zb h fun _ u h=>Za (ZoS u)<|yA ?_
 refine Zb h fun _ v h=>Za (ZoH v)<|yA ?_
 refine yB h (fun _ h=>?_) fun _ h=>?_
 exact yR h [0]
 obtain ⟨w,h⟩:=Zz h
 try simp only[Nat.reduceLeDiff]at w
 simp only[*,go_sem,seval]
 exact yR h [353]
 rintro b ⟨_,_,_⟩ f _ h
 simp only[go_sem,seval,Zd]at f
 obtain ⟨⟨_,_,_,_,_,_,_⟩,_,hn⟩:=f
 subst hn
 have:=ZW (a.length)
 simp only[*,go_sem,seval]
 refine Zb h fun _ x h=>Za (ZkS x) ?_
 iterate 3 (cases h;exact yD)
theorem Zks {rules_0:(List Zh)}{r:(Ze×Bool)}(h:QN rules_0=some r):Zm prog J0 10 [(false,[.sl 86 4 (A0 Zx rules_0)])] [(true,[(false,.sl 86 4 (A0 Zx r.1.rules)),(false,.sl 3 1 (A0 Yc r.1.ends)),(false,.sl 134 3 (A0 Yf r.1.alphas)),(false,.sl 140 8 (A0 YL r.1.nodes)),(false,.sl 36 2 (A0 Zr r.1.facts)),(false,.int .i64 r.1.tries)]),(false,[(false,.bool r.2)])]:=by
 refine fnk func10 rfl ?_
 unfold QN at h
 simp only[fnS,f10,Zq,go_sem,seval]
 refine Zb h fun _ a h=>Za (Zbr a)<|yA ?_
 refine yB h (fun _ h=>?_) fun _ h=>?_
 refine Zb h fun _ b h=>Za (ZmF b) ?_
 iterate 2 (cases h;exact yD)
theorem Zce {n_0:Ze}{r:Bool}(h:QV n_0=some r):Zm prog J0 41 [(true,Qg n_0)] [(false,[(false,.bool r)])]:=by
 refine fnk func41 rfl ?_
 unfold QV at h
 simp only[fnS,f41,Zq,go_sem,seval]
 refine Zb h fun _ a h=>Za (Zbr a)<|yA ?_
 refine yB h (fun _ h=>?_) fun _ h=>?_
 refine Zb h fun _ b h=>Za (Zdg b)<|yA ?_
 iterate 2 refine yB h (fun _ h=>?_) fun _ h=>?_
 refine Zb h fun _ c h=>Za (ZmF c)<|yA ?_
 refine Zb h fun _ d h=>Za (Zkc d) ?_
 iterate 4 (cases h;exact yD)
theorem Zzt {n_0:Ze}{f_1:Zg}{r:(Ze×Bool)}(h:ZuZ n_0 f_1=some r):Zm prog J0 78 [(true,Qg n_0),(true,Zr f_1)] [(true,[(false,.sl 86 4 (A0 Zx r.1.rules)),(false,.sl 3 1 (A0 Yc r.1.ends)),(false,.sl 134 3 (A0 Yf r.1.alphas)),(false,.sl 140 8 (A0 YL r.1.nodes)),(false,.sl 36 2 (A0 Zr r.1.facts)),(false,.int .i64 r.1.tries)]),(false,[(false,.bool r.2)])]:=by
 refine fnk func78 rfl ?_
 unfold ZuZ at h
 simp only[fnS,f78,Zq,go_sem,seval]
 refine Zb h fun _ a h=>Za (Zqz a)<|yA ?_
 refine yB h (fun _ h=>?_) fun _ h=>?_
 refine Zb h fun _ b h=>Za (Zj7 b) ?_
 cases h;exact yD
 refine Zb h fun _ c h=>Za (YB c) ?_
 cases h;exact yD
theorem Zwm {n_0:Ze}{f_1:Zg}{r:(Ze×Bool)}(h:ZqA n_0 f_1=some r):Zm prog J0 79 [(true,Qg n_0),(true,Zr f_1)] [(true,[(false,.sl 86 4 (A0 Zx r.1.rules)),(false,.sl 3 1 (A0 Yc r.1.ends)),(false,.sl 134 3 (A0 Yf r.1.alphas)),(false,.sl 140 8 (A0 YL r.1.nodes)),(false,.sl 36 2 (A0 Zr r.1.facts)),(false,.int .i64 r.1.tries)]),(false,[(false,.bool r.2)])]:=by
 refine fnk func79 rfl ?_
 unfold ZqA at h
 simp only[fnS,f79,Zq,go_sem,seval]
 refine Zb h fun _ a h=>Za (ZlV a)<|yA ?_
 refine yB h (fun _ h=>?_) fun _ h=>?_
 refine Zb h fun _ b h=>Za (Zj7 b) ?_
 cases h;exact yD
 refine Zb h fun _ c h=>Za (YB c) ?_
 cases h;exact yD
end
section
theorem ZrK {c_0:Zp}{r:(Zh×Zp)}(h:ZfO c_0=some r):XQ prog J0 JF0 47 (.box 103 (YO c_0)) [] [(true,[(false,.str r.1.name),(false,.int .i64 r.1.priority),(false,.sl 137 5 (A0 ZR r.1.cond)),(false,.sl 89 3 (A0 Z3 r.1.thn))])] (.box 103 (YO r.2)):=by
 refine fnh func47 rfl ?_
 unfold ZfO at h
 simp only[fnH,f47,Qu,Qp,YT,go_sem,seval]
 obtain ⟨_,a,h⟩:=Zy h
 refine Yl (Zhh a)<|yA ?_
 refine yB h (fun _ h=>?_) fun _ h=>?_
 obtain ⟨_,b,h⟩:=Zy h
 refine Yl (Zoi b) ?_
 cases h;exact yD
 obtain ⟨_,c,h⟩:=Zy h
 refine Yl (Zgc c) ?_
 cases h;exact yD
theorem ZlK {append_0:Zu}{r:(Zu×Bool)}(h:ZaY append_0=some r):Zm prog J0 9 [(true,Zff append_0)] [(true,[(false,.sl 86 4 (A0 Zx r.1.rules)),(false,.sl 98 3 (A0 Z4 r.1.memory)),(false,.int .i64 r.1.clock),(false,.sl 81 2 (A0 Z9 r.1.fired)),(false,.bool r.1.halted),(false,.sl 38 4 (A0 Yx r.1.log))]),(false,[(false,.bool r.2)])]:=by
 refine fnk func9 rfl ?_
 unfold ZaY at h
 simp only[fnS,f9,Zq,go_sem,seval]
 refine Zb h fun _ u h=>Za (ZdT u)<|yA ?_
 refine Zb h fun _ v h=>Za (Zbh v)<|yA ?_
 iterate 2 refine yB h (fun _ h=>?_) fun _ h=>?_
 iterate 3 (cases h;simp only[*,go_sem,seval];refine Zc h (fun _ h=>?_) fun _ h=>?_<;>try simp only[*,go_sem,seval])
 cases h;exact yD
 refine Zb h fun _ w h=>Za (Ze9 w)<|yA ?_
 refine yB h (fun _ h=>?_) fun _ h=>?_
 cases h;exact yD
 obtain ⟨_,h⟩:=Zz h
 obtain ⟨a,x,h⟩:=Zy h
 try simp only[seval]at x
 simp only[*,go_sem,seval]
 refine Zb h fun _ y h=>Za (Zbw y) ?_
 obtain ⟨z,h⟩:=Zz h
 try simp only[Nat.reduceLeDiff]at z
 simp only[*,go_sem,seval]
 obtain ⟨_,A,h⟩:=Zy h
 refine ZeU (by have hh:=Zcs A;simp only[*,go_sem]at hh;exact hh) ?_
 obtain ⟨d,_,_,_,h⟩:=ZaE h
 simp only[*,go_sem,seval]
 refine Zn h (fun i s st=>match s with|(e,f,g,k,l,m)=>IV [(2,.bp 0 0),(4,.bp 1 0),(6,.bp 6 0),(7,yM (.str a.mtch.rule)),(75,yM (zB d.thn)),(76,yL d.thn.length),(77,yL i)] [.box 31 [.nil 86 4,.nil 98 3,.c (.int .i64 0),.nil 81 2,.c (.bool false),.nil 38 4],.box 31 [.row 2,.row 3,.c (.int .i64 e),.row 4,.c (.bool f),.row 5],.row 86 4 (A0 Zx g) 2,.row 98 3 (A0 Z4 k) 2,.row 81 2 (A0 Z9 l) 2,.row 38 4 (A0 Yx m) 2,zK 64 (Yu a)] st) [] [16,80,1024,1025,1026,1027,720] yF yD ?_ ?_
 rintro _ _ ⟨e,f,g,k,l,m⟩ ⟨_,_,_⟩ _ o q B h _
 simp only[go_sem,seval,Zd]at q
 obtain ⟨⟨_,_,_,_,C,_,_⟩,_,_,_,_,_,_,_,hn⟩:=q
 subst hn
 have D:=WF.slotL B C (j:=0) rfl
 have:=Z0 o
 have:=Z2 o
 have:=Zt (Z1 o) D
 simp only[*,go_sem,seval]
 refine Zb h fun _ E h=>Za (ZoF E)<|yA ?_
 refine yB h (fun _ h=>?_) fun _ h=>?_
 refine Zb h fun _ F h=>Za (Zbi F)<|yA ?_
 refine yB h (fun _ h=>?_) fun _ h=>?_
 exact yR h [0,1,2,3,4,5,6]
 refine yB h (fun _ h=>?_) fun _ h=>?_
 obtain ⟨_,G,h⟩:=Zy h
 refine ZeU (ZgP G)<|yA ?_
 exact yR h [0,1,551,552,553,554,6]
 exact yR h [0,1,2,3,4,5,6]
 refine yB h (fun _ h=>?_) fun _ h=>?_
 refine Zb h fun _ H h=>Za (Zbi H)<|yA ?_
 refine yB h (fun _ h=>?_) fun _ h=>?_
 obtain ⟨_,I,h⟩:=Zy h
 refine ZeU (Zf7 I)<|yA ?_
 exact yR h [0,1,471,472,473,474,6]
 exact yR h [0,1,2,3,4,5,6]
 refine yB h (fun _ h=>?_) fun _ h=>?_
 obtain ⟨_,J,h⟩:=Zy h
 refine ZeU (Zcs J)<|yA ?_
 exact yR h [0,1,471,472,473,474,6]
 exact yR h [0,1,2,3,4,5,6]
 rintro ⟨e,f,g,k,l,m⟩ ⟨_,_,_⟩ t _ h
 simp only[go_sem,seval,Zd]at t
 obtain ⟨⟨_,_,_,_,_,_,_⟩,_,_,_,_,_,_,_,hn⟩:=t
 subst hn
 have:=ZW (d.thn.length)
 iterate 2 (cases h;exact yD)
theorem ZeZ {n_0:Ze}{f_1:Zg}{r:(Ze×Bool)}(h:QG n_0 f_1=some r):Zm prog J0 37 [(true,Qg n_0),(true,Zr f_1)] [(true,[(false,.sl 86 4 (A0 Zx r.1.rules)),(false,.sl 3 1 (A0 Yc r.1.ends)),(false,.sl 134 3 (A0 Yf r.1.alphas)),(false,.sl 140 8 (A0 YL r.1.nodes)),(false,.sl 36 2 (A0 Zr r.1.facts)),(false,.int .i64 r.1.tries)]),(false,[(false,.bool r.2)])]:=by
 refine fnk func37 rfl ?_
 unfold QG at h
 simp only[fnS,f37,Zq,go_sem,seval]
 refine Zb h fun _ a h=>Za (Zce a)<|yA ?_
 refine yB h (fun _ h=>?_) fun _ h=>?_
 refine Zb h fun _ b h=>Za (Zzt b) ?_
 cases h;exact yD
 refine Zb h fun _ c h=>Za (YB c) ?_
 cases h;exact yD
theorem ZdJ {n_0:Ze}{f_1:Zg}{r:(Ze×Bool)}(h:Xv n_0 f_1=some r):Zm prog J0 38 [(true,Qg n_0),(true,Zr f_1)] [(true,[(false,.sl 86 4 (A0 Zx r.1.rules)),(false,.sl 3 1 (A0 Yc r.1.ends)),(false,.sl 134 3 (A0 Yf r.1.alphas)),(false,.sl 140 8 (A0 YL r.1.nodes)),(false,.sl 36 2 (A0 Zr r.1.facts)),(false,.int .i64 r.1.tries)]),(false,[(false,.bool r.2)])]:=by
 refine fnk func38 rfl ?_
 unfold Xv at h
 simp only[fnS,f38,Zq,go_sem,seval]
 refine Zb h fun _ a h=>Za (Zce a)<|yA ?_
 refine yB h (fun _ h=>?_) fun _ h=>?_
 refine Zb h fun _ b h=>Za (Zwm b) ?_
 cases h;exact yD
 refine Zb h fun _ c h=>Za (YB c) ?_
 cases h;exact yD
theorem Zr9 {d_0:Zlg}{r:Bool}(h:ZeV d_0=some r):Zm prog J0 14 [(true,ZCA d_0)] [(false,[(false,.bool r)])]:=by
 refine fnk func14 rfl ?_
 unfold ZeV at h
 simp only[fnS,f14,Zq,go_sem,seval]
 refine Zb h fun _ a h=>Za (Zbh a)<|yA ?_
 refine yB h (fun _ h=>?_) fun _ h=>?_
 refine Zb h fun _ b h=>Za (Zce b)<|yA ?_
 refine yB h (fun _ h=>?_) fun _ h=>?_
 refine Zb h fun _ c h=>Za (ZgZ c)<|yA ?_
 refine yB h (fun _ h=>?_) fun _ h=>?_
 refine Zb h fun _ d h=>Za (Zgf d)<|yA ?_
 refine Zb h fun _ e h=>Za (ZcD e) ?_
 iterate 4 (cases h;exact yD)
theorem Znb {e_0:Zu}{r:(List ZC)}(h:Zb4 e_0=some r):Zm prog J0 15 [(true,Zff e_0)] [(false,[(false,.sl 64 7 (A0 Yu r))])]:=by
 refine fnk func15 rfl ?_
 unfold Zb4 at h
 simp only[fnS,f15,Zq,go_sem,seval]
 refine Zb h fun _ a h=>Za (Zbh a)<|yA ?_
 refine yB h (fun _ h=>?_) fun _ h=>?_
 refine Zb h fun _ b h=>Za (Ze9 b) ?_
 iterate 2 (cases h;exact yD)
theorem ZkW {n_0:Ze}{r:(List Yk)}(h:Zbg n_0=some r):Zm prog J0 16 [(true,Qg n_0)] [(false,[(false,.sl 62 3 (A0 Q0 r))])]:=by
 refine fnk func16 rfl ?_
 unfold Zbg at h
 simp only[fnS,f16,Zq,go_sem,seval]
 refine Zb h fun _ a h=>Za (Zce a)<|yA ?_
 refine yB h (fun _ h=>?_) fun _ h=>?_
 refine Zb h fun _ b h=>Za (ZkX b) ?_
 iterate 2 (cases h;exact yD)
end
section
theorem ZuI {c_0:Zp}{most_1:Int}{r:((List Zh)×Zp)}(h:Zjv c_0 most_1=some r):XQ prog J0 JF0 19 (.box 103 (YO c_0)) [(false,[.int .i64 most_1])] [(false,[(false,.sl 86 4 (A0 Zx r.1))])] (.box 103 (YO r.2)):=by
 refine fnh func19 rfl ?_
 unfold Zjv at h
 have j:Z7 ⟨#[114]⟩=true:=by decide
 simp only[fnH,f19,Qu,Qp,YT,go_sem,seval,j]
 obtain ⟨_,k,h⟩:=Zy h
 refine Yl (Xm k)<|yA ?_
 refine XB h (fun s st=>match s with|(b,d,e,f,g)=>IV [(0,.bp 0 0),(5,.p false [.row 1]),(6,yM (.int .i64 g))] [.box 103 [.c (zH b),.c (.int .i64 d),.c (.int .i64 e)],.row 86 4 (A0 Zx f) 2] st) [] [0,17] yF yD ?_
 rintro ⟨b,d,e,f,g⟩ ⟨_,_,_⟩ _ i _ h l
 simp only[go_sem,seval,Zd]at i
 obtain ⟨⟨_,_,_⟩,_,_,hn⟩:=i
 subst hn
 simp only[*,go_sem,seval]
 refine yB h (fun _ h=>?_) fun _ h=>?_
 obtain ⟨_,m,h⟩:=Zy h
 refine Yl (ZrK m)<|yA ?_
 refine Zb h fun _ o h=>Za (ZhW o) ?_
 obtain ⟨q,h⟩:=Zz h
 simp only[go_sem]at q
 obtain ⟨t,h⟩:=Zz h
 try simp only[Nat.reduceLeDiff]at t
 simp only[*,go_sem,seval]
 exact yR h [0,226]
 replace h:=Zw h l
 cases h;exact yD
theorem Znp {n_0:Ze}{a:(List Z6)}{r:(Ze×Bool)}(h:ZbY n_0 a=some r):Zm prog J0 11 [(true,Qg n_0),(false,[.sl 38 4 (A0 Yx a)])] [(true,[(false,.sl 86 4 (A0 Zx r.1.rules)),(false,.sl 3 1 (A0 Yc r.1.ends)),(false,.sl 134 3 (A0 Yf r.1.alphas)),(false,.sl 140 8 (A0 YL r.1.nodes)),(false,.sl 36 2 (A0 Zr r.1.facts)),(false,.int .i64 r.1.tries)]),(false,[(false,.bool r.2)])]:=by
 refine fnk func11 rfl ?_
 unfold ZbY at h
 simp only[fnS,f11,Zq,go_sem,seval]
 refine Zb h fun _ u h=>Za (YB u)<|yA ?_
 refine Zn h (fun i s st=>match s with|(e,f,g,k,l,m)=>IV [(2,.bp 0 0),(4,.bp 1 0),(6,.bp 2 0),(13,yM (zF a)),(14,yL a.length),(15,yL i)] [.box 46 [.c (yW n_0.rules),.c (yX n_0.ends),.c (zC n_0.alphas),.c (zD n_0.nodes),.c (yU n_0.facts),.c (.int .i64 n_0.tries)],.box 46 [.nil 86 4,.nil 3 1,.nil 134 3,.nil 140 8,.nil 36 2,.c (.int .i64 0)],.box 46 [.row 3,.row 4,.row 5,.row 6,.row 7,.c (.int .i64 e)],.row 86 4 (A0 Zx f) 2,.row 3 1 (A0 Yc g) 2,.row 134 3 (A0 Yf k) 2,.row 140 8 (A0 YL l) 2,.row 36 2 (A0 Zr m) 2] st) [] [0,16,80,64,65,66,67,68] yF yD ?_ ?_
 rintro _ _ ⟨e,f,g,k,l,m⟩ ⟨_,_,_⟩ _ o q v h d
 simp only[go_sem,seval,Zd]at q
 obtain ⟨⟨_,_,_,w,_,_⟩,_,_,_,_,_,_,_,_,hn⟩:=q
 subst hn
 have x:=WF.slotL v w (j:=0) rfl
 have:=Z0 o
 have:=Z2 o
 have:=Zt (Z1 o) x
 simp only[*,go_sem,seval]
 refine yB h (fun _ h=>?_) fun _ h=>?_
 refine Zb h fun _ y h=>Za (ZeZ y)<|yA ?_
 refine yB h (fun _ h=>?_) fun _ h=>?_
 exact yR h [0,1,2,232,233,234,235,236]
 refine Zb h fun _ z h=>Za (YB z) ?_
 replace h:=Zw h d
 cases h;exact yD
 refine yB h (fun _ h=>?_) fun _ h=>?_
 refine Zb h fun _ A h=>Za (ZeZ A)<|yA ?_
 refine yB h (fun _ h=>?_) fun _ h=>?_
 exact yR h [0,1,2,264,265,266,267,268]
 refine Zb h fun _ B h=>Za (YB B) ?_
 replace h:=Zw h d
 cases h;exact yD
 refine yB h (fun _ h=>?_) fun _ h=>?_
 refine Zb h fun _ C h=>Za (ZdJ C)<|yA ?_
 refine yB h (fun _ h=>?_) fun _ h=>?_
 exact yR h [0,1,2,296,297,298,299,300]
 refine Zb h fun _ D h=>Za (YB D) ?_
 replace h:=Zw h d
 cases h;exact yD
 refine yB h (fun _ h=>?_) fun _ h=>?_
 refine Zb h fun _ E h=>Za (ZdJ E)<|yA ?_
 refine yB h (fun _ h=>?_) fun _ h=>?_
 exact yR h [0,1,2,328,329,330,331,332]
 refine Zb h fun _ F h=>Za (YB F) ?_
 replace h:=Zw h d
 cases h;exact yD
 exact yR h [0,1,2,3,4,5,6,7]
 rintro ⟨e,f,g,k,l,m⟩ ⟨_,_,_⟩ t _ h
 simp only[go_sem,seval,Zd]at t
 obtain ⟨⟨_,_,_,_,_,_⟩,_,_,_,_,_,_,_,_,hn⟩:=t
 subst hn
 have:=ZW (a.length)
 cases h;exact yD
end
section
theorem Zoo {code_0:(List Int)}{r:((List Zh)×(List Z6))}(h:Zel code_0=some r):Zm prog J0 5 [(false,[.sl 5 1 (A0 Zdx code_0)])] [(false,[(false,.sl 86 4 (A0 Zx r.1))]),(false,[(false,.sl 38 4 (A0 Yx r.2))])]:=by
 refine fnk func5 rfl ?_
 unfold Zel at h
 simp only[fnS,f5,Zq,go_sem,seval]
 obtain ⟨_,j,h⟩:=Zy h
 refine ZGI (ZtK j)<|yA ?_
 obtain ⟨k,l,h⟩:=Zy h
 refine Yl (ZuI l)<|yA ?_
 obtain ⟨_,m,h⟩:=Zy h
 refine Yl (Xm m)<|yA ?_
 refine XB h (fun s st=>match s with|(a,b,d,e,f)=>IV [(4,.bp 0 0),(5,.p false [.row 1]),(6,.p false [.row 2]),(7,yM (.int .i64 f))] [.box 103 [.c (zH a),.c (.int .i64 b),.c (.int .i64 d)],.row 86 4 (A0 Zx k.1) 2,.row 38 4 (A0 Yx e) 2] st) [] [48,96,128] yF yD ?_
 rintro ⟨a,b,d,e,f⟩ ⟨_,_,_⟩ _ i _ h o
 simp only[go_sem,seval,Zd]at i
 obtain ⟨⟨_,_,_,_⟩,_,_,_,hn⟩:=i
 subst hn
 simp only[*,go_sem,seval]
 refine yB h (fun _ h=>?_) fun _ h=>?_
 obtain ⟨_,q,h⟩:=Zy h
 refine Yl (ZiT q)<|yA ?_
 obtain ⟨_,t,h⟩:=Zy h
 refine Yl (Ztg t) ?_
 obtain ⟨u,h⟩:=Zz h
 try simp only[Nat.reduceLeDiff]at u
 simp only[*,go_sem,seval]
 exact yR h [0,1,195]
 replace h:=Zw h o
 cases h;exact yD
end
section
theorem Zrt {l_0:(List Zv)}{r:(List Zg)}(h:Zef l_0=some r):Zm prog J0 13 [(false,[.sl 98 3 (A0 Z4 l_0)])] [(false,[(false,.sl 36 2 (A0 Zr r))])]:=by
 refine fnk func13 rfl ?_
 unfold Zef at h
 simp only[fnS,f13,Zq,go_sem,seval]
 refine Zn h (fun i a st=>IV [(0,yM (zA l_0)),(3,.p false [.row 0]),(4,yL i)] [.row 36 2 (A0 Zr a) 2] st) [] [16] yF yD ?_ ?_
 rintro _ _ a ⟨_,_,_⟩ _ b d f h _
 simp only[go_sem,seval,Zd]at d
 obtain ⟨⟨g,_,_⟩,_,hn⟩:=d
 subst hn
 have k:=WF.slotL f g (j:=0) rfl
 have:=Z0 b
 have:=Z2 b
 have:=Zt (Z1 b) k
 simp only[*,go_sem,seval]
 refine Zb h fun _ l h=>Za (Zs5 l) ?_
 obtain ⟨m,h⟩:=Zz h
 try simp only[Nat.reduceLeDiff]at m
 simp only[*,go_sem,seval]
 exact yR h [193]
 rintro a ⟨_,_,_⟩ e _ h
 simp only[go_sem,seval,Zd]at e
 obtain ⟨⟨_,_,_⟩,_,hn⟩:=e
 subst hn
 have:=ZW (l_0.length)
 cases h;exact yD
end
section
theorem Zna {append_0:(List Int)}{r:Bool}(h:Ze8 append_0=some r):Zm prog J0 3 [(false,[.sl 5 1 (A0 Zdx append_0)])] [(false,[(false,.bool r)])]:=by
 refine fnk func3 rfl ?_
 unfold Ze8 at h
 simp only[fnS,f3,Zq,go_sem,seval]
 refine Zb h fun _ w h=>Za (Zyb w)<|yA ?_
 refine yB h (fun _ h=>?_) fun _ h=>?_
 cases h;exact yD
 refine Zb h fun a x h=>Za (Zoo x)<|yA ?_
 refine Zb h fun _ y h=>Za (Zmm y)<|yA ?_
 refine Zn h (fun i s st=>match s with|(b,d,e,f,g,j)=>IV [(3,.p false [.row 0]),(4,.p false [.row 1]),(5,.bp 2 0),(7,yL i)] [.row 86 4 (A0 Zx a.1) 2,.row 38 4 (A0 Yx a.2) 2,.box 31 [.row 3,.row 4,.c (.int .i64 b),.row 5,.c (.bool d),.row 6],.row 86 4 (A0 Zx e) 2,.row 98 3 (A0 Z4 f) 2,.row 81 2 (A0 Z9 g) 2,.row 38 4 (A0 Yx j) 2] st) [] [64,65,240,176,177,178,179] yF yD ?_ ?_
 rintro _ _ ⟨b,d,e,f,g,j⟩ ⟨_,_,_⟩ _ k o z h _
 simp only[go_sem,seval,Zd]at o
 obtain ⟨⟨_,_,_,_⟩,_,A,_,_,_,_,_,hn⟩:=o
 subst hn
 have B:=WF.rowL z A
 have:=Z0 k
 have:=Z2 k
 have:=Zt (Z1 k) B
 simp only[*,go_sem,seval]
 refine yB h (fun _ h=>?_) fun _ h=>?_
 refine Zb h fun _ C h=>Za (Zrq C)<|yA ?_
 exact yR h [0,1,2,279,280,281,282]
 refine yB h (fun _ h=>?_) fun _ h=>?_
 refine Zb h fun _ D h=>Za (ZoO D)<|yA ?_
 exact yR h [0,1,2,311,312,313,314]
 refine Zb h fun _ E h=>Za (ZlK E)<|yA ?_
 exact yR h [0,1,2,231,232,233,234]
 rintro ⟨b,d,e,f,g,j⟩ ⟨_,_,_⟩ q _ h
 simp only[go_sem,seval,Zd]at q
 obtain ⟨⟨_,_,_,_⟩,_,_,_,_,_,_,_,hn⟩:=q
 subst hn
 have:=ZW (a.2.length)
 simp only[*,go_sem,seval]
 refine Zb h fun _ F h=>Za (Zks F)<|yA ?_
 refine Zb h fun _ G h=>Za (Znp G)<|yA ?_
 iterate 2 refine yB h (fun _ h=>?_) fun _ h=>?_
 refine Zb h fun _ H h=>Za (Zrt H)<|yA ?_
 refine Zb h fun _ I h=>Za (ZhO I)<|yA ?_
 refine yB h (fun _ h=>?_) fun _ h=>?_
 refine Zb h fun _ J h=>Za (Zr9 J)<|yA ?_
 refine yB h (fun _ h=>?_) fun _ h=>?_
 refine Zb h fun t K h=>Za (Znb K)<|yA ?_
 refine Zb h fun L M h=>Za (ZkW M)<|yA ?_
 refine Zn h (fun i _ st=>IV [(12,.p false [.row 0]),(13,.p false [.row 1]),(14,yL i)] [.row 64 7 (A0 Yu t) 2,.row 62 3 (A0 Q0 L) 2] st) [] [727,775] yF yD ?_ ?_
 rintro _ _ ⟨⟩ ⟨_,_,_⟩ _ l u N h O
 simp only[go_sem,seval,Zd]at u
 obtain ⟨⟨_,_,_⟩,P,_,hn⟩:=u
 subst hn
 have Q:=WF.rowL N P
 have:=Z0 l
 have:=Z2 l
 have:=Zt (Z1 l) Q
 simp only[*,go_sem,seval]
 refine Zb h fun _ R h=>Za (ZoE R)<|yA ?_
 refine yB h (fun _ h=>?_) fun _ h=>?_
 exact yR h [0,1]
 replace h:=Zw h O
 cases h;exact yD
 rintro ⟨⟩ ⟨_,_,_⟩ v _ h
 simp only[go_sem,seval,Zd]at v
 obtain ⟨⟨_,_,_⟩,_,_,hn⟩:=v
 subst hn
 have:=ZW (t.length)
 iterate 5 (cases h;exact yD)
end
section
open Go.RowKit Go.Deep
def ZyP {α:Type}(P:Program) (t:TypeId) (c:YK α) (wf:α->Prop):Prop:=
 ∀{H:Type} {enc:TypeId×Value->H} {w:World} {base:Nat} {spare:Nat->Bool} {held:Bool} {fuel:Nat} {cs:List Value} {x:DataW H×List MemPlace},
  DataW.trod enc P w base spare held fuel t cs=some x->∃d L,c.rep w cs d L/\wf d
theorem Ztz {P:Program}{t:TypeId}(ht:P.underlying t=some (.int .u8)):ZyP P t ZAm (fun n=>0<=n/\n<=255):=by
 intro H enc w base spare held fuel cs x h
 obtain ⟨n,rfl,_,hw⟩:=DataW.trod_int ht h
 refine ⟨n,[],⟨rfl,rfl⟩,?_⟩
 simp [Lit.wf,IntKind.min,IntKind.max,IntKind.signed,IntKind.bits]at hw
 exact ⟨yE,yE⟩
theorem ZsI {α:Type}{c:YK α}{wf:α->Prop}{P:Program}{t e:TypeId}(ht:P.underlying t=some (.slice e)) (hc:P.cellsOf e=c.size) (ho:ZyP P e c wf):ZyP P t (X4 c) (fun ds=>∀d∈ds,wf d):=by
 intro H enc w base spare held fuel cs x h
 rcases open_slice ht h with ⟨rfl,_⟩|⟨a,len,cap,m,n,D,Pl,rfl,hb,hl,hm,l,_,hx⟩
 .exact ⟨[],[],⟨none,0,rfl,AB _,AG _,Sli.nil _ _⟩,yG⟩
 .have hlm:len<=m:=by rw [l];split<;>omega
  have key:∀q,q<=len->∃(xs:List Value) (ds:List α) (L:List Nat),ds.length=q/\(∀j u,xs[j]?=some u->w.cell? (a.add j)=some u)/\c.reps w xs ds L/\∀d∈ds,wf d:=by
   intro q
   induction q with
   |zero=>exact fun _=>⟨[],[],[],rfl,yG,⟨rfl,rfl⟩,yG⟩
   |succ q ih=>
    intro hq
    obtain ⟨xs,ds,L,hd,f,hr,i⟩:=ih yE
    obtain ⟨o,h1,h2⟩:=hx q yE
    obtain ⟨d,Lq,k,p⟩:=ho h2
    obtain ⟨_,hlen,v⟩:=World.cells?_some h1
    refine ⟨xs++o,ds++[d],L++Lq,by simp [hd],fun j u hu=>?_,Ze6 hr (Zfb k),?_⟩
    .have g:xs.length=q*c.size:=by rw [ZjO hr,hd]
     rw [List.getElem?_append]at hu
     split at hu
     .exact f j u hu
     .rename_i hj
      have hj2:=(AN.1 hu).1
      have:=v (j - xs.length) yE
      rw [<-hu,<-this,Go.Deep.add_add,hc,<-g]
      congr 2
      omega
    .intro y hy
     rcases Ac.1 hy with hy|hy
     .exact i y hy
     .simp at hy;subst hy;exact p
  obtain ⟨xs,ds,L,hd,f,hr,i⟩:=key len (AB _)
  have g:=ZjO hr
  rcases Aa len with h0|h0
  .have:ds=[]:=List.eq_nil_of_length_eq_zero yE
   subst this
   refine ⟨[],[],⟨some a,cap,by simp at hd;rw [<-hd];rfl,yG,hm,Sli.nil _ _⟩,yG⟩
  .obtain ⟨b,off,sp⟩:=a
   have hp:0<xs.length:=by rw [g,hd];exact Nat.mul_pos h0 c.pos
   have z:sp=none:=by
    have h1:=f 0 _ (A6 hp)
    have e:(⟨b,off,sp⟩:Addr).add 0=⟨b,off,sp⟩:=by simp [Addr.add]
    rw [e]at h1
    cases sp with
    |none=>rfl
    |some q=>
     simp only[World.cell?]at h1
     split at h1<;>simp at h1
   subst z
   refine ⟨ds,[b]++L,⟨some ⟨b,off,none⟩,cap,by rw [hd],yE,hm,xs,[b],L,rfl,⟨by rw [g],.inr ⟨yE,b,off,rfl,rfl,fun j u hu=>?_⟩⟩,hr⟩,i⟩
   have:=f j u hu
   rwa [ZdC]at this
end
section
open Go.RowKit
theorem ZnQ (w:World) (hJ:J0 w) (A:Option Addr) (c:Nat) (a:List Int) (L:List Nat) (h:(X4 ZAm).rep w [.slice A a.length c] a L):
  Calls prog 3 #[.slice A a.length c] w (fun e w'=>e=.returned (.bool true)/\Below w.heap.size w w'):=
 Zm.givesB (Zna (ZlQ a)) hJ (vs:=[_]) ⟨Zk5 ZCf _ h,trivial⟩
end
end Go.Proofs.YtaafhjecikjhbaaGreatDoor
