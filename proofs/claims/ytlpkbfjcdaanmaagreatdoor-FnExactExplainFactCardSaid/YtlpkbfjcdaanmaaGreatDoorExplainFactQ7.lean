/- Texts of this proof, joined: De, Dp4, Dp6, Dp8, Dp3, Dp5, Dp7, Dp9, Dp10, Dp11, Dp12, Dp14. What each holds is said at its theorems. -/
import Derived.Test.YtlpkbfjcdaanmaaGreatDoorExplainFactQ6
import Derived.Test.YtlpkbfjcdaanmaaGreatDoorProg
import Derived.OwnWalk
import Derived.Outline
import Derived.WalkSpells
import Derived.StillTailTactics
import Derived.BigGuard
open Bool renaming and_eq_true→A8
open Int renaming toNat_natCast→A7
open List renaming map→A0,replicate→A4,range'→A5,getElem?_eq_getElem→A9,all_eq_true→AA,take_of_length_le→AB,foldl_append→AD,getElem_mem→AE
open Nat renaming zero_le→A6,le_of_eq→AC
open Option.some renaming inj→A3
open Go.Proofs.Tryz
set_option linter.unusedSimpArgs false
set_option linter.unusedVariables false
set_option maxRecDepth 1000000
set_option maxHeartbeats 4000000
namespace Go.Proofs.YtlpkbfjcdaanmaaGreatDoor
section
open Go.RowKit
theorem ZL8:(prog.info? 4).map (fun i=>(i.zero,i.size,i.bytes))=some (some (.bool false),1,1):=yO
theorem ZLM:(prog.info? 151).map (fun i=>(i.zero,i.size,i.bytes))=some (some (.slice none 0 0),1,24):=yO
theorem ZJu {α β:Type}{f:β->α->β}{l:List α}{k:Nat}{x:α}{b:β}(h:l[k]?=some x):(l.take (k+1)).foldl f b=f ((l.take k).foldl f b) x:=by
 rw [List.take_add_one,h,AD];rfl
theorem ZJn {β:Type}{f:β->Nat->β}{k:Nat}{b:β}:(A5 0 (k+1)).foldl f b=f ((A5 0 k).foldl f b) k:=by
 rw [List.range'_concat,AD];simp
theorem ZLL {b:Zt}(S:ZK3 b=true) (w:World) (cs:List Value) (L:List Nat) (hb:Q1.rep w cs b L) :
  Calls prog 261 #[.agg cs.toArray] w (fun e w'=>∃w0,Below w.heap.size w w0/\e=.returned (.slice (some ⟨w0.heap.size,0,none⟩) b.nodes.toNat b.nodes.toNat)/\ZI3 w0 w' b.nodes.toNat (ZJR b.nodes.toNat b.reasons)):=by
 obtain ⟨A1,c1,L1,e1,e2,n1,m1,s1⟩:=hb;subst e1 e2;unfold ZK3 at S;rw [A8,decide_eq_true_iff]at S;obtain ⟨⟨h0,an,ao⟩,hr⟩:=S;have HR:Hid (∀r∈b.reasons,(0<=r.for_/\r.for_.toNat<b.nodes.toNat)/\(∀y∈r.inn,0<=y/\y.toNat<b.nodes.toNat)/\∀y∈r.outs,0<=y/\y.toNat<b.nodes.toNat):=fun r mr=>by
  have:=AA.1 hr r mr;rw [A8,A8,decide_eq_true_iff,AA,AA]at this;obtain ⟨⟨a1,a2⟩,a3⟩:=this;refine ⟨yE,fun y my=>?_,fun y my=>?_⟩
  .have:=of_decide_eq_true (a2 y my);omega
  .have:=of_decide_eq_true (a3 y my);omega
 clear hr;have HS:Hid (Sli ZLg w A1 b.reasons _):=s1;clear s1;have T:b.nodes=(b.nodes.toNat:Int):=by omega
 obtain ⟨n,hn⟩:∃n,b.nodes.toNat=n:=⟨_,rfl⟩;have HN:Hid (b.nodes.toNat=n):=hn;rw [hn]at T ⊢;rw [T];obtain ⟨m,hm⟩:∃m,b.reasons.length=m:=⟨_,rfl⟩;have HM:Hid (b.reasons.length=m):=hm;rw [hm]at n1 ao ⊢;have hn24:n<=24:=by omega
 clear hm hn T h0 an;have ah:∀w:World,_:=run_make_row' (P:=prog) 251 151 (.slice none 0 0) 24 underlying251 ZLM rfl .i64 .i64 n yE yE;go_enter func261,ntmps261;go_wp2;clear ah;obtain ⟨w0,A⟩:∃w0,w0=w.alloc (.cells #[.int .i64 (n:Int),.slice A1 m c1] 140):=⟨_,rfl⟩;have U:w0.heap.size=w.heap.size + 1:=by rw [A];simp
 have HB:Hid (Below w.heap.size w w0):=by rw [A];exact (Below.refl _ w).alloc (Nat.le_refl _) _
 have K0:Hid (Blk w0 w.heap.size 140 #[.int .i64 (n:Int),.slice A1 m c1]):=by rw [A];exact Blk.new _ _ _
 rw [<-A,<-U];have H0:Hid (w0.heap.size=w.heap.size + 1):=U;have f:Hid (ZLF w0 (w0.alloc (.cells (madeCells #[.slice none 0 0] n) 151)) n 0):=ZLU w0 n;clear A U;go_loopw [19] (fun i wr=>∃(k:Nat),k<=n/\i=.int .i64 k/\Hid (ZLF w0 wr n k)) (fun i _=>n - (intOf i).toNat)
 case atStart=>exact ⟨0,A6 _,rfl,f⟩
 case round =>
  clear f;obtain ⟨k,hk,rfl,HA⟩:=hrel;by_cases M:k<n
  .have q0:wr.cell? ⟨w.heap.size,0,none⟩=some (.int .i64 (n:Int)):=(HA.out.below.cell (p:=⟨w.heap.size,0,none⟩) (by show w.heap.size<w0.heap.size;rw [H0.out];omega)).trans (K0.out.at rfl)
   have ah:∀w:World,_:=run_make_row' (P:=prog) 151 4 (.bool false) 1 underlying151 ZL8 rfl .i64 .i64 n yE yE;have hst1:∀o,(wr.alloc o).cell? ⟨w0.heap.size,k,none⟩=some (.slice none 0 0):=fun o=>by
    have:=(HA.out.top.alloc o).cell M;simpa using this
   have hst2:∀o,(wr.alloc o).frozen? ⟨w0.heap.size,k,none⟩=false:=fun o=>(HA.out.top.alloc o).frozen k
   go_wp2;exact ⟨⟨k + 1,yE,yG,HA.out.next⟩,by simp [intOf];omega⟩
  .obtain rfl:k=n:=by omega
   have HD:Hid (ZI3 w0 wr k (A4 k (A4 k false))):=HA.out.done;clear HA;have q1:wr.cell? ⟨w.heap.size,1,none⟩=some (.slice A1 m c1):=(HD.out.below.cell (p:=⟨w.heap.size,1,none⟩) (by show w.heap.size<w0.heap.size;rw [H0.out];omega)).trans (K0.out.at rfl)
   go_wp2;clear q1 M hk;have f:Hid (ZI3 w0 wr k ((b.reasons.take 0).foldl ZJ6 (A4 k (A4 k false)))):=HD;clear HD;go_loopw [32] (fun i wr=>∃(q:Nat),q<=m/\i=.int .i64 q/\Hid (ZI3 w0 wr k ((b.reasons.take q).foldl ZJ6 (A4 k (A4 k false))))) (fun i _=>m - (intOf i).toNat)
   case atStart=>exact ⟨0,A6 _,rfl,f⟩
   case round =>
    clear f;obtain ⟨q,hq,rfl,HA⟩:=hrel;by_cases M:q<m
    .obtain ⟨r,hr⟩:∃r,b.reasons[q]?=some r:=⟨_,A9 (by have:=HM.out;omega)⟩
     have ai:q<b.reasons.length:=(List.getElem?_eq_some_iff.1 hr).1;obtain ⟨bb,off,cs,Lk,rfl,ap,hLk,Q,hc⟩:=HS.out.at_ ai;have aj:b.reasons[q]=r:=by rw [A9 ai]at hr;exact A3 hr
     rw [aj]at Q;obtain ⟨Ai,ci,Li,Ao,co,Lo,e1,e2,ni,mi,si,no,mo,so⟩:=Q;subst e1;have V:bb<w.heap.size:=HS.out.lt _ ap;have l:∀{a:Addr},a.block<w.heap.size->wr.cell? a=w.cell? a:=fun {a} ha=>(HA.out.below.cell (p:=a) (by rw [H0.out];omega)).trans (HB.out.cell ha)
     have mr:=List.mem_of_getElem? hr;obtain ⟨⟨f0,f1⟩,f2,f3⟩:=HR.out r mr;simp only[HN.out]at f1 f2 f3;obtain ⟨x,hx⟩:∃x:Nat,r.for_=x:=⟨r.for_.toNat,yE⟩;have t:x<k:=by omega
     have HX:Hid (r.for_.toNat=x):=by show r.for_.toNat=x;omega
     have HIF:Hid (∀y∈r.inn,0<=y/\y.toNat<k):=f2;have HOF:Hid (∀y∈r.outs,0<=y/\y.toNat<k):=f3;have HI:Hid (Sli ZGg w Ai r.inn _):=si;have HO:Hid (Sli ZGg w Ao r.outs _):=so;have HQ:Hid (b.reasons[q]?=some r):=hr;have p0:wr.cell? ⟨bb,off + q*3,none⟩=some (.int .i64 r.for_):=(l V).trans (hc 0 _ rfl);have p1:wr.cell? ⟨bb,off + q*3 + 1,none⟩=some (.slice Ai r.inn.length ci):=(l V).trans (hc 1 _ rfl);have p2:wr.cell? ⟨bb,off + q*3 + 2,none⟩=some (.slice Ao r.outs.length co):=(l V).trans (hc 2 _ rfl);rw [hx]at p0;obtain ⟨pi,W⟩:∃pi,r.inn.length=pi:=⟨_,rfl⟩;obtain ⟨po,X⟩:∃po,r.outs.length=po:=⟨_,rfl⟩;rw [W]at p1 ni;rw [X]at p2 no;have hpb:pi<=9223372036854775807:=Nat.le_trans ni (by unfold maxLen at mi;omega)
     have hpc:po<=9223372036854775807:=Nat.le_trans no (by unfold maxLen at mo;omega)
     have HIL:Hid (r.inn.length=pi):=W;have HOL:Hid (r.outs.length=po):=X;clear hc l W X hx f0 f1 f2 f3 si so hr mr aj;go_wp2;obtain ⟨D,hD⟩:∃D,D=(b.reasons.take q).foldl ZJ6 (A4 k (A4 k false)):=⟨_,rfl⟩;obtain ⟨w1,N⟩:∃w1,w1=wr.alloc (.cells #[.int .i64 (x:Int),.slice Ai pi ci,.slice Ao po co] 179):=⟨_,rfl⟩;obtain ⟨g,hg⟩:∃g,g=wr.heap.size:=⟨_,rfl⟩;have B:Hid (ZI3 w0 w1 k ((r.inn.take 0).foldl (ZI8 r.for_.toNat) D)):=by rw [N,hD];exact HA.out.later ((Below.refl _ _).alloc (Nat.le_refl _) _)
     have C:Hid (Blk w1 g 179 #[.int .i64 (x:Int),.slice Ai pi ci,.slice Ao po co]):=by rw [N,hg];exact Blk.new _ _ _
     have HG:Hid (w0.heap.size + 1 + k<=g):=by rw [hg];exact HA.out.size
     rw [<-N,<-hg];have HD0:Hid (D=(b.reasons.take q).foldl ZJ6 (A4 k (A4 k false))):=hD;clear HA N hg p0 p1 p2 hD;go_loopw [39] (fun i wr=>∃(j:Nat),j<=pi/\i=.int .i64 j/\Hid (ZI3 w0 wr k ((r.inn.take j).foldl (ZI8 r.for_.toNat) D))/\Hid (Blk wr g 179 #[.int .i64 (x:Int),.slice Ai pi ci,.slice Ao po co])) (fun i _=>pi - (intOf i).toNat)
     case atStart=>exact ⟨0,A6 _,rfl,B,C⟩
     case round =>
      clear B C;obtain ⟨j,hj,rfl,HW,HK⟩:=hrel;by_cases R:j<pi
      .have u:j<r.inn.length:=by have:=HIL.out;omega
       obtain ⟨bi,oi,aq,Lk2,rfl,F,_,z,G⟩:=HI.out.at_ u;obtain ⟨e3,_⟩:=z;subst e3;have hy:=A9 u;obtain ⟨y0,y1⟩:=HIF.out _ (AE u);obtain ⟨yn,H⟩:∃yn:Nat,r.inn[j]=yn:=⟨r.inn[j].toNat,yE⟩;have I:r.inn[j].toNat=yn:=by omega
       have J:yn<k:=by omega
       have Y:bi<w.heap.size:=HI.out.lt _ F;have p3:wr.cell? ⟨bi,oi + j,none⟩=some (.int .i64 (yn:Int)):=by
        have h:=G 0 _ rfl;rw [show oi + (j*ZGg.size + 0)=oi + j from by show oi + (j*1 + 0)=_;omega,H]at h
        exact ((HW.out.below.cell (p:=⟨bi,oi + j,none⟩) (by show bi<w0.heap.size;rw [H0.out];omega)).trans (HB.out.cell (p:=⟨bi,oi + j,none⟩) Y)).trans h
       have s0:wr.cell? ⟨g,0,none⟩=some (.int .i64 (x:Int)):=HK.out.at rfl;have s1:wr.cell? ⟨w0.heap.size,x,none⟩=some (.slice (some ⟨w0.heap.size + 1 + x,0,none⟩) k k):=HW.out.top.cell t;have s2:=(HW.out.row x t).cell J;have s3:=(HW.out.row x t).frozen yn;have HY:Hid (r.inn[j]?=some r.inn[j]/\r.inn[j].toNat=yn):=⟨hy,I⟩;clear G hy I H y0 y1;go_wp2;refine ⟨⟨j + 1,yE,yG,?_,HK.out.far (by show g ≠ w0.heap.size + 1 + x;have:=HG.out;omega) _⟩,by simp [intOf];omega⟩
       show ZI3 w0 _ k _
       rw [ZJu HY.out.1];have e:∀d,ZI8 r.for_.toNat d r.inn[j]=ZKt d x yn true:=fun d=>by unfold ZI8;rw [HX.out,HY.out.2]
       rw [e];exact HW.out.set t J true
      .have O:j=pi:=by omega
       have q2:wr.cell? ⟨g,2,none⟩=some (.slice Ao po co):=HK.out.at rfl;go_wp2;clear q2 R hj;have B:Hid (ZI3 w0 wr k ((r.outs.take 0).foldl (ZI8 r.for_.toNat) ((r.inn.take pi).foldl (ZI8 r.for_.toNat) D))):=by rw [<-O];exact HW
       have C:=HK;clear HW HK O;go_loopw [54] (fun i wr=>∃(j:Nat),j<=po/\i=.int .i64 j/\Hid (ZI3 w0 wr k ((r.outs.take j).foldl (ZI8 r.for_.toNat) ((r.inn.take pi).foldl (ZI8 r.for_.toNat) D)))/\Hid (Blk wr g 179 #[.int .i64 (x:Int),.slice Ai pi ci,.slice Ao po co])) (fun i _=>po - (intOf i).toNat)
       case atStart=>exact ⟨0,A6 _,rfl,B,C⟩
       case round =>
        clear B C;obtain ⟨j,hj,rfl,HW,HK⟩:=hrel;by_cases R:j<po
        .have u:j<r.outs.length:=by have:=HOL.out;omega
         obtain ⟨bi,oi,aq,Lk2,rfl,F,_,z,G⟩:=HO.out.at_ u;obtain ⟨e3,_⟩:=z;subst e3;have hy:=A9 u;obtain ⟨y0,y1⟩:=HOF.out _ (AE u);obtain ⟨yn,H⟩:∃yn:Nat,r.outs[j]=yn:=⟨r.outs[j].toNat,yE⟩;have I:r.outs[j].toNat=yn:=by omega
         have J:yn<k:=by omega
         have Y:bi<w.heap.size:=HO.out.lt _ F;have p3:wr.cell? ⟨bi,oi + j,none⟩=some (.int .i64 (yn:Int)):=by
          have h:=G 0 _ rfl;rw [show oi + (j*ZGg.size + 0)=oi + j from by show oi + (j*1 + 0)=_;omega,H]at h
          exact ((HW.out.below.cell (p:=⟨bi,oi + j,none⟩) (by show bi<w0.heap.size;rw [H0.out];omega)).trans (HB.out.cell (p:=⟨bi,oi + j,none⟩) Y)).trans h
         have s0:wr.cell? ⟨g,0,none⟩=some (.int .i64 (x:Int)):=HK.out.at rfl;have s1:wr.cell? ⟨w0.heap.size,x,none⟩=some (.slice (some ⟨w0.heap.size + 1 + x,0,none⟩) k k):=HW.out.top.cell t;have s2:=(HW.out.row x t).cell J;have s3:=(HW.out.row x t).frozen yn;have HY:Hid (r.outs[j]?=some r.outs[j]/\r.outs[j].toNat=yn):=⟨hy,I⟩;clear G hy I H y0 y1;go_wp2;refine ⟨⟨j + 1,yE,yG,?_,HK.out.far (by show g ≠ w0.heap.size + 1 + x;have:=HG.out;omega) _⟩,by simp [intOf];omega⟩
         show ZI3 w0 _ k _
         rw [ZJu HY.out.1];have e:∀d,ZI8 r.for_.toNat d r.outs[j]=ZKt d x yn true:=fun d=>by unfold ZI8;rw [HX.out,HY.out.2]
         rw [e];exact HW.out.set t J true
        .have O:j=po:=by omega
         go_wp2;refine ⟨⟨q + 1,yE,yG,?_⟩,by simp [intOf];omega⟩
         show ZI3 w0 _ k _
         rw [ZJu HQ.out,<-HD0.out];have h:=HW.out;rw [O,AB (AC HOL.out),AB (AC HIL.out)]at h;exact h
    .have ak:q=m:=by omega
     have HD:Hid (ZI3 w0 wr k (b.reasons.foldl ZJ6 (A4 k (A4 k false)))):=by
      have h:=HA.out;rw [ak,AB (AC HM.out)]at h;exact h
     clear HA ak;go_wp2;obtain ⟨E,hE⟩:∃E,E=b.reasons.foldl ZJ6 (A4 k (A4 k false)):=⟨_,rfl⟩;have HE:Hid (E=b.reasons.foldl ZJ6 (A4 k (A4 k false))):=hE;have f:Hid (ZI3 w0 wr k ((A5 0 0).foldl (ZKX k) E)):=by rw [hE];exact HD
     clear HD hE M hq;go_loopw [69] (fun i wr=>∃(a:Nat),a<=k/\i=.int .i64 a/\Hid (ZI3 w0 wr k ((A5 0 a).foldl (ZKX k) E))) (fun i _=>k - (intOf i).toNat)
     case atStart=>exact ⟨0,A6 _,rfl,f⟩
     case round =>
      clear f;obtain ⟨a,ha,rfl,HA⟩:=hrel;by_cases Z:a<k
      .go_wp2;obtain ⟨E1,aa⟩:∃E1,E1=(A5 0 a).foldl (ZKX k) E:=⟨_,rfl⟩;have HE1:Hid (E1=(A5 0 a).foldl (ZKX k) E):=aa;have f:Hid (ZI3 w0 wr k ((A5 0 0).foldl (ZLd k a) E1)):=by rw [aa];exact HA
       clear HA aa;go_loopw [74] (fun i wr=>∃(c:Nat),c<=k/\i=.int .i64 c/\Hid (ZI3 w0 wr k ((A5 0 c).foldl (ZLd k a) E1))) (fun i _=>k - (intOf i).toNat)
       case atStart=>exact ⟨0,A6 _,rfl,f⟩
       case round =>
        clear f;obtain ⟨c,hc,rfl,HA⟩:=hrel;by_cases K:c<k
        .go_wp2;obtain ⟨E2,ab⟩:∃E2,E2=(A5 0 c).foldl (ZLd k a) E1:=⟨_,rfl⟩;have HE2:Hid (E2=(A5 0 c).foldl (ZLd k a) E1):=ab;have f:Hid (ZI3 w0 wr k ((A5 0 0).foldl (ZKE a c) E2)):=by rw [ab];exact HA
         clear HA ab;go_loopw [79] (fun i wr=>∃(e:Nat),e<=k/\i=.int .i64 e/\Hid (ZI3 w0 wr k ((A5 0 e).foldl (ZKE a c) E2))) (fun i _=>k - (intOf i).toNat)
         case atStart=>exact ⟨0,A6 _,rfl,f⟩
         case round =>
          clear f;obtain ⟨e,he,rfl,HA⟩:=hrel;by_cases ac:e<k
          .obtain ⟨E3,ad⟩:∃E3,E3=(A5 0 e).foldl (ZKE a c) E2:=⟨_,rfl⟩;have HE3:Hid (E3=(A5 0 e).foldl (ZKE a c) E2):=ad;have HW:Hid (ZI3 w0 wr k E3):=by rw [ad];exact HA
           clear HA ad;have s1:wr.cell? ⟨w0.heap.size,c,none⟩=some (.slice (some ⟨w0.heap.size + 1 + c,0,none⟩) k k):=HW.out.top.cell K;have s2:wr.cell? ⟨w0.heap.size,a,none⟩=some (.slice (some ⟨w0.heap.size + 1 + a,0,none⟩) k k):=HW.out.top.cell Z;obtain ⟨v1,ae⟩:∃v,ZJw E3 c e=v:=⟨_,rfl⟩;obtain ⟨v2,af⟩:∃v,ZJw E3 c a=v:=⟨_,rfl⟩;obtain ⟨v3,ag⟩:∃v,ZJw E3 a e=v:=⟨_,rfl⟩;have u1:wr.cell? ⟨w0.heap.size + 1 + c,e,none⟩=some (.bool v1):=by rw [<-ae];exact (HW.out.row c K).cell ac
           have u2:wr.cell? ⟨w0.heap.size + 1 + c,a,none⟩=some (.bool v2):=by rw [<-af];exact (HW.out.row c K).cell Z
           have u3:wr.cell? ⟨w0.heap.size + 1 + a,e,none⟩=some (.bool v3):=by rw [<-ag];exact (HW.out.row a Z).cell ac
           have u4':wr.frozen? ⟨w0.heap.size + 1 + c,e,none⟩=false:=(HW.out.row c K).frozen e;have al:Hid (ZI3 w0 (wr.setCell ⟨w0.heap.size + 1 + c,e,none⟩ (.bool (v1 || (v2 && v3)))).drew k ((A5 0 (e + 1)).foldl (ZKE a c) E2)):=by
            show ZI3 w0 _ k _
            rw [ZJn,<-HE3.out];unfold ZKE;rw [ae,af,ag];exact (HW.out.set K ac _).drew
           clear ae af ag;go_wp2_with fail
           cases v1<;>cases v2<;>cases v3 <;>
            (go_big_region
             go_wp2;exact ⟨⟨e + 1,yE,yG,al⟩,by simp [intOf];omega⟩)
          .have ar:e=k:=by omega
           go_wp2;refine ⟨⟨c + 1,yE,yG,?_⟩,by simp [intOf];omega⟩
           show ZI3 w0 _ k _
           rw [ZJn,<-HE2.out];have h:=HA.out;rw [ar]at h;exact h
        .have au:c=k:=by omega
         go_wp2;refine ⟨⟨a + 1,yE,yG,?_⟩,by simp [intOf];omega⟩
         show ZI3 w0 _ k _
         rw [ZJn,<-HE1.out];have h:=HA.out;rw [au]at h;exact h
      .have am:a=k:=by omega
       have HF:Hid (ZI3 w0 wr k (ZJR k b.reasons)):=by
        have h:=HA.out;rw [am,HE.out]at h;exact h
       clear HA am;go_wp2;go_ret;exact ⟨w0,HB.out,rfl,HF.out⟩
theorem ZKh {a:Zt}{r:List (List Bool)}(h:ZJh a=some r):Zm prog J0 261 [(true,Qu a)] [(false,[(true,.sl 151 1 (A0 Zv9 r))])]:=by
 unfold ZJh at h;split at h
 .rename_i b;obtain rfl:=A3 h;refine ⟨⟨f261,func261,yO,yO⟩,fun w z vs hj hz ha=>?_⟩
  cases vs with
  |nil=>exact ha.elim
  |cons v vs=>
   obtain ⟨ha,hr⟩:=ha;cases vs with
   |cons _ _=>exact hr.elim
   |nil=>
    rcases ha with ⟨_,cs,L,rfl,hR,_⟩|⟨hf,_⟩
    .refine (ZLL b w cs L (ZJm.of hR)).mono ?_;rintro e w' ⟨w0,hB,rfl,hM⟩;have d:a.nodes.toNat<=24:=by
      unfold ZK3 at b;rw [A8,decide_eq_true_iff]at b;omega
     obtain ⟨L2,c,f⟩:=hM.rep d;have g:=((ZMq.slice 4).sl 151).1 c;have i:∀y∈L2,¬z y:=fun y my j=>by
      have h1:=hz y j;have h2:=f y my;have h3:=hB.size;omega
     exact ⟨_,z,rfl,⟨[_],[],⟨_,[],[],[],rfl,rfl,.inr ⟨rfl,_,rfl,rfl,L2,g,i⟩,rfl,rfl⟩,Own.nil _ _,rfl⟩,fun _ h=>h,hB.trans (hM.below.mono hB.size)⟩
    .simp at hf
 .cases h
end
section
theorem Zlb {f_0:Zc}{r:Bool}(h:ZfO f_0=some r):Zm prog J0 84 [(true,Zs f_0)] [(false,[(false,.bool r)])]:=by
 refine fnk func84 rfl ?_;unfold ZfO at h;simp only[fnS,f84,Zo,go_sem,seval];refine ZPO h fun v1 e h=>Zd (Zhr e)<|yA ?_
 iterate 2 refine yB h (fun _ h=>?_) fun _ h=>?_
 cases h;exact yD;refine Zh h (fun i _ st=>IV [(16,yM (yU f_0.args)),(17,yL f_0.args.length),(18,yL i)] [] st) [] [] yF yD ?_ ?_
 rintro _ _ ⟨⟩ ⟨_,_,_⟩ _ a b f h g;simp only[go_sem,seval,Zb]at b;obtain ⟨⟨k,_,_⟩,hn⟩:=b;subst hn;have l:=WF.slotL f k (j:=0) rfl;have:=ZC a;have:=ZE a;have:=Zk (ZD a) l;simp only[*,go_sem,seval];refine ZPO h fun _ m h=>Zd (QG m)<|yA ?_
 refine yB h (fun _ h=>?_) fun _ h=>?_
 exact yR h [];replace h:=Zr h g;cases h;exact yD;rintro ⟨⟩ ⟨_,_,_⟩ d _ h;simp only[go_sem,seval,Zb]at d;obtain ⟨⟨_,_,_⟩,hn⟩:=d;subst hn;have:=ZB (f_0.args.length);iterate 2 (cases h;exact yD)
theorem Zap {s_0:ByteArray}{r:Bool}(h:Zab s_0=some r):Zm prog J0 206 [(false,[.str s_0])] [(false,[(false,.bool r)])]:=by
 refine fnk func206 rfl ?_;unfold Zab at h;simp only[fnS,f206,Zo,go_sem,seval];refine ZPO h fun v1 a h=>Zd (QG a)<|yA ?_
 refine yB h (fun _ h=>?_) fun _ h=>?_
 cases h;exact yD;refine ZPO h fun _ b h=>Zd (ZdX b) ?_
 cases h;exact yD
theorem Zas {b_0:List Zi}{r:Bool}(h:XS b_0=some r):Zm prog J0 145 [(false,[.sl 162 2 (A0 ZR b_0)])] [(false,[(false,.bool r)])]:=by
 refine fnk func145 rfl ?_;unfold XS at h;simp only[fnS,f145,Zo,go_sem,seval];refine yB h (fun _ h=>?_) fun _ h=>?_
 cases h;exact yD;refine Zh h (fun i _ st=>IV [(0,yM (yX b_0)),(8,yM (yX b_0)),(9,yL b_0.length),(10,yL i)] [] st) [] [] yF yD ?_ ?_
 rintro _ _ ⟨⟩ ⟨_,_,_⟩ _ a b f h d;simp only[go_sem,seval,Zb]at b;obtain ⟨⟨g,_,_,_⟩,hn⟩:=b;subst hn;have k:=WF.slotL f g (j:=0) rfl;have:=ZC a;have:=ZE a;have:=Zk (ZD a) k;simp only[*,go_sem,seval];refine ZPO h fun _ l h=>Zd (ZdX l)<|yA ?_
 refine yB h (fun _ h=>?_) fun _ h=>?_
 refine ZPO h fun _ m h=>Zd (QG m)<|yA ?_
 iterate 2 refine yB h (fun _ h=>?_) fun _ h=>?_
 obtain ⟨_,_,_,_,h⟩:=ZcM h;simp only[*,go_sem,seval];refine yB h (fun _ h=>?_) fun _ h=>?_
 exact yR h [];replace h:=Zr h d;cases h;exact yD;refine ⟨_,[],[],(A3 h).symm,yF,?_⟩;iterate 2 (simp only[*,go_sem,seval];replace h:=Zr h d;cases h)
 simp only[*,go_sem,seval];rintro ⟨⟩ ⟨_,_,_⟩ e _ h;simp only[go_sem,seval,Zb]at e;obtain ⟨⟨_,_,_,_⟩,hn⟩:=e;subst hn;have:=ZB (b_0.length);cases h;exact yD
theorem Zdw {b_0:List Zi}{term_1:ByteArray}{r:(ByteArray×Bool)}(h:Zbt b_0 term_1=some r):Zm prog J0 208 [(false,[.sl 162 2 (A0 ZR b_0)]),(false,[.str term_1])] [(false,[(false,.str r.1)]),(false,[(false,.bool r.2)])]:=by
 refine fnk func208 rfl ?_;unfold Zbt at h;have e:ZbS ⟨#[]⟩=true:=by decide
 simp only[fnS,f208,Zo,go_sem,seval,e];refine ZPO h fun v1 f h=>Zd (QG f)<|yA ?_
 refine yB h (fun _ h=>?_) fun _ h=>?_
 cases h;exact yD;refine ZPO h fun _ g h=>Zd (ZdX g)<|yA ?_
 refine yB h (fun _ h=>?_) fun _ h=>?_
 refine Zh h (fun i _ st=>IV [(1,yM (.str term_1)),(14,yM (yX b_0)),(15,yL b_0.length),(16,yL i)] [] st) [] [] yF yD ?_ ?_
 rintro _ _ ⟨⟩ ⟨_,_,_⟩ _ a b k h l;simp only[go_sem,seval,Zb]at b;obtain ⟨⟨_,m,_,_⟩,hn⟩:=b;subst hn;have o:=WF.slotL k m (j:=0) rfl;have:=ZC a;have:=ZE a;have:=Zk (ZD a) o;simp only[*,go_sem,seval];refine yB h (fun _ h=>?_) fun _ h=>?_
 replace h:=Zr h l;cases h;exact yD;exact yR h [];rintro ⟨⟩ ⟨_,_,_⟩ d _ h;simp only[go_sem,seval,Zb]at d;obtain ⟨⟨_,_,_,_⟩,hn⟩:=d;subst hn;have:=ZB (b_0.length);iterate 2 (cases h;exact yD)
theorem ZdW {l_0:List Zc}{r:List Zc}(h:Zad l_0=some r):Zm prog J0 132 [(false,[.sl 53 2 (A0 Zs l_0)])] [(false,[(false,.sl 53 2 (A0 Zs r))])]:=by
 refine fnk func132 rfl ?_;unfold Zad at h;simp only[fnS,f132,Zo,go_sem,seval];refine Zh h (fun i a st=>IV [(3,.p false [.row 0]),(6,yM (yT l_0)),(7,yL l_0.length),(8,yL i)] [.row 53 2 (A0 Zs a) 2] st) [(false,3,0)] [80] yF yD ?_ ?_
 rintro _ _ a ⟨_,_,_⟩ _ b d f h _;simp only[go_sem,seval,Zb]at d;obtain ⟨⟨_,g,_,_⟩,_,hn⟩:=d;subst hn;have k:=WF.slotL f g (j:=0) rfl;have:=ZC b;have:=ZE b;have:=Zk (ZD b) k;simp only[*,go_sem,seval];refine ZPO h fun _ l h=>Zd (YO l) ?_
 obtain ⟨m,h⟩:=Zv h;try simp only[Nat.reduceLeDiff]at m
 simp only[*,go_sem,seval];exact yR h [145];rintro a ⟨_,_,_⟩ e _ h;simp only[go_sem,seval,Zb]at e;obtain ⟨⟨_,_,_,_⟩,_,hn⟩:=e;subst hn;have:=ZB (l_0.length);cases h;exact yD
theorem ZcD {l_0:List Zc}{f_1:Zc}{r:Int}(h:Yl l_0 f_1=some r):Zm prog J0 85 [(false,[.sl 53 2 (A0 Zs l_0)]),(true,Zs f_1)] [(false,[(false,.int .i64 r)])]:=by
 refine fnk func85 rfl ?_;unfold Yl at h;simp only[fnS,f85,Zo,go_sem,seval];refine Zh h (fun i _ st=>IV [(3,.bp 0 0),(7,yM (yT l_0)),(8,yL l_0.length),(9,yL i)] [zD 53 (Zs f_1)] st) [] [0] yF yD ?_ ?_
 rintro _ _ ⟨⟩ ⟨_,_,_⟩ _ a b e h f;simp only[go_sem,seval,Zb]at b;obtain ⟨⟨_,g,_,_⟩,_,hn⟩:=b;subst hn;have k:=WF.slotL e g (j:=0) rfl;have:=ZC a;have:=ZE a;have:=Zk (ZD a) k;simp only[*,go_sem,seval];refine ZPO h fun _ l h=>Zd (ZoB l)<|yA ?_
 refine yB h (fun _ h=>?_) fun _ h=>?_
 replace h:=Zr h f;cases h;exact yD;exact yR h [0];rintro ⟨⟩ ⟨_,_,_⟩ d _ h;simp only[go_sem,seval,Zb]at d;obtain ⟨⟨_,_,_,_⟩,_,hn⟩:=d;subst hn;have:=ZB (l_0.length);cases h;exact yD
theorem Zjw {a_0:ByteArray}{b_1:ByteArray}{r:Int}(h:Q8 a_0 b_1=some r):Zm prog J0 239 [(false,[.str a_0]),(false,[.str b_1])] [(false,[(false,.int .i64 r)])]:=by
 refine fnk func239 rfl ?_;unfold Q8 at h;simp only[fnS,f239,Zo,go_sem,seval];refine ZPO h fun v1 a h=>Zd (ZcG a)<|yA ?_
 refine ZPO h fun _ b h=>Zd (ZcG b)<|yA ?_
 iterate 2 refine yB h (fun _ h=>?_) fun _ h=>?_
 refine ZPO h fun _ c h=>Zd (Zcm c) ?_
 iterate 2 (cases h;exact yD)
 refine yB h (fun _ h=>?_) fun _ h=>?_
 cases h;exact yD;refine ZPO h fun _ d h=>Zd (Zki d) ?_
 cases h;exact yD
theorem Zep {l_0:List ByteArray}{r:List ByteArray}(h:Zai l_0=some r):Zm prog J0 194 [(false,[.sl 9 1 (A0 ZA l_0)])] [(false,[(false,.sl 9 1 (A0 ZA r))])]:=by
 refine fnk func194 rfl ?_;unfold Zai at h;simp only[fnS,f194,Zo,go_sem,seval];refine Zh h (fun i a st=>IV [(3,.p false [.row 0]),(6,yM (yU l_0)),(7,yL l_0.length),(8,yL i)] [.row 9 1 (A0 ZA a) 2] st) [(false,3,0)] [80] yF yD ?_ ?_
 rintro _ _ a ⟨_,_,_⟩ _ b d f h _;simp only[go_sem,seval,Zb]at d;obtain ⟨⟨_,g,_,_⟩,_,hn⟩:=d;subst hn;have k:=WF.slotL f g (j:=0) rfl;have:=ZC b;have:=ZE b;have:=Zk (ZD b) k;simp only[*,go_sem,seval];refine ZPO h fun _ l h=>Zd (ZdX l)<|yA ?_
 refine yB h (fun _ h=>?_) fun _ h=>?_
 obtain ⟨m,h⟩:=Zv h;try simp only[Nat.reduceLeDiff]at m
 simp only[*,go_sem,seval];exact yR h [145];exact yR h [0];rintro a ⟨_,_,_⟩ e _ h;simp only[go_sem,seval,Zb]at e;obtain ⟨⟨_,_,_,_⟩,_,hn⟩:=e;subst hn;have:=ZB (l_0.length);cases h;exact yD
theorem ZoC {a:List Zg}{a_1:ByteArray}{r:(List (ByteArray×Bool))}(h:Zeo a a_1=some r):ZqL prog J0 293 [(false,[.sl 76 4 (A0 ZL a)]),(false,[.str a_1])] (.map .str .bool (A0 eSB r)):=by
 refine fnb func293 rfl ?_;unfold Zeo at h;simp only[fnB,f293,Zo,go_sem,seval];refine Xj h (fun s st=>match s with|(o,q)=>IV [(0,yM (yW a)),(5,.p false [.row 0]),(6,.p false [.row 1])] [.map .str .bool (A0 eSB o),.row 9 1 (A0 ZA q) 2] st) [] [16,64] yF yD ?_
 rintro ⟨o,q⟩ ⟨_,_,_⟩ _ t _ h z;simp only[go_sem,seval,Zb]at t;obtain ⟨⟨_,_,_⟩,_,_,hn⟩:=t;subst hn;simp only[*,go_sem,seval];refine yB h (fun _ h=>?_) fun _ h=>?_
 obtain ⟨_,h⟩:=Zv h;obtain ⟨u,A,h⟩:=Za h;try simp only[seval]at A
 obtain ⟨_,h⟩:=Zv h;simp only[*,go_sem,seval];refine Zh h (fun i s st=>match s with|(d,e)=>IV [(0,yM (yW a)),(5,.p false [.row 0]),(6,.p false [.row 1]),(7,yM (.str u)),(23,yM (yW a)),(24,yL a.length),(25,yL i)] [.map .str .bool (A0 eSB d),.row 9 1 (A0 ZA e) 2] st) [] [0,130] yF yD ?_ ?_
 rintro B _ ⟨d,e⟩ ⟨_,_,_⟩ _ f v C h _;simp only[go_sem,seval,Zb]at v;obtain ⟨⟨D,_,_,_,_,_,_⟩,_,_,hn⟩:=v;subst hn;have E:=WF.slotL C D (j:=0) rfl;have:=ZC f;have:=ZE f;have:=Zk (ZD f) E;simp only[*,go_sem,seval];refine ZPO h fun _ F h=>Zd (Zit F)<|yA ?_
 refine ZPO h fun _ G h=>Zd (ZaB G)<|yA ?_
 refine yB h (fun _ h=>?_) fun _ h=>?_
 refine ZPO h fun g H h=>Zd (ZqF H)<|yA ?_
 refine Zh h (fun i s st=>match s with|(k,l)=>IV [(0,yM (yW a)),(5,.p false [.row 0]),(6,.p false [.row 1]),(7,yM (.str u)),(23,yM (yW a)),(24,yL a.length),(25,yL B),(35,.p false [.row 2]),(36,yL g.length),(37,yL i)] [.map .str .bool (A0 eSB k),.row 9 1 (A0 ZA l) 2,.row 9 1 (A0 ZA g) 2] st) [] [0,1,178] yF yD ?_ ?_
 rintro _ _ ⟨k,l⟩ ⟨_,_,_⟩ _ m w I h _;simp only[go_sem,seval,Zb]at w;obtain ⟨⟨_,_,_,_,_,_,_,_,_,_⟩,_,_,J,hn⟩:=w;subst hn;have K:=WF.rowL I J;have:=ZC m;have:=ZE m;have:=Zk (ZD m) K;simp only[*,go_sem,seval];refine yB h (fun _ h=>?_) fun _ h=>?_
 exact yR h [0,1,2];obtain ⟨L,h⟩:=Zv h;try simp only[Nat.reduceLeDiff]at L
 simp only[*,go_sem,seval];exact yR h [0,227,2];rintro ⟨k,l⟩ ⟨_,_,_⟩ x _ h;simp only[go_sem,seval,Zb]at x;obtain ⟨⟨_,_,_,_,_,_,_,_,_,_⟩,_,_,_,hn⟩:=x;subst hn;have:=ZB (g.length);simp only[*,go_sem,seval];exact yR h [0,1];exact yR h [0,1];rintro ⟨d,e⟩ ⟨_,_,_⟩ y _ h;simp only[go_sem,seval,Zb]at y;obtain ⟨⟨_,_,_,_,_,_,_⟩,_,_,hn⟩:=y;subst hn;have:=ZB (a.length);simp only[*,go_sem,seval];exact yR h [0,1];replace h:=Zr h z;cases h;exact yD
theorem Znn {l_0:List Zf}{r_1:Zf}{r:Bool}(h:Zbr l_0 r_1=some r):Zm prog J0 218 [(false,[.sl 179 3 (A0 ZG l_0)]),(true,ZG r_1)] [(false,[(false,.bool r)])]:=by
 refine fnk func218 rfl ?_;unfold Zbr at h;simp only[fnS,f218,Zo,go_sem,seval];refine Zh h (fun i _ st=>IV [(3,.bp 0 0),(7,yM (zA l_0)),(8,yL l_0.length),(9,yL i)] [zD 179 (ZG r_1)] st) [] [0] yF yD ?_ ?_
 rintro _ _ ⟨⟩ ⟨_,_,_⟩ _ a b e h f;simp only[go_sem,seval,Zb]at b;obtain ⟨⟨_,g,_,_⟩,_,hn⟩:=b;subst hn;have k:=WF.slotL e g (j:=0) rfl;have:=ZC a;have:=ZE a;have:=Zk (ZD a) k;simp only[*,go_sem,seval];refine ZPO h fun _ l h=>Zd (ZlS l)<|yA ?_
 refine yB h (fun _ h=>?_) fun _ h=>?_
 replace h:=Zr h f;cases h;exact yD;exact yR h [0];rintro ⟨⟩ ⟨_,_,_⟩ d _ h;simp only[go_sem,seval,Zb]at d;obtain ⟨⟨_,_,_,_⟩,_,hn⟩:=d;subst hn;have:=ZB (l_0.length);cases h;exact yD
theorem Zr4 {b_0:Zt}{r:List Bool}(h:Zhs b_0=some r):Zm prog J0 190 [(true,Qu b_0)] [(false,[(false,.sl 4 1 (A0 Ze4 r))])]:=by
 refine fnk func190 rfl ?_;unfold Zhs at h;simp only[fnS,f190,Zo,go_sem,seval];refine ZPO h fun v1 f h=>Zd (Zq7 f)<|yA ?_
 refine Zh h (fun i a st=>IV [(3,.p false [.row 0]),(7,.p false [.row 1]),(8,yL v1.length),(9,yL i)] [.row 4 1 (A0 Ze4 a) 2,.row 3 1 (A0 ZO v1) 2] st) [(false,3,0)] [112,64] yF yD ?_ ?_
 rintro _ _ a ⟨_,_,_⟩ _ b d g h _;simp only[go_sem,seval,Zb]at d;obtain ⟨⟨_,_,_,_⟩,_,j,hn⟩:=d;subst hn;have k:=WF.rowL g j;have:=ZC b;have:=ZE b;have:=Zk (ZD b) k;obtain ⟨l,h⟩:=Zv h;try simp only[Nat.reduceLeDiff]at l
 simp only[*,go_sem,seval];exact yR h [130,1];rintro a ⟨_,_,_⟩ e _ h;simp only[go_sem,seval,Zb]at e;obtain ⟨⟨_,_,_,_⟩,_,_,hn⟩:=e;subst hn;have:=ZB (v1.length);cases h;exact yD
theorem ZKC {steps_0:List ZzC}{f_1:Zc}{r:Int}(h:ZJs steps_0 f_1=some r):Zm prog J0 112 [(false,[.sl 88 4 (A0 ZF5 steps_0)]),(true,Zs f_1)] [(false,[(false,.int .i64 r)])]:=by
 refine fnk func112 rfl ?_;unfold ZJs at h;simp only[fnS,f112,Zo,go_sem,seval];refine Zh h (fun i _ st=>IV [(3,.bp 0 0),(7,yM (zC steps_0)),(8,yL steps_0.length),(9,yL i)] [zD 53 (Zs f_1)] st) [] [0] yF yD ?_ ?_
 rintro _ _ ⟨⟩ ⟨_,_,_⟩ _ a b e h f;simp only[go_sem,seval,Zb]at b;obtain ⟨⟨_,g,_,_⟩,_,hn⟩:=b;subst hn;have k:=WF.slotL e g (j:=0) rfl;have:=ZC a;have:=ZE a;have:=Zk (ZD a) k;simp only[*,go_sem,seval];refine ZPO h fun _ l h=>Zd (ZoB l)<|yA ?_
 refine yB h (fun _ h=>?_) fun _ h=>?_
 replace h:=Zr h f;cases h;exact yD;exact yR h [0];rintro ⟨⟩ ⟨_,_,_⟩ d _ h;simp only[go_sem,seval,Zb]at d;obtain ⟨⟨_,_,_,_⟩,_,hn⟩:=d;subst hn;have:=ZB (steps_0.length);cases h;exact yD
theorem ZKb {b_0:Zt}{r:Bool}(h:ZIW b_0=some r):Zm prog J0 219 [(true,Qu b_0)] [(false,[(false,.bool r)])]:=by
 refine fnk func219 rfl ?_;unfold ZIW at h;simp only[fnS,f219,Zo,go_sem,seval];refine ZPO h fun v1 q h=>Zd (ZKJ q)<|yA ?_
 refine yB h (fun _ h=>?_) fun _ h=>?_
 obtain ⟨e,t,h⟩:=Za h;refine ZnA (ZKh t)<|yA ?_;refine Zh h (fun i _ st=>IV [(3,yM (.sl 151 1 (A0 Zv9 e))),(14,yM (zA b_0.reasons)),(15,yL b_0.reasons.length),(16,yL i)] [] st) [] [] yF yD ?_ ?_
 rintro u a ⟨⟩ ⟨_,_,_⟩ _ b f v h g;simp only[go_sem,seval,Zb]at f;obtain ⟨⟨_,w,_,_⟩,hn⟩:=f;subst hn;have x:=WF.slotL v w (j:=0) rfl;have:=ZC b;have:=ZE b;have:=Zk (ZD b) x;simp only[*,go_sem,seval];refine Zh h (fun i _ st=>IV [(3,yM (.sl 151 1 (A0 Zv9 e))),(5,.bp 0 0),(14,yM (zA b_0.reasons)),(15,yL b_0.reasons.length),(16,yL u),(21,yM (yV a.outs)),(22,yL a.outs.length),(23,yL i)] [zD 179 (ZG a)] st) [] [48] yF yD ?_ ?_
 rintro _ _ ⟨⟩ ⟨_,_,_⟩ _ d k y h l;simp only[go_sem,seval,Zb]at k;obtain ⟨⟨_,_,_,_,_,z,_,_⟩,_,hn⟩:=k;subst hn;have A:=WF.slotL y z (j:=0) rfl;have:=ZC d;have:=ZE d;have:=Zk (ZD d) A;simp only[*,go_sem,seval];refine yB h (fun _ h=>?_) fun _ h=>?_
 replace h:=Zr h l;replace h:=Zr h g;cases h;exact yD;obtain ⟨_,_,_,_,h⟩:=ZcM h;obtain ⟨_,_,_,_,h⟩:=ZcM h;simp only[*,go_sem,seval];refine yB h (fun _ h=>?_) fun _ h=>?_
 replace h:=Zr h l;replace h:=Zr h g;cases h;exact yD;exact yR h [0];rintro ⟨⟩ ⟨_,_,_⟩ m _ h;simp only[go_sem,seval,Zb]at m;obtain ⟨⟨_,_,_,_,_,_,_,_⟩,_,hn⟩:=m;subst hn;have:=ZB (a.outs.length);simp only[*,go_sem,seval];exact yR h [];rintro ⟨⟩ ⟨_,_,_⟩ o _ h;simp only[go_sem,seval,Zb]at o;obtain ⟨⟨_,_,_,_⟩,hn⟩:=o;subst hn;have:=ZB (b_0.reasons.length);iterate 2 (cases h;exact yD)
theorem Zg3 {s_0:ByteArray}{r:Bool}(h:ZdM s_0=some r):Zm prog J0 105 [(false,[.str s_0])] [(false,[(false,.bool r)])]:=by
 refine fnk func105 rfl ?_;unfold ZdM at h;simp only[fnS,f105,Zo,go_sem,seval];refine ZPO h fun v1 a h=>Zd (QA a)<|yA ?_
 refine yB h (fun _ h=>?_) fun _ h=>?_
 obtain ⟨_,_,b,h⟩:=ZuE h;try simp only[seval]at b
 simp only[*,go_sem,seval];refine ZPO h fun _ c h=>Zd (XM c) ?_
 iterate 2 (cases h;exact yD)
theorem Zah {s_0:ByteArray}{r:Bool}(h:Za3 s_0=some r):Zm prog J0 202 [(false,[.str s_0])] [(false,[(false,.bool r)])]:=by
 refine fnk func202 rfl ?_;unfold Za3 at h;simp only[fnS,f202,Zo,go_sem,seval];refine yB h (fun _ h=>?_) fun _ h=>?_
 obtain ⟨_,_,a,h⟩:=ZuE h;try simp only[seval]at a
 simp only[*,go_sem,seval];refine yB h (fun _ h=>?_) fun _ h=>?_
 obtain ⟨_,h⟩:=Zv h;simp only[*,go_sem,seval];refine ZPO h fun _ b h=>Zd (QA b) ?_
 iterate 3 (cases h;exact yD)
theorem ZeI {a_0:ByteArray}{b_1:ByteArray}{r:Int}(h:Xz a_0 b_1=some r):Zm prog J0 116 [(false,[.str a_0]),(false,[.str b_1])] [(false,[(false,.int .i64 r)])]:=by
 refine fnk func116 rfl ?_;unfold Xz at h;simp only[fnS,f116,Zo,go_sem,seval];refine ZPO h fun v1 a h=>Zd (Zfh a)<|yA ?_
 refine ZPO h fun _ b h=>Zd (Zfh b)<|yA ?_
 iterate 3 refine yB h (fun _ h=>?_) fun _ h=>?_
 cases h;exact yD;refine yB h (fun _ h=>?_) fun _ h=>?_
 iterate 3 (cases h;exact yD)
 refine yB h (fun _ h=>?_) fun _ h=>?_
 cases h;exact yD;refine ZPO h fun _ c h=>Zd (Zmz c) ?_
 cases h;exact yD
theorem Zfo {l_0:List Zc}{r:List Zc}(h:Zbg l_0=some r):Zm prog J0 228 [(false,[.sl 53 2 (A0 Zs l_0)])] [(false,[(false,.sl 53 2 (A0 Zs r))])]:=by
 refine fnk func228 rfl ?_;unfold Zbg at h;simp only[fnS,f228,Zo,go_sem,seval];refine Zh h (fun i a st=>IV [(0,yM (yT l_0)),(3,.p false [.row 0]),(4,yL i)] [.row 53 2 (A0 Zs a) 2] st) [] [16] yF yD ?_ ?_
 rintro _ _ a ⟨_,_,_⟩ _ b d f h _;simp only[go_sem,seval,Zb]at d;obtain ⟨⟨g,_,_⟩,_,hn⟩:=d;subst hn;have k:=WF.slotL f g (j:=0) rfl;have:=ZC b;have:=ZE b;have:=Zk (ZD b) k;simp only[*,go_sem,seval];refine ZPO h fun _ l h=>Zd (Xr l) ?_
 obtain ⟨m,h⟩:=Zv h;try simp only[Nat.reduceLeDiff]at m
 simp only[*,go_sem,seval];exact yR h [177];rintro a ⟨_,_,_⟩ e _ h;simp only[go_sem,seval,Zb]at e;obtain ⟨⟨_,_,_⟩,_,hn⟩:=e;subst hn;have:=ZB (l_0.length);cases h;exact yD
theorem Ziy {s_0:ByteArray}{r:Bool}(h:Zd3 s_0=some r):Zm prog J0 313 [(false,[.str s_0])] [(false,[(false,.bool r)])]:=by
 refine fnk func313 rfl ?_;unfold Zd3 at h;simp only[fnS,f313,Zo,go_sem,seval];refine ZPO h fun v1 a h=>Zd (Zfh a) ?_
 cases h;exact yD
end
section
theorem Ql {p_0:Zx}{r:Bool}(h:Xp p_0=some r):Zm prog J0 144 [(true,Qp p_0)] [(false,[(false,.bool r)])]:=by
 refine fnk func144 rfl ?_;unfold Xp at h;simp only[fnS,f144,Zo,go_sem,seval];refine ZPO h fun v1 e h=>Zd (Zhr e)<|yA ?_
 iterate 2 refine yB h (fun _ h=>?_) fun _ h=>?_
 cases h;exact yD;refine Zh h (fun i _ st=>IV [(16,yM (yU p_0.args)),(17,yL p_0.args.length),(18,yL i)] [] st) [] [] yF yD ?_ ?_
 rintro _ _ ⟨⟩ ⟨_,_,_⟩ _ a b f h g;simp only[go_sem,seval,Zb]at b;obtain ⟨⟨k,_,_⟩,hn⟩:=b;subst hn;have l:=WF.slotL f k (j:=0) rfl;have:=ZC a;have:=ZE a;have:=Zk (ZD a) l;simp only[*,go_sem,seval];refine ZPO h fun _ m h=>Zd (Zap m)<|yA ?_
 refine yB h (fun _ h=>?_) fun _ h=>?_
 exact yR h [];replace h:=Zr h g;cases h;exact yD;rintro ⟨⟩ ⟨_,_,_⟩ d _ h;simp only[go_sem,seval,Zb]at d;obtain ⟨⟨_,_,_⟩,hn⟩:=d;subst hn;have:=ZB (p_0.args.length);iterate 2 (cases h;exact yD)
theorem ZrV {a:List Zi}{b:ByteArray}{d:ByteArray}{r:((List Zi)×Bool)}(h:Zg4 a b d=some r):Zm prog J0 147 [(false,[.sl 162 2 (A0 ZR a)]),(false,[.str b]),(false,[.str d])] [(false,[(false,.sl 162 2 (A0 ZR r.1))]),(false,[(false,.bool r.2)])]:=by
 refine fnk func147 rfl ?_;unfold Zg4 at h;simp only[fnS,f147,Zo,go_sem,seval];refine ZPO h fun v1 o h=>Zd (Zas o)<|yA ?_
 refine yB h (fun _ h=>?_) fun _ h=>?_
 refine ZPO h fun _ q h=>Zd (ZdX q)<|yA ?_
 refine yB h (fun _ h=>?_) fun _ h=>?_
 refine ZPO h fun _ t h=>Zd (QG t)<|yA ?_
 refine yB h (fun _ h=>?_) fun _ h=>?_
 refine ZPO h fun _ u h=>Zd (Zdw u)<|yA ?_
 iterate 2 refine yB h (fun _ h=>?_) fun _ h=>?_
 refine ZPO h fun _ v h=>Zd (Zhq v) ?_
 iterate 2 (cases h;exact yD)
 refine yB h (fun _ h=>?_) fun _ h=>?_
 cases h;exact yD;refine Zh h (fun i s st=>match s with|(e,f)=>IV [(1,yM (.str b)),(2,yM (.str d)),(10,.p false [.row 0]),(11,yM (.bool f)),(42,yM (yX a)),(43,yL a.length),(44,yL i)] [.row 162 2 (A0 ZR e) 2] st) [(false,10,0)] [512] yF yD ?_ ?_
 rintro _ _ ⟨e,f⟩ ⟨_,_,_⟩ _ g l x h _;simp only[go_sem,seval,Zb]at l;obtain ⟨⟨_,_,_,_,y,_,_⟩,_,hn⟩:=l;subst hn;have z:=WF.slotL x y (j:=0) rfl;have:=ZC g;have:=ZE g;have:=Zk (ZD g) z;simp only[*,go_sem,seval];refine yB h (fun _ h=>?_) fun _ h=>?_
 obtain ⟨A,h⟩:=Zv h;try simp only[Nat.reduceLeDiff]at A
 simp only[*,go_sem,seval];exact yR h [257];refine Ze h (fun k h=>?_) (fun k h=>?_)
 have B:=k;obtain ⟨C,h⟩:=Zv h;try simp only[Nat.reduceLeDiff]at C
 simp only[*,go_sem,seval];exact yR h [257];have B:=k;obtain ⟨D,h⟩:=Zv h;try simp only[Nat.reduceLeDiff]at D
 obtain ⟨E,h⟩:=Zv h;try simp only[Nat.reduceLeDiff]at E
 simp only[*,go_sem,seval];exact yR h [385];rintro ⟨e,f⟩ ⟨_,_,_⟩ m _ h;simp only[go_sem,seval,Zb]at m;obtain ⟨⟨_,_,_,_,_,_,_⟩,_,hn⟩:=m;subst hn;have:=ZB (a.length);simp only[*,go_sem,seval];refine yB h (fun _ h=>?_) fun _ h=>?_
 cases h;exact yD;obtain ⟨F,h⟩:=Zv h;try simp only[Nat.reduceLeDiff]at F
 iterate 4 (cases h;exact yD)
theorem ZeY {a_0:Zc}{b_1:Zc}{r:Int}(h:Qn a_0 b_1=some r):Zm prog J0 174 [(true,Zs a_0),(true,Zs b_1)] [(false,[(false,.int .i64 r)])]:=by
 refine fnk func174 rfl ?_;unfold Qn at h;simp only[fnS,f174,Zo,go_sem,seval];refine ZPO h fun v1 f h=>Zd (Zki f)<|yA ?_
 refine yB h (fun _ h=>?_) fun _ h=>?_
 cases h;exact yD;refine Zh h (fun i _ st=>IV [(2,.bp 0 0),(3,.bp 1 0),(6,yL i)] [zD 53 (Zs a_0),zD 53 (Zs b_1)] st) [] [0,16] yF yD ?_ ?_
 rintro _ _ ⟨⟩ ⟨_,_,_⟩ _ a b g h d;simp only[go_sem,seval,Zb]at b;obtain ⟨⟨_,_,_⟩,k,_,hn⟩:=b;subst hn;have l:=WF.boxL g k (j:=1) rfl;have:=ZC a;have:=ZE a;have:=Zk (ZD a) l;simp only[*,go_sem,seval];refine yB h (fun _ h=>?_) fun _ h=>?_
 obtain ⟨_,_,_,m,h⟩:=ZcM h;simp only[A7]at m;simp only[*,go_sem,seval];refine ZPO h fun _ o h=>Zd (Zjw o)<|yA ?_
 refine yB h (fun _ h=>?_) fun _ h=>?_
 replace h:=Zr h d;cases h;exact yD;exact yR h [0,1];refine ZPO h fun _ q h=>Zd (Zcm q) ?_
 replace h:=Zr h d;cases h;exact yD;rintro ⟨⟩ ⟨_,_,_⟩ e _ h;simp only[go_sem,seval,Zb]at e;obtain ⟨⟨_,_,_⟩,_,_,hn⟩:=e;subst hn;have:=ZB (a_0.args.length);simp only[*,go_sem,seval];refine ZPO h fun _ t h=>Zd (Zcm t) ?_
 cases h;exact yD
theorem ZdR {r_0:Zg}{n_1:Int}{r:List ByteArray}(h:Zac r_0 n_1=some r):Zm prog J0 192 [(true,ZL r_0),(false,[.int .i64 n_1])] [(false,[(false,.sl 9 1 (A0 ZA r))])]:=by
 refine fnk func192 rfl ?_;unfold Zac at h;simp only[fnS,f192,Zo,go_sem,seval];refine Zh h (fun i a st=>IV [(1,yM (.int .i64 n_1)),(5,.p false [.row 0]),(9,yM (yY r_0.cond)),(10,yL r_0.cond.length),(11,yL i)] [.row 9 1 (A0 ZA a) 2] st) [(false,5,0)] [112] yF yD ?_ ?_
 rintro _ _ a ⟨_,_,_⟩ _ b d f h _;simp only[go_sem,seval,Zb]at d;obtain ⟨⟨_,_,g,_,_⟩,_,hn⟩:=d;subst hn;have k:=WF.slotL f g (j:=0) rfl;have:=ZC b;have:=ZE b;have:=Zk (ZD b) k;simp only[*,go_sem,seval];iterate 2 refine yB h (fun _ h=>?_) fun _ h=>?_
 refine ZPO h fun _ l h=>Zd (Zep l) ?_
 obtain ⟨_,h⟩:=Zv h;simp only[*,go_sem,seval];exact yR h [321];exact yR h [0];exact yR h [0];rintro a ⟨_,_,_⟩ e _ h;simp only[go_sem,seval,Zb]at e;obtain ⟨⟨_,_,_,_,_⟩,_,hn⟩:=e;subst hn;have:=ZB (r_0.cond.length);simp only[*,go_sem,seval];refine ZPO h fun _ m h=>Zd (Qy m) ?_
 cases h;exact yD
theorem ZcA {x_0:Zl}{r:List ByteArray}(h:QI x_0=some r):Zm prog J0 246 [(true,ZJ x_0)] [(false,[(false,.sl 9 1 (A0 ZA r))])]:=by
 refine fnk func246 rfl ?_;unfold QI at h;simp only[fnS,f246,Zo,go_sem,seval];refine ZPO h fun v1 a h=>Zd (Zp2 a)<|yA ?_
 refine ZPO h fun _ b h=>Zd (Zep b)<|yA ?_
 refine ZPO h fun _ c h=>Zd (Qy c) ?_
 cases h;exact yD
theorem ZjT {facts_0:List Zc}{l_1:List Zc}{r:List Int}(h:ZdB facts_0 l_1=some r):Zm prog J0 217 [(false,[.sl 53 2 (A0 Zs facts_0)]),(false,[.sl 53 2 (A0 Zs l_1)])] [(false,[(false,.sl 3 1 (A0 ZO r))])]:=by
 refine fnk func217 rfl ?_;unfold ZdB at h;simp only[fnS,f217,Zo,go_sem,seval];refine Zh h (fun i a st=>IV [(0,yM (yT facts_0)),(5,.p false [.row 0]),(9,yM (yT l_1)),(10,yL l_1.length),(11,yL i)] [.row 3 1 (A0 ZO a) 2] st) [(false,5,0)] [80] yF yD ?_ ?_
 rintro _ _ a ⟨_,_,_⟩ _ b d f h _;simp only[go_sem,seval,Zb]at d;obtain ⟨⟨_,_,g,_,_⟩,_,hn⟩:=d;subst hn;have k:=WF.slotL f g (j:=0) rfl;have:=ZC b;have:=ZE b;have:=Zk (ZD b) k;simp only[*,go_sem,seval];refine ZPO h fun _ l h=>Zd (ZcD l)<|yA ?_
 refine yB h (fun _ h=>?_) fun _ h=>?_
 refine ZPO h fun _ m h=>Zd (Zrg m)<|yA ?_
 refine yB h (fun _ h=>?_) fun _ h=>?_
 exact yR h [0];obtain ⟨o,h⟩:=Zv h;try simp only[Nat.reduceLeDiff]at o
 simp only[*,go_sem,seval];exact yR h [321];exact yR h [0];rintro a ⟨_,_,_⟩ e _ h;simp only[go_sem,seval,Zb]at e;obtain ⟨⟨_,_,_,_,_⟩,_,hn⟩:=e;subst hn;have:=ZB (l_1.length);simp only[*,go_sem,seval];obtain ⟨_,q,h⟩:=Za h;refine Zwm (Zn5 q) ?_;cases h;exact yD
theorem ZoA {facts_0:List Zc}{b_1:Zt}{r:List Zc}(h:Zec facts_0 b_1=some r):Zm prog J0 128 [(false,[.sl 53 2 (A0 Zs facts_0)]),(true,Qu b_1)] [(false,[(false,.sl 53 2 (A0 Zs r))])]:=by
 refine fnk func128 rfl ?_;unfold Zec at h;simp only[fnS,f128,Zo,go_sem,seval];refine ZPO h fun v1 f h=>Zd (Zr4 f)<|yA ?_
 refine Zh h (fun i a st=>IV [(0,yM (yT facts_0)),(5,.p false [.row 0]),(9,.p false [.row 1]),(10,yL v1.length),(11,yL i)] [.row 53 2 (A0 Zs a) 2,.row 4 1 (A0 Ze4 v1) 2] st) [(false,5,0)] [112,64] yF yD ?_ ?_
 rintro _ _ a ⟨_,_,_⟩ _ b d g h _;simp only[go_sem,seval,Zb]at d;obtain ⟨⟨_,_,_,_,_⟩,_,j,hn⟩:=d;subst hn;have k:=WF.rowL g j;have:=ZC b;have:=ZE b;have:=Zk (ZD b) k;simp only[*,go_sem,seval];refine yB h (fun _ h=>?_) fun _ h=>?_
 obtain ⟨_,_,_,l,h⟩:=ZcM h;simp only[A7]at l;simp only[*,go_sem,seval];refine ZPO h fun _ m h=>Zd (YO m) ?_
 obtain ⟨o,h⟩:=Zv h;try simp only[Nat.reduceLeDiff]at o
 simp only[*,go_sem,seval];exact yR h [226,1];exact yR h [0,1];rintro a ⟨_,_,_⟩ e _ h;simp only[go_sem,seval,Zb]at e;obtain ⟨⟨_,_,_,_,_⟩,_,_,hn⟩:=e;subst hn;have:=ZB (v1.length);cases h;exact yD
theorem ZIo {b_0:List Zi}{aim_1:List Zi}{r:Bool}(h:ZHj b_0 aim_1=some r):Zm prog J0 148 [(false,[.sl 162 2 (A0 ZR b_0)]),(false,[.sl 162 2 (A0 ZR aim_1)])] [(false,[(false,.bool r)])]:=by
 refine fnk func148 rfl ?_;unfold ZHj at h;simp only[fnS,f148,Zo,go_sem,seval];refine Zh h (fun i _ st=>IV [(1,yM (yX aim_1)),(9,yM (yX b_0)),(10,yL b_0.length),(11,yL i)] [] st) [] [] yF yD ?_ ?_
 rintro _ _ ⟨⟩ ⟨_,_,_⟩ _ a b e h f;simp only[go_sem,seval,Zb]at b;obtain ⟨⟨_,g,_,_⟩,hn⟩:=b;subst hn;have k:=WF.slotL e g (j:=0) rfl;have:=ZC a;have:=ZE a;have:=Zk (ZD a) k;simp only[*,go_sem,seval];refine ZPO h fun _ l h=>Zd (Zdw l)<|yA ?_
 iterate 2 refine yB h (fun _ h=>?_) fun _ h=>?_
 exact yR h [];replace h:=Zr h f;cases h;exact yD;exact yR h [];rintro ⟨⟩ ⟨_,_,_⟩ d _ h;simp only[go_sem,seval,Zb]at d;obtain ⟨⟨_,_,_,_⟩,hn⟩:=d;subst hn;have:=ZB (b_0.length);cases h;exact yD
theorem ZKw {f_0:Zc}{r:ByteArray}(h:ZJg f_0=some r):Zm prog J0 117 [(true,Zs f_0)] [(false,[(false,.str r)])]:=by
 refine fnk func117 rfl ?_;unfold ZJg at h;have a:ZbS ⟨#[40]⟩=true:=by decide
 have b:ZbS ⟨#[41]⟩=true:=by decide
 have c:ZbS ⟨#[44]⟩=true:=by decide
 have d:ZbS ⟨#[]⟩=true:=by decide
 simp only[fnS,f117,Zo,go_sem,seval,a,b,c,d];refine ZPO h fun v1 e h=>Zd (Zlb e)<|yA ?_
 refine yB h (fun _ h=>?_) fun _ h=>?_
 obtain ⟨f,h⟩:=Zv h;simp only[go_sem]at f;simp only[*,go_sem,seval];refine ZPO h fun _ g h=>Zd (ZII g) ?_
 obtain ⟨i,h⟩:=Zv h;simp only[go_sem]at i;obtain ⟨j,h⟩:=Zv h;simp only[go_sem]at j;iterate 2 (cases h;exact yD)
theorem Zar {s_0:ByteArray}{r:Bool}(h:Zaq s_0=some r):Zm prog J0 165 [(false,[.str s_0])] [(false,[(false,.bool r)])]:=by
 refine fnk func165 rfl ?_;unfold Zaq at h;simp only[fnS,f165,Zo,go_sem,seval];refine ZPO h fun v1 a h=>Zd (QA a)<|yA ?_
 refine yB h (fun _ h=>?_) fun _ h=>?_
 cases h;exact yD;refine ZPO h fun _ b h=>Zd (Zah b) ?_
 cases h;exact yD
theorem Zc6 {p_0:Zx}{r:List ByteArray}(h:Zb5 p_0=some r):Zm prog J0 185 [(true,Qp p_0)] [(false,[(false,.sl 9 1 (A0 ZA r))])]:=by
 refine fnk func185 rfl ?_;unfold Zb5 at h;simp only[fnS,f185,Zo,go_sem,seval];refine Zh h (fun i a st=>IV [(1,.bp 0 0),(3,.p false [.row 1]),(4,yL i)] [.box 78 [.c (.str p_0.rel),.c (yU p_0.args)],.row 9 1 (A0 ZA a) 2] st) [] [0,32] yF yD ?_ ?_
 rintro _ _ a ⟨_,_,_⟩ _ b d f h _;simp only[go_sem,seval,Zb]at d;obtain ⟨⟨_,_,_⟩,g,_,hn⟩:=d;subst hn;have k:=WF.boxL f g (j:=1) rfl;have:=ZC b;have:=ZE b;have:=Zk (ZD b) k;simp only[*,go_sem,seval];refine ZPO h fun _ l h=>Zd (Zah l)<|yA ?_
 refine yB h (fun _ h=>?_) fun _ h=>?_
 refine ZPO h fun _ m h=>Zd (XF m)<|yA ?_
 exact yR h [0,274];exact yR h [0,1];rintro a ⟨_,_,_⟩ e _ h;simp only[go_sem,seval,Zb]at e;obtain ⟨⟨_,_,_⟩,_,_,hn⟩:=e;subst hn;have:=ZB (p_0.args.length);cases h;exact yD
theorem ZbQ {a_0:Zc}{b_1:Zc}{r:Int}(h:Xw a_0 b_1=some r):Zm prog J0 57 [(true,Zs a_0),(true,Zs b_1)] [(false,[(false,.int .i64 r)])]:=by
 refine fnk func57 rfl ?_;unfold Xw at h;simp only[fnS,f57,Zo,go_sem,seval];refine yB h (fun _ h=>?_) fun _ h=>?_
 refine Zh h (fun i _ st=>IV [(2,.bp 0 0),(3,.bp 1 0),(5,yL i)] [zD 53 (Zs a_0),zD 53 (Zs b_1)] st) [] [0,16] yF yD ?_ ?_
 rintro _ _ ⟨⟩ ⟨_,_,_⟩ _ a d f h b;simp only[go_sem,seval,Zb]at d;obtain ⟨⟨_,_,_⟩,g,_,hn⟩:=d;subst hn;have k:=WF.boxL f g (j:=1) rfl;have:=ZC a;have:=ZE a;have:=Zk (ZD a) k;simp only[*,go_sem,seval];refine yB h (fun _ h=>?_) fun _ h=>?_
 obtain ⟨_,_,_,l,h⟩:=ZcM h;simp only[A7]at l;simp only[*,go_sem,seval];refine ZPO h fun _ m h=>Zd (ZeI m)<|yA ?_
 refine yB h (fun _ h=>?_) fun _ h=>?_
 replace h:=Zr h b;cases h;exact yD;exact yR h [0,1];refine yB h (fun _ h=>?_) fun _ h=>?_
 replace h:=Zr h b;cases h;exact yD;refine yB h (fun _ h=>?_) fun _ h=>?_
 iterate 2 (replace h:=Zr h b;cases h;simp only[*,go_sem,seval])
 rintro ⟨⟩ ⟨_,_,_⟩ e _ h;simp only[go_sem,seval,Zb]at e;obtain ⟨⟨_,_,_⟩,_,_,hn⟩:=e;subst hn;have:=ZB (a_0.args.length);iterate 2 (simp only[*,go_sem,seval];(refine Ze h (fun _ h=>?_) fun _ h=>?_<;>try simp only[*,go_sem,seval]);cases h)
 simp only[*,go_sem,seval];cases h;exact yD;refine ZPO h fun _ o h=>Zd (Zmz o) ?_
 cases h;exact yD
theorem Zk1 {f_0:Zc}{r:Bool}(h:ZfR f_0=some r):Zm prog J0 43 [(true,Zs f_0)] [(false,[(false,.bool r)])]:=by
 refine fnk func43 rfl ?_;unfold ZfR at h;simp only[fnS,f43,Zo,go_sem,seval];refine Zh h (fun i _ st=>IV [(1,.bp 0 0),(3,yL i)] [zD 53 (Zs f_0)] st) [] [0] yF yD ?_ ?_
 rintro _ _ ⟨⟩ ⟨_,_,_⟩ _ a b e h f;simp only[go_sem,seval,Zb]at b;obtain ⟨⟨_,_⟩,g,hn⟩:=b;subst hn;have k:=WF.boxL e g (j:=1) rfl;have:=ZC a;have:=ZE a;have:=Zk (ZD a) k;simp only[*,go_sem,seval];refine ZPO h fun _ l h=>Zd (QA l)<|yA ?_
 refine yB h (fun _ h=>?_) fun _ h=>?_
 exact yR h [0];replace h:=Zr h f;cases h;exact yD;rintro ⟨⟩ ⟨_,_,_⟩ d _ h;simp only[go_sem,seval,Zb]at d;obtain ⟨⟨_,_⟩,_,hn⟩:=d;subst hn;have:=ZB (f_0.args.length);simp only[*,go_sem,seval];refine ZPO h fun _ m h=>Zd (Zg3 m)<|yA ?_
 refine yB h (fun _ h=>?_) fun _ h=>?_
 iterate 2 (cases h;exact yD)
theorem Zan {b_0:List Zi}{r:Bool}(h:XU b_0=some r):Zm prog J0 138 [(false,[.sl 162 2 (A0 ZR b_0)])] [(false,[(false,.bool r)])]:=by
 refine fnk func138 rfl ?_;unfold XU at h;simp only[fnS,f138,Zo,go_sem,seval];refine Zh h (fun i _ st=>IV [(0,yM (yX b_0)),(3,yL i)] [] st) [] [] yF yD ?_ ?_
 rintro _ _ ⟨⟩ ⟨_,_,_⟩ _ a b f h d;simp only[go_sem,seval,Zb]at b;obtain ⟨⟨g,_⟩,hn⟩:=b;subst hn;have k:=WF.slotL f g (j:=0) rfl;have:=ZC a;have:=ZE a;have:=Zk (ZD a) k;simp only[*,go_sem,seval];refine ZPO h fun _ l h=>Zd (Zah l)<|yA ?_
 refine yB h (fun _ h=>?_) fun _ h=>?_
 refine ZPO h fun _ m h=>Zd (QA m)<|yA ?_
 iterate 2 refine yB h (fun _ h=>?_) fun _ h=>?_
 obtain ⟨_,_,_,_,h⟩:=ZcM h;simp only[*,go_sem,seval];refine yB h (fun _ h=>?_) fun _ h=>?_
 exact yR h [];replace h:=Zr h d;cases h;exact yD;refine ⟨_,[],[],(A3 h).symm,yF,?_⟩;iterate 2 (simp only[*,go_sem,seval];replace h:=Zr h d;cases h)
 simp only[*,go_sem,seval];rintro ⟨⟩ ⟨_,_,_⟩ e _ h;simp only[go_sem,seval,Zb]at e;obtain ⟨⟨_,_⟩,hn⟩:=e;subst hn;have:=ZB (b_0.length);cases h;exact yD
theorem Zdu {b_0:List Zi}{term_1:ByteArray}{r:(ByteArray×Bool)}(h:Zbj b_0 term_1=some r):Zm prog J0 203 [(false,[.sl 162 2 (A0 ZR b_0)]),(false,[.str term_1])] [(false,[(false,.str r.1)]),(false,[(false,.bool r.2)])]:=by
 refine fnk func203 rfl ?_;unfold Zbj at h;have e:ZbS ⟨#[]⟩=true:=by decide
 simp only[fnS,f203,Zo,go_sem,seval,e];refine ZPO h fun v1 f h=>Zd (QA f)<|yA ?_
 refine yB h (fun _ h=>?_) fun _ h=>?_
 cases h;exact yD;refine Zh h (fun i _ st=>IV [(0,yM (yX b_0)),(1,yM (.str term_1)),(6,yL i)] [] st) [] [] yF yD ?_ ?_
 rintro _ _ ⟨⟩ ⟨_,_,_⟩ _ a b g h k;simp only[go_sem,seval,Zb]at b;obtain ⟨⟨l,_,_⟩,hn⟩:=b;subst hn;have m:=WF.slotL g l (j:=0) rfl;have:=ZC a;have:=ZE a;have:=Zk (ZD a) m;simp only[*,go_sem,seval];refine yB h (fun _ h=>?_) fun _ h=>?_
 refine ZPO h fun _ o h=>Zd (Zah o)<|yA ?_
 refine yB h (fun _ h=>?_) fun _ h=>?_
 replace h:=Zr h k;cases h;exact yD;exact yR h [];exact yR h [];rintro ⟨⟩ ⟨_,_,_⟩ d _ h;simp only[go_sem,seval,Zb]at d;obtain ⟨⟨_,_,_⟩,hn⟩:=d;subst hn;have:=ZB (b_0.length);cases h;exact yD
theorem ZrY {t_0:Zq}{r:Zq}(h:ZgP t_0=some r):Zm prog J0 244 [(true,YU t_0)] [(true,[(false,.sl 53 2 (A0 Zs r.facts)),(false,.sl 162 2 (A0 ZR r.binding))])]:=by
 refine fnk func244 rfl ?_;unfold ZgP at h;simp only[fnS,f244,Zo,go_sem,seval];refine ZPO h fun v1 a h=>Zd (Zfo a)<|yA ?_
 refine ZPO h fun _ b h=>Zd (ZeN b) ?_
 cases h;exact yD
end
section
theorem ZbH {append_0:Zx}{String_1:Zc}{a_2:List Zi}{r:((List Zi)×Bool)}(h:QF append_0 String_1 a_2=some r):Zm prog J0 86 [(true,Qp append_0),(true,Zs String_1),(false,[.sl 162 2 (A0 ZR a_2)])] [(false,[(false,.sl 162 2 (A0 ZR r.1))]),(false,[(false,.bool r.2)])]:=by
 refine fnk func86 rfl ?_;unfold QF at h;simp only[fnS,f86,Zo,go_sem,seval];refine ZPO h fun v1 g h=>Zd (Ql g)<|yA ?_
 refine yB h (fun _ h=>?_) fun _ h=>?_
 refine ZPO h fun _ k h=>Zd (Zlb k)<|yA ?_
 refine yB h (fun _ h=>?_) fun _ h=>?_
 refine ZPO h fun _ l h=>Zd (Zas l)<|yA ?_
 iterate 3 refine yB h (fun _ h=>?_) fun _ h=>?_
 cases h;exact yD;refine ZPO h fun _ m h=>Zd (Zhq m)<|yA ?_
 refine Zh h (fun i a st=>IV [(4,.bp 0 0),(8,.p false [.row 1]),(45,yM (yU append_0.args)),(46,yL append_0.args.length),(47,yL i)] [zD 53 (Zs String_1),.row 162 2 (A0 ZR a) 2] st) [] [16,544] yF yD ?_ ?_
 rintro _ _ a ⟨_,_,_⟩ _ b d o h e;simp only[go_sem,seval,Zb]at d;obtain ⟨⟨_,_,q,_,_⟩,_,_,hn⟩:=d;subst hn;have t:=WF.slotL o q (j:=0) rfl;have:=ZC b;have:=ZE b;have:=Zk (ZD b) t;simp only[*,go_sem,seval];refine ZPO h fun _ u h=>Zd (QG u)<|yA ?_
 refine yB h (fun _ h=>?_) fun _ h=>?_
 obtain ⟨_,_,_,v,h⟩:=ZcM h;simp only[A7]at v;simp only[*,go_sem,seval];refine yB h (fun _ h=>?_) fun _ h=>?_
 exact yR h [0,1];replace h:=Zr h e;cases h;exact yD;obtain ⟨_,_,_,w,h⟩:=ZcM h;simp only[A7]at w;simp only[*,go_sem,seval];refine ZPO h fun _ x h=>Zd (ZrV x)<|yA ?_
 refine yB h (fun _ h=>?_) fun _ h=>?_
 exact yR h [0,242];replace h:=Zr h e;cases h;exact yD;rintro a ⟨_,_,_⟩ f _ h;simp only[go_sem,seval,Zb]at f;obtain ⟨⟨_,_,_,_,_⟩,_,_,hn⟩:=f;subst hn;have:=ZB (append_0.args.length);iterate 5 (cases h;exact yD)
theorem ZhF {x_0:Zl}{r:Bool}(h:Zeh x_0=some r):Zm prog J0 149 [(true,ZJ x_0)] [(false,[(false,.bool r)])]:=by
 refine fnk func149 rfl ?_;unfold Zeh at h;have a:ZbS ⟨#[]⟩=true:=by decide
 simp only[fnS,f149,Zo,go_sem,seval,a];refine yB h (fun _ h=>?_) fun _ h=>?_
 refine ZPO h fun v1 b h=>Zd (Ql b)<|yA ?_
 iterate 2 refine yB h (fun _ h=>?_) fun _ h=>?_
 iterate 3 (cases h;exact yD)
 refine yB h (fun _ h=>?_) fun _ h=>?_
 refine ZPO h fun _ c h=>Zd (Ql c)<|yA ?_
 iterate 2 refine yB h (fun _ h=>?_) fun _ h=>?_
 iterate 3 (cases h;exact yD)
 refine yB h (fun _ h=>?_) fun _ h=>?_
 refine ZPO h fun _ d h=>Zd (Zap d)<|yA ?_
 refine yB h (fun _ h=>?_) fun _ h=>?_
 refine ZPO h fun _ e h=>Zd (Zap e)<|yA ?_
 refine yB h (fun _ h=>?_) fun _ h=>?_
 refine ZPO h fun _ f h=>Zd (ZaA f) ?_
 iterate 3 (cases h;exact yD)
 refine yB h (fun _ h=>?_) fun _ h=>?_
 refine ZPO h fun _ g h=>Zd (Zap g)<|yA ?_
 refine yB h (fun _ h=>?_) fun _ h=>?_
 refine ZPO h fun _ i h=>Zd (Zap i)<|yA ?_
 refine yB h (fun _ h=>?_) fun _ h=>?_
 refine ZPO h fun _ j h=>Zd (ZaA j) ?_
 iterate 3 (cases h;exact yD)
 refine yB h (fun _ h=>?_) fun _ h=>?_
 refine ZPO h fun _ k h=>Zd (Zap k)<|yA ?_
 refine yB h (fun _ h=>?_) fun _ h=>?_
 refine ZPO h fun _ l h=>Zd (Zap l)<|yA ?_
 refine yB h (fun _ h=>?_) fun _ h=>?_
 refine ZPO h fun _ m h=>Zd (ZaA m) ?_
 iterate 4 (cases h;exact yD)
theorem Zfi {p_0:Zx}{b_1:List Zi}{r:(Zc×Bool)}(h:QL p_0 b_1=some r):Zm prog J0 171 [(true,Qp p_0),(false,[.sl 162 2 (A0 ZR b_1)])] [(true,[(false,.str r.1.rel),(false,.sl 9 1 (A0 ZA r.1.args))]),(false,[(false,.bool r.2)])]:=by
 refine fnk func171 rfl ?_;unfold QL at h;simp only[fnS,f171,Zo,go_sem,seval];refine ZPO h fun v1 f h=>Zd (Ql f)<|yA ?_
 refine yB h (fun _ h=>?_) fun _ h=>?_
 refine ZPO h fun _ g h=>Zd (Zas g)<|yA ?_
 refine yB h (fun _ h=>?_) fun _ h=>?_
 refine Zh h (fun i a st=>IV [(1,yM (yX b_1)),(4,.bp 0 0),(6,.bp 1 0),(24,yM (yU p_0.args)),(25,yL p_0.args.length),(26,yL i)] [.box 53 [.c (.str ⟨#[]⟩),.nil 9 1],.box 53 [.c (.str p_0.rel),.row 2],.row 9 1 (A0 ZA a) 2] st) [(true,224,1)] [16,224,320] yF yD ?_ ?_
 rintro _ _ a ⟨_,_,_⟩ _ b d k h l;simp only[go_sem,seval,Zb]at d;obtain ⟨⟨_,_,_,m,_,_⟩,_,_,_,hn⟩:=d;subst hn;have o:=WF.slotL k m (j:=0) rfl;have:=ZC b;have:=ZE b;have:=Zk (ZD b) o;simp only[*,go_sem,seval];refine ZPO h fun _ q h=>Zd (Zdw q)<|yA ?_
 refine yB h (fun _ h=>?_) fun _ h=>?_
 obtain ⟨t,h⟩:=Zv h;try simp only[Nat.reduceLeDiff]at t
 simp only[*,go_sem,seval];exact yR h [0,1,291];replace h:=Zr h l;cases h;exact yD;rintro a ⟨_,_,_⟩ e _ h;simp only[go_sem,seval,Zb]at e;obtain ⟨⟨_,_,_,_,_,_⟩,_,_,_,hn⟩:=e;subst hn;have:=ZB (p_0.args.length);iterate 3 (cases h;exact yD)
theorem ZqA {a:List Zc}{f_1:Zc}{r:List Zc}(h:Qv a f_1=some r):Zm prog J0 113 [(false,[.sl 53 2 (A0 Zs a)]),(true,Zs f_1)] [(false,[(false,.sl 53 2 (A0 Zs r))])]:=by
 refine fnk func113 rfl ?_;unfold Qv at h;simp only[fnS,f113,Zo,go_sem,seval];refine Zh h (fun i s st=>match s with|(b,d)=>IV [(3,.bp 0 0),(5,.p false [.row 1]),(6,yM (.bool d)),(9,yM (yT a)),(10,yL a.length),(11,yL i)] [zD 53 (Zs f_1),.row 53 2 (A0 Zs b) 2] st) [(false,5,0)] [0,112] yF yD ?_ ?_
 rintro _ _ ⟨b,d⟩ ⟨_,_,_⟩ _ e f l h _;simp only[go_sem,seval,Zb]at f;obtain ⟨⟨_,_,_,m,_,_⟩,_,_,hn⟩:=f;subst hn;have o:=WF.slotL l m (j:=0) rfl;have:=ZC e;have:=ZE e;have:=Zk (ZD e) o;simp only[*,go_sem,seval];refine yB h (fun _ h=>?_) fun _ h=>?_
 refine ZPO h fun _ q h=>Zd (YO q) ?_
 obtain ⟨t,h⟩:=Zv h;try simp only[Nat.reduceLeDiff]at t
 simp only[*,go_sem,seval];exact yR h [0,274];refine ZPO h fun _ u h=>Zd (ZeY u)<|yA ?_
 refine yB h (fun _ h=>?_) fun _ h=>?_
 refine ZPO h fun _ v h=>Zd (YO v) ?_
 obtain ⟨w,h⟩:=Zv h;try simp only[Nat.reduceLeDiff]at w
 simp only[*,go_sem,seval];refine ZPO h fun _ x h=>Zd (YO x) ?_
 obtain ⟨y,h⟩:=Zv h;try simp only[Nat.reduceLeDiff]at y
 simp only[*,go_sem,seval];exact yR h [0,386];refine ZPO h fun _ z h=>Zd (YO z) ?_
 obtain ⟨A,h⟩:=Zv h;try simp only[Nat.reduceLeDiff]at A
 simp only[*,go_sem,seval];exact yR h [0,274];rintro ⟨b,d⟩ ⟨_,_,_⟩ g _ h;simp only[go_sem,seval,Zb]at g;obtain ⟨⟨_,_,_,_,_,_⟩,_,_,hn⟩:=g;subst hn;have:=ZB (a.length);simp only[*,go_sem,seval];refine yB h (fun _ h=>?_) fun _ h=>?_
 cases h;exact yD;refine ZPO h fun _ B h=>Zd (YO B) ?_
 obtain ⟨C,h⟩:=Zv h;try simp only[Nat.reduceLeDiff]at C
 cases h;exact yD
theorem Zhl {r_0:Zg}{k_1:Int}{v_2:ByteArray}{r:Bool}(h:XT r_0 k_1 v_2=some r):Zm prog J0 247 [(true,ZL r_0),(false,[.int .i64 k_1]),(false,[.str v_2])] [(false,[(false,.bool r)])]:=by
 refine fnk func247 rfl ?_;unfold XT at h;simp only[fnS,f247,Zo,go_sem,seval];refine Zh h (fun i _ st=>IV [(1,yM (.int .i64 k_1)),(2,yM (.str v_2)),(3,.bp 0 0),(12,yM (yY r_0.cond)),(13,yL r_0.cond.length),(14,yL i)] [zD 76 (ZL r_0)] st) [] [0] yF yD ?_ ?_
 rintro _ _ ⟨⟩ ⟨_,_,_⟩ _ a d k h l;simp only[go_sem,seval,Zb]at d;obtain ⟨⟨_,_,_,m,_,_⟩,_,hn⟩:=d;subst hn;have o:=WF.slotL k m (j:=0) rfl;have:=ZC a;have:=ZE a;have:=Zk (ZD a) o;simp only[*,go_sem,seval];refine yB h (fun _ h=>?_) fun _ h=>?_
 refine ZPO h fun _ q h=>Zd (ZcA q)<|yA ?_
 refine ZPO h fun _ t h=>Zd (ZaB t)<|yA ?_
 refine yB h (fun _ h=>?_) fun _ h=>?_
 replace h:=Zr h l;cases h;exact yD;exact yR h [0];exact yR h [0];rintro ⟨⟩ ⟨_,_,_⟩ e _ h;simp only[go_sem,seval,Zb]at e;obtain ⟨⟨_,_,_,_,_,_⟩,_,hn⟩:=e;subst hn;have:=ZB (r_0.cond.length);simp only[*,go_sem,seval];refine Zh h (fun i _ st=>IV [(2,yM (.str v_2)),(30,yM (yZ r_0.thn)),(31,yL r_0.thn.length),(32,yL i)] [] st) [] [] yF yD ?_ ?_
 rintro _ _ ⟨⟩ ⟨_,_,_⟩ _ b f u h v;simp only[go_sem,seval,Zb]at f;obtain ⟨⟨_,w,_,_⟩,hn⟩:=f;subst hn;have x:=WF.slotL u w (j:=0) rfl;have:=ZC b;have:=ZE b;have:=Zk (ZD b) x;simp only[*,go_sem,seval];refine ZPO h fun _ y h=>Zd (ZaB y)<|yA ?_
 refine yB h (fun _ h=>?_) fun _ h=>?_
 replace h:=Zr h v;cases h;exact yD;exact yR h [];rintro ⟨⟩ ⟨_,_,_⟩ g _ h;simp only[go_sem,seval,Zb]at g;obtain ⟨⟨_,_,_,_⟩,hn⟩:=g;subst hn;have:=ZB (r_0.thn.length);cases h;exact yD
theorem Zou {a_0:Zu}{r:Bool}(h:ZeA a_0=some r):Zm prog J0 193 [(true,ZI a_0)] [(false,[(false,.bool r)])]:=by
 refine fnk func193 rfl ?_;unfold ZeA at h;simp only[fnS,f193,Zo,go_sem,seval];refine yB h (fun _ h=>?_) fun _ h=>?_
 refine ZPO h fun v1 a h=>Zd (Ql a) ?_
 cases h;exact yD;refine yB h (fun _ h=>?_) fun _ h=>?_
 refine ZPO h fun _ b h=>Zd (Ql b) ?_
 cases h;exact yD;refine yB h (fun _ h=>?_) fun _ h=>?_
 refine ZPO h fun _ c h=>Zd (ZaA c) ?_
 iterate 2 (cases h;exact yD)
theorem ZlB {l_0:List Zl}{r:List ByteArray}(h:ZbK l_0=some r):Zm prog J0 197 [(false,[.sl 80 5 (A0 ZJ l_0)])] [(false,[(false,.sl 9 1 (A0 ZA r))])]:=by
 refine fnk func197 rfl ?_;unfold ZbK at h;simp only[fnS,f197,Zo,go_sem,seval];refine Zh h (fun i a st=>IV [(3,.p false [.row 0]),(6,yM (yY l_0)),(7,yL l_0.length),(8,yL i)] [.row 9 1 (A0 ZA a) 2] st) [(false,3,0)] [80] yF yD ?_ ?_
 rintro _ _ a ⟨_,_,_⟩ _ b d f h _;simp only[go_sem,seval,Zb]at d;obtain ⟨⟨_,g,_,_⟩,_,hn⟩:=d;subst hn;have k:=WF.slotL f g (j:=0) rfl;have:=ZC b;have:=ZE b;have:=Zk (ZD b) k;simp only[*,go_sem,seval];refine ZPO h fun _ l h=>Zd (ZcA l) ?_
 obtain ⟨_,h⟩:=Zv h;simp only[*,go_sem,seval];exact yR h [129];rintro a ⟨_,_,_⟩ e _ h;simp only[go_sem,seval,Zb]at e;obtain ⟨⟨_,_,_,_⟩,_,hn⟩:=e;subst hn;have:=ZB (l_0.length);cases h;exact yD
theorem Zom {l_0:List Zc}{r:Bool}(h:Zei l_0=some r):Zm prog J0 256 [(false,[.sl 53 2 (A0 Zs l_0)])] [(false,[(false,.bool r)])]:=by
 refine fnk func256 rfl ?_;unfold Zei at h;simp only[fnS,f256,Zo,go_sem,seval];refine yB h (fun _ h=>?_) fun _ h=>?_
 cases h;exact yD;refine Zh h (fun i _ st=>IV [(0,yM (yT l_0)),(8,yM (yT l_0)),(9,yL l_0.length),(10,yL i)] [] st) [] [] yF yD ?_ ?_
 rintro _ _ ⟨⟩ ⟨_,_,_⟩ _ a b f h d;simp only[go_sem,seval,Zb]at b;obtain ⟨⟨g,_,_,_⟩,hn⟩:=b;subst hn;have k:=WF.slotL f g (j:=0) rfl;have:=ZC a;have:=ZE a;have:=Zk (ZD a) k;simp only[*,go_sem,seval];refine ZPO h fun _ l h=>Zd (Zlb l)<|yA ?_
 iterate 2 refine yB h (fun _ h=>?_) fun _ h=>?_
 obtain ⟨_,_,_,_,h⟩:=ZcM h;simp only[*,go_sem,seval];refine ZPO h fun _ m h=>Zd (ZeY m)<|yA ?_
 refine yB h (fun _ h=>?_) fun _ h=>?_
 replace h:=Zr h d;cases h;exact yD;exact yR h [];exact yR h [];replace h:=Zr h d;cases h;exact yD;rintro ⟨⟩ ⟨_,_,_⟩ e _ h;simp only[go_sem,seval,Zb]at e;obtain ⟨⟨_,_,_,_⟩,hn⟩:=e;subst hn;have:=ZB (l_0.length);cases h;exact yD
theorem ZHc {p_0:Zx}{r:ByteArray}(h:ZGZ p_0=some r):Zm prog J0 150 [(true,Qp p_0)] [(false,[(false,.str r)])]:=by
 refine fnk func150 rfl ?_;unfold ZGZ at h;have a:ZbS ⟨#[40]⟩=true:=by decide
 have b:ZbS ⟨#[41]⟩=true:=by decide
 have c:ZbS ⟨#[44]⟩=true:=by decide
 have d:ZbS ⟨#[]⟩=true:=by decide
 simp only[fnS,f150,Zo,go_sem,seval,a,b,c,d];refine ZPO h fun v1 e h=>Zd (Ql e)<|yA ?_
 refine yB h (fun _ h=>?_) fun _ h=>?_
 obtain ⟨f,h⟩:=Zv h;simp only[go_sem]at f;simp only[*,go_sem,seval];refine ZPO h fun _ g h=>Zd (ZII g) ?_
 obtain ⟨i,h⟩:=Zv h;simp only[go_sem]at i;obtain ⟨j,h⟩:=Zv h;simp only[go_sem]at j;iterate 2 (cases h;exact yD)
theorem ZKW {s_0:ZzC}{r:ByteArray}(h:ZJi s_0=some r):Zm prog J0 58 [(true,ZF5 s_0)] [(false,[(false,.str r)])]:=by
 refine fnk func58 rfl ?_;unfold ZJi at h;have f:ZbS ⟨#[32,102,114,111,109]⟩=true:=by decide
 have g:ZbS ⟨#[32,103,105,118,101,110]⟩=true:=by decide
 have k:ZbS ⟨#[32,98,121,32]⟩=true:=by decide
 have l:ZbS ⟨#[32]⟩=true:=by decide
 have m:ZbS ⟨#[]⟩=true:=by decide
 simp only[fnS,f58,Zo,go_sem,seval,f,g,k,l,m];refine ZPO h fun v1 o h=>Zd (Zlb o)<|yA ?_
 refine yB h (fun _ h=>?_) fun _ h=>?_
 refine ZPO h fun _ q h=>Zd (ZKw q)<|yA ?_
 refine yB h (fun _ h=>?_) fun _ h=>?_
 obtain ⟨t,h⟩:=Zv h;simp only[go_sem]at t;cases h;exact yD;obtain ⟨u,h⟩:=Zv h;simp only[go_sem]at u;obtain ⟨v,h⟩:=Zv h;simp only[go_sem]at v;obtain ⟨w,h⟩:=Zv h;simp only[go_sem]at w;simp only[*,go_sem,seval];refine Zh h (fun i a st=>IV [(3,yM (.str a)),(25,yM (yV s_0.uses)),(26,yL s_0.uses.length),(27,yL i)] [] st) [] [] yF yD ?_ ?_
 rintro _ _ a ⟨_,_,_⟩ _ b d x h _;simp only[go_sem,seval,Zb]at d;obtain ⟨⟨_,y,_,_⟩,hn⟩:=d;subst hn;have z:=WF.slotL x y (j:=0) rfl;have:=ZC b;have:=ZE b;have:=Zk (ZD b) z;simp only[*,go_sem,seval];refine ZPO h fun _ A h=>Zd (Zmm A) ?_
 obtain ⟨B,h⟩:=Zv h;simp only[go_sem]at B;obtain ⟨C,h⟩:=Zv h;simp only[go_sem]at C;simp only[*,go_sem,seval];exact yR h [];rintro a ⟨_,_,_⟩ e _ h;simp only[go_sem,seval,Zb]at e;obtain ⟨⟨_,_,_,_⟩,hn⟩:=e;subst hn;have:=ZB (s_0.uses.length);iterate 2 (cases h;exact yD)
theorem Qk {p_0:Zx}{r:Bool}(h:Xq p_0=some r):Zm prog J0 137 [(true,Qp p_0)] [(false,[(false,.bool r)])]:=by
 refine fnk func137 rfl ?_;unfold Xq at h;simp only[fnS,f137,Zo,go_sem,seval];refine Zh h (fun i _ st=>IV [(1,.bp 0 0),(3,yL i)] [.box 78 [.c (.str p_0.rel),.c (yU p_0.args)]] st) [] [0] yF yD ?_ ?_
 rintro _ _ ⟨⟩ ⟨_,_,_⟩ _ a b e h f;simp only[go_sem,seval,Zb]at b;obtain ⟨⟨_,_⟩,g,hn⟩:=b;subst hn;have k:=WF.boxL e g (j:=1) rfl;have:=ZC a;have:=ZE a;have:=Zk (ZD a) k;simp only[*,go_sem,seval];refine ZPO h fun _ l h=>Zd (Zar l)<|yA ?_
 refine yB h (fun _ h=>?_) fun _ h=>?_
 exact yR h [0];replace h:=Zr h f;cases h;exact yD;rintro ⟨⟩ ⟨_,_,_⟩ d _ h;simp only[go_sem,seval,Zb]at d;obtain ⟨⟨_,_⟩,_,hn⟩:=d;subst hn;have:=ZB (p_0.args.length);simp only[*,go_sem,seval];refine ZPO h fun _ m h=>Zd (Zg3 m)<|yA ?_
 refine yB h (fun _ h=>?_) fun _ h=>?_
 iterate 2 (cases h;exact yD)
theorem ZbG {r_0:Zg}{n_1:Int}{r:List ByteArray}(h:QH r_0 n_1=some r):Zm prog J0 179 [(true,ZL r_0),(false,[.int .i64 n_1])] [(false,[(false,.sl 9 1 (A0 ZA r))])]:=by
 refine fnk func179 rfl ?_;unfold QH at h;simp only[fnS,f179,Zo,go_sem,seval];refine Zh h (fun i a st=>IV [(1,yM (.int .i64 n_1)),(2,.bp 0 0),(5,.p false [.row 1]),(6,yL i)] [zD 76 (ZL r_0),.row 9 1 (A0 ZA a) 2] st) [] [0,32] yF yD ?_ ?_
 rintro b _ a ⟨_,_,_⟩ _ d g q h t;simp only[go_sem,seval,Zb]at g;obtain ⟨⟨_,_,_,_⟩,u,_,hn⟩:=g;subst hn;have v:=WF.boxL q u (j:=2) rfl;have:=ZC d;have:=ZE d;have:=Zk (ZD d) v;simp only[*,go_sem,seval];iterate 2 refine yB h (fun _ h=>?_) fun _ h=>?_
 refine ZPO h fun k w h=>Zd (Zc6 w)<|yA ?_
 refine Zh h (fun i e st=>IV [(1,yM (.int .i64 n_1)),(2,.bp 0 0),(5,.p false [.row 1]),(6,yL b),(7,.p false [.row 2]),(8,yL i),(16,yL b),(17,yM (.int .i64 n_1)),(18,yM (.bool (decide ((b:Int)<n_1))))] [zD 76 (ZL r_0),.row 9 1 (A0 ZA e) 2,.row 9 1 (A0 ZA k) 2] st) [] [0,1,370] yF yD ?_ ?_
 rintro _ _ e ⟨_,_,_⟩ _ f l x h _;simp only[go_sem,seval,Zb]at l;obtain ⟨⟨_,_,_,_,_,_,_,_,_⟩,_,_,y,hn⟩:=l;subst hn;have z:=WF.rowL x y;have:=ZC f;have:=ZE f;have:=Zk (ZD f) z;simp only[*,go_sem,seval];refine ZPO h fun _ A h=>Zd (XF A)<|yA ?_
 exact yR h [0,147,2];rintro e ⟨_,_,_⟩ m _ h;simp only[go_sem,seval,Zb]at m;obtain ⟨⟨_,_,_,_,_,_,_,_,_⟩,_,_,_,hn⟩:=m;subst hn;have:=ZB (k.length);simp only[*,go_sem,seval];exact yR h [0,1];exact yR h [0,1];replace h:=Zr h t;cases h;exact yD;rintro a ⟨_,_,_⟩ o _ h;simp only[go_sem,seval,Zb]at o;obtain ⟨⟨_,_,_,_⟩,_,_,hn⟩:=o;subst hn;have:=ZB (r_0.cond.length);cases h;exact yD
theorem ZaP {x_0:Zl}{r:List ByteArray}(h:X3 x_0=some r):Zm prog J0 180 [(true,ZJ x_0)] [(false,[(false,.sl 9 1 (A0 ZA r))])]:=by
 refine fnk func180 rfl ?_;unfold X3 at h;simp only[fnS,f180,Zo,go_sem,seval];refine ZPO h fun v1 a h=>Zd (Zc6 a)<|yA ?_
 refine ZPO h fun _ b h=>Zd (Zah b)<|yA ?_
 refine yB h (fun _ h=>?_) fun _ h=>?_
 refine ZPO h fun _ c h=>Zd (XF c)<|yA ?_
 refine ZPO h fun _ d h=>Zd (Zah d)<|yA ?_
 refine yB h (fun _ h=>?_) fun _ h=>?_
 refine ZPO h fun _ e h=>Zd (XF e) ?_
 iterate 2 (cases h;exact yD)
 refine ZPO h fun _ f h=>Zd (Zah f)<|yA ?_
 refine yB h (fun _ h=>?_) fun _ h=>?_
 refine ZPO h fun _ g h=>Zd (XF g) ?_
 iterate 2 (cases h;exact yD)
end
section
theorem Zqg {r_0:Zg}{r:List ByteArray}(h:Zct r_0=some r):Zm prog J0 307 [(true,ZL r_0)] [(false,[(false,.sl 9 1 (A0 ZA r))])]:=by
 refine fnk func307 rfl ?_;unfold Zct at h;simp only[fnS,f307,Zo,go_sem,seval];refine Zh h (fun i a st=>IV [(1,.bp 0 0),(3,.p false [.row 1]),(4,yL i)] [zD 76 (ZL r_0),.row 9 1 (A0 ZA a) 2] st) [] [0,32] yF yD ?_ ?_
 rintro _ _ a ⟨_,_,_⟩ _ b d f h _;simp only[go_sem,seval,Zb]at d;obtain ⟨⟨_,_,_⟩,g,_,hn⟩:=d;subst hn;have k:=WF.boxL f g (j:=2) rfl;have:=ZC b;have:=ZE b;have:=Zk (ZD b) k;simp only[*,go_sem,seval];refine yB h (fun _ h=>?_) fun _ h=>?_
 refine ZPO h fun _ l h=>Zd (XF l)<|yA ?_
 exact yR h [0,466];refine yB h (fun _ h=>?_) fun _ h=>?_
 refine ZPO h fun _ m h=>Zd (XF m)<|yA ?_
 exact yR h [0,466];exact yR h [0,1];rintro a ⟨_,_,_⟩ e _ h;simp only[go_sem,seval,Zb]at e;obtain ⟨⟨_,_,_⟩,_,_,hn⟩:=e;subst hn;have:=ZB (r_0.cond.length);cases h;exact yD
theorem ZrW {a_0:Zc}{b_1:Zc}{r:Bool}(h:Zm2 a_0 b_1=some r):Zm prog J0 136 [(true,Zs a_0),(true,Zs b_1)] [(false,[(false,.bool r)])]:=by
 refine fnk func136 rfl ?_;unfold Zm2 at h;simp only[fnS,f136,Zo,go_sem,seval];refine yB h (fun _ h=>?_) fun _ h=>?_
 refine ZPO h fun v1 a h=>Zd (Zks a) ?_
 iterate 2 (cases h;exact yD)
theorem ZqY {l_0:List Zf}{r_1:Zf}{r:Int}(h:Zfz l_0 r_1=some r):Zm prog J0 212 [(false,[.sl 179 3 (A0 ZG l_0)]),(true,ZG r_1)] [(false,[(false,.int .i64 r)])]:=by
 refine fnk func212 rfl ?_;unfold Zfz at h;simp only[fnS,f212,Zo,go_sem,seval];refine Zh h (fun i _ st=>IV [(0,yM (zA l_0)),(3,.bp 0 0),(5,yL i)] [zD 179 (ZG r_1)] st) [] [0] yF yD ?_ ?_
 rintro _ _ ⟨⟩ ⟨_,_,_⟩ _ a b e h f;simp only[go_sem,seval,Zb]at b;obtain ⟨⟨g,_,_⟩,_,hn⟩:=b;subst hn;have k:=WF.slotL e g (j:=0) rfl;have:=ZC a;have:=ZE a;have:=Zk (ZD a) k;simp only[*,go_sem,seval];refine yB h (fun _ h=>?_) fun _ h=>?_
 refine ZPO h fun _ l h=>Zd (Zgz l)<|yA ?_
 refine yB h (fun _ h=>?_) fun _ h=>?_
 refine ZPO h fun _ m h=>Zd (Zgz m)<|yA ?_
 refine yB h (fun _ h=>?_) fun _ h=>?_
 replace h:=Zr h f;cases h;exact yD;exact yR h [0];exact yR h [0];exact yR h [0];rintro ⟨⟩ ⟨_,_,_⟩ d _ h;simp only[go_sem,seval,Zb]at d;obtain ⟨⟨_,_,_⟩,_,hn⟩:=d;subst hn;have:=ZB (l_0.length);cases h;exact yD
theorem ZjJ {l_0:List Int}{n_1:Int}{r:Bool}(h:Zci l_0 n_1=some r):Zm prog J0 331 [(false,[.sl 3 1 (A0 ZO l_0)]),(false,[.int .i64 n_1])] [(false,[(false,.bool r)])]:=by
 refine fnk func331 rfl ?_;unfold Zci at h;simp only[fnS,f331,Zo,go_sem,seval];refine Zh h (fun i _ st=>IV [(0,yM (yV l_0)),(1,yM (.int .i64 n_1)),(5,yL i)] [] st) [] [] yF yD ?_ ?_
 rintro _ _ ⟨⟩ ⟨_,_,_⟩ _ a b f h d;simp only[go_sem,seval,Zb]at b;obtain ⟨⟨g,_,_⟩,hn⟩:=b;subst hn;have k:=WF.slotL f g (j:=0) rfl;have:=ZC a;have:=ZE a;have:=Zk (ZD a) k;simp only[*,go_sem,seval];refine ZPO h fun _ l h=>Zd (XM l)<|yA ?_
 iterate 2 refine yB h (fun _ h=>?_) fun _ h=>?_
 obtain ⟨_,_,_,_,h⟩:=ZcM h;simp only[*,go_sem,seval];refine yB h (fun _ h=>?_) fun _ h=>?_
 replace h:=Zr h d;cases h;exact yD;exact yR h [];exact yR h [];replace h:=Zr h d;cases h;exact yD;rintro ⟨⟩ ⟨_,_,_⟩ e _ h;simp only[go_sem,seval,Zb]at e;obtain ⟨⟨_,_,_⟩,hn⟩:=e;subst hn;have:=ZB (l_0.length);cases h;exact yD
theorem Zos {a:Zt}{String_1:Int}{r:List Bool}(h:ZdN a String_1=some r):Zm prog J0 309 [(true,Qu a),(false,[.int .i64 String_1])] [(false,[(false,.sl 4 1 (A0 Ze4 r))])]:=by
 refine fnk func309 rfl ?_;unfold ZdN at h;simp only[fnS,f309,Zo,go_sem,seval];obtain ⟨_,h⟩:=Zv h;simp only[*,go_sem,seval];refine Xj h (fun s st=>match s with|(l,m,d)=>IV [(2,.bp 0 0),(5,.p false [.row 1]),(6,.p false [.row 2]),(7,yM (.int .i64 d))] [.box 140 [.c (.int .i64 a.nodes),.c (zA a.reasons)],.row 4 1 (A0 Ze4 l) 2,.row 3 1 (A0 ZO m) 2] st) [] [0,64,112] yF yD ?_
 rintro ⟨l,m,d⟩ ⟨_,_,_⟩ _ o _ h z;simp only[go_sem,seval,Zb]at o;obtain ⟨⟨_,_,_,_⟩,_,_,_,hn⟩:=o;subst hn;simp only[*,go_sem,seval];refine yB h (fun _ h=>?_) fun _ h=>?_
 refine Zh h (fun i s st=>match s with|(e,f)=>IV [(2,.bp 0 0),(5,.p false [.row 1]),(6,.p false [.row 2]),(7,yM (.int .i64 d)),(8,yL i)] [.box 140 [.c (.int .i64 a.nodes),.c (zA a.reasons)],.row 4 1 (A0 Ze4 e) 2,.row 3 1 (A0 ZO f) 2] st) [] [0,1,2] yF yD ?_ ?_
 rintro A q ⟨e,f⟩ ⟨_,_,_⟩ _ g t B h _;simp only[go_sem,seval,Zb]at t;obtain ⟨⟨_,_,_,_,_⟩,C,_,_,hn⟩:=t;subst hn;have D:=WF.boxL B C (j:=1) rfl;have:=ZC g;have:=ZE g;have:=Zk (ZD g) D;obtain ⟨_,h⟩:=Zv h;obtain ⟨_,_,h⟩:=Za h;simp only[*,go_sem,seval];refine yB h (fun _ h=>?_) fun _ h=>?_
 exact yR h [0,1,2];refine ZPO h fun u E h=>Zd (Zq8 E) ?_
 obtain ⟨_,h⟩:=Zv h;simp only[*,go_sem,seval];refine Xj h (fun s st=>match s with|(v,w,k)=>IV [(2,.bp 0 0),(5,.p false [.row 1]),(6,.p false [.row 2]),(7,yM (.int .i64 d)),(8,yL A),(9,.p false [.row 3]),(10,yM (.int .i64 k))] [.box 140 [.c (.int .i64 a.nodes),.c (zA a.reasons)],.row 4 1 (A0 Ze4 v) 2,.row 3 1 (A0 ZO w) 2,.row 3 1 (A0 ZO (u++q.outs)) 2] st) [] [0,1,2,467] yF yD ?_
 rintro ⟨v,w,k⟩ ⟨_,_,_⟩ _ x _ h F;simp only[go_sem,seval,Zb]at x;obtain ⟨⟨_,_,_,_,_,_,_⟩,_,_,_,_,hn⟩:=x;subst hn;simp only[*,go_sem,seval];refine yB h (fun _ h=>?_) fun _ h=>?_
 obtain ⟨_,h⟩:=Zv h;obtain ⟨G,H,h⟩:=Za h;have J:(A0 ZO u++A0 ZO q.outs)[(Int.toNat k)]?=some (ZO G):=by rw [<-List.map_append,List.getElem?_map,H];rfl
 obtain ⟨_,h⟩:=Zv h;obtain ⟨_,_,h⟩:=Za h;simp only[*,go_sem,seval];refine yB h (fun _ h=>?_) fun _ h=>?_
 exact yR h [0,1,2,3];obtain ⟨I,h⟩:=Zv h;try simp only[Nat.reduceLeDiff]at I
 simp only[*,go_sem,seval];exact yR h [0,1,404,3];replace h:=Zr h F;exact yR h [0,1,2];rintro ⟨e,f⟩ ⟨_,_,_⟩ y _ h;simp only[go_sem,seval,Zb]at y;obtain ⟨⟨_,_,_,_,_⟩,_,_,_,hn⟩:=y;subst hn;have:=ZB (a.reasons.length);simp only[*,go_sem,seval];exact yR h [0,1,2];replace h:=Zr h z;cases h;exact yD
theorem ZiI {b:Zt}{e:List Int}{f:Int}{d:List Int}{g:Int}{r:List Int}(h:Zce b e f d g=some r):Zm prog J0 278 [(true,Qu b),(false,[.sl 3 1 (A0 ZO e)]),(false,[.int .i64 f]),(false,[.sl 3 1 (A0 ZO d)]),(false,[.int .i64 g])] [(false,[(false,.sl 3 1 (A0 ZO r))])]:=by
 refine fnk func278 rfl ?_;unfold Zce at h;simp only[fnS,f278,Zo,go_sem,seval];refine Xj h (fun s st=>match s with|(l,k)=>IV [(1,yM (yV e)),(2,yM (.int .i64 f)),(3,yM (yV d)),(4,yM (.int .i64 g)),(5,.bp 0 0),(11,.p false [.row 1]),(12,yM (.int .i64 k))] [.box 140 [.c (.int .i64 b.nodes),.c (zA b.reasons)],.row 3 1 (A0 ZO l) 2] st) [] [0,32] yF yD ?_
 rintro ⟨l,k⟩ ⟨_,_,_⟩ _ o _ h v;simp only[go_sem,seval,Zb]at o;obtain ⟨⟨_,_,_,_,_,_,_⟩,_,_,hn⟩:=o;subst hn;simp only[*,go_sem,seval];refine yB h (fun _ h=>?_) fun _ h=>?_
 obtain ⟨_,_,_,_,h⟩:=ZcM h;simp only[*,go_sem,seval];refine yB h (fun _ h=>?_) fun _ h=>?_
 exact yR h [0,1];obtain ⟨q,_,_,_,h⟩:=ZcM h;simp only[*,go_sem,seval];refine yB h (fun _ h=>?_) fun _ h=>?_
 exact yR h [0,1];refine Zh h (fun i _ st=>IV [(1,yM (yV e)),(2,yM (.int .i64 f)),(3,yM (yV d)),(4,yM (.int .i64 g)),(5,.bp 0 0),(11,.p false [.row 1]),(12,yM (.int .i64 k)),(13,yL i),(29,yM (yV d)),(30,yM (.int .i64 k)),(32,yM (.int .i64 q)),(33,yM (.bool (decide (0<=q))))] [.box 140 [.c (.int .i64 b.nodes),.c (zA b.reasons)],.row 3 1 (A0 ZO l) 2] st) [] [0,1] yF yD ?_ ?_
 rintro _ _ ⟨⟩ ⟨_,_,_⟩ _ m t w h x;simp only[go_sem,seval,Zb]at t;obtain ⟨⟨_,_,_,_,_,_,_,_,_,_,_,_⟩,y,_,hn⟩:=t;subst hn;have z:=WF.boxL w y (j:=1) rfl;have:=ZC m;have:=ZE m;have:=Zk (ZD m) z;simp only[*,go_sem,seval];refine yB h (fun _ h=>?_) fun _ h=>?_
 refine ZPO h fun _ A h=>Zd (ZmL A)<|yA ?_
 refine yB h (fun _ h=>?_) fun _ h=>?_
 refine ZPO h fun _ B h=>Zd (Zqc B)<|yA ?_
 refine yB h (fun _ h=>?_) fun _ h=>?_
 obtain ⟨C,h⟩:=Zv h;try simp only[Nat.reduceLeDiff]at C
 replace h:=Zr h x;simp only[*,go_sem,seval];exact yR h [0,514];exact yR h [0,1];exact yR h [0,1];exact yR h [0,1];rintro ⟨⟩ ⟨_,_,_⟩ u _ h;simp only[go_sem,seval,Zb]at u;obtain ⟨⟨_,_,_,_,_,_,_,_,_,_,_,_⟩,_,_,hn⟩:=u;subst hn;have:=ZB (b.reasons.length);simp only[*,go_sem,seval];exact yR h [0,1];replace h:=Zr h v;cases h;exact yD
theorem ZLl {l_0:List Int}{r:ByteArray}(h:ZJG l_0=some r):Zm prog J0 156 [(false,[.sl 3 1 (A0 ZO l_0)])] [(false,[(false,.str r)])]:=by
 refine fnk func156 rfl ?_;unfold ZJG at h;have f:ZbS ⟨#[32]⟩=true:=by decide
 have g:ZbS ⟨#[]⟩=true:=by decide
 simp only[fnS,f156,Zo,go_sem,seval,f,g];refine Zh h (fun i a st=>IV [(0,yM (yV l_0)),(3,yM (.str a)),(4,yL i)] [] st) [] [] yF yD ?_ ?_
 rintro _ _ a ⟨_,_,_⟩ _ b d k h _;simp only[go_sem,seval,Zb]at d;obtain ⟨⟨l,_,_⟩,hn⟩:=d;subst hn;have m:=WF.slotL k l (j:=0) rfl;have:=ZC b;have:=ZE b;have:=Zk (ZD b) m;obtain ⟨o,h⟩:=Zv h;simp only[go_sem]at o;simp only[*,go_sem,seval];refine ZPO h fun _ q h=>Zd (ZmT q) ?_
 obtain ⟨t,h⟩:=Zv h;simp only[go_sem]at t;simp only[*,go_sem,seval];exact yR h [];rintro a ⟨_,_,_⟩ e _ h;simp only[go_sem,seval,Zb]at e;obtain ⟨⟨_,_,_⟩,hn⟩:=e;subst hn;have:=ZB (l_0.length);cases h;exact yD
theorem ZJX {x_0:Zwt}{r:ByteArray}(h:ZJb x_0=some r):Zm prog J0 93 [(true,ZzG x_0)] [(false,[(false,.str r)])]:=by
 refine fnk func93 rfl ?_;unfold ZJb at h;have a:ZbS ⟨#[32]⟩=true:=by decide
 have b:ZbS ⟨#[]⟩=true:=by decide
 simp only[fnS,f93,Zo,go_sem,seval,a,b];obtain ⟨c,h⟩:=Zv h;simp only[go_sem]at c;simp only[*,go_sem,seval];refine ZPO h fun v1 d h=>Zd (ZmT d) ?_
 obtain ⟨e,h⟩:=Zv h;simp only[go_sem]at e;obtain ⟨f,h⟩:=Zv h;simp only[go_sem]at f;obtain ⟨g,h⟩:=Zv h;simp only[go_sem]at g;cases h;exact yD
end
section
theorem ZlL {a:List Zg}{String_1:ByteArray}{b:ByteArray}{r:Bool}(h:Zb2 a String_1 b=some r):Zm prog J0 273 [(false,[.sl 76 4 (A0 ZL a)]),(false,[.str String_1]),(false,[.str b])] [(false,[(false,.bool r)])]:=by
 refine fnk func273 rfl ?_;unfold Zb2 at h;simp only[fnS,f273,Zo,go_sem,seval];refine Xj h (fun s st=>match s with|(m,e)=>IV [(0,yM (yW a)),(2,yM (.str b)),(7,.p false [.row 0]),(8,yM (.int .i64 e))] [.row 9 1 (A0 ZA m) 2] st) [] [32] yF yD ?_
 rintro ⟨m,e⟩ ⟨_,_,_⟩ _ o _ h q;simp only[go_sem,seval,Zb]at o;obtain ⟨⟨_,_,_,_⟩,_,hn⟩:=o;subst hn;simp only[*,go_sem,seval];refine yB h (fun _ h=>?_) fun _ h=>?_
 refine Zh h (fun i f st=>IV [(0,yM (yW a)),(2,yM (.str b)),(7,.p false [.row 0]),(8,yM (.int .i64 e)),(9,yL i)] [.row 9 1 (A0 ZA f) 2] st) [] [0] yF yD ?_ ?_
 rintro y _ f ⟨_,_,_⟩ _ g t z h A;simp only[go_sem,seval,Zb]at t;obtain ⟨⟨B,_,_,_,_⟩,_,hn⟩:=t;subst hn;have C:=WF.slotL z B (j:=0) rfl;have:=ZC g;have:=ZE g;have:=Zk (ZD g) C;simp only[*,go_sem,seval];refine ZPO h fun _ D h=>Zd (Zij D) ?_
 obtain ⟨_,h⟩:=Zv h;obtain ⟨_,_,h⟩:=Za h;simp only[*,go_sem,seval];refine ZPO h fun _ E h=>Zd (YQ E)<|yA ?_
 refine yB h (fun _ h=>?_) fun _ h=>?_
 refine ZPO h fun u F h=>Zd (Zqg F)<|yA ?_
 refine ZPO h fun _ G h=>Zd (YQ G)<|yA ?_
 refine yB h (fun _ h=>?_) fun _ h=>?_
 replace h:=Zr h A;replace h:=Zr h q;cases h;exact yD;refine Zh h (fun i k st=>IV [(0,yM (yW a)),(2,yM (.str b)),(7,.p false [.row 0]),(8,yM (.int .i64 e)),(9,yL y),(10,.p false [.row 1]),(11,yL i)] [.row 9 1 (A0 ZA k) 2,.row 9 1 (A0 ZA u) 2] st) [] [0,305] yF yD ?_ ?_
 rintro _ _ k ⟨_,_,_⟩ _ l v H h _;simp only[go_sem,seval,Zb]at v;obtain ⟨⟨_,_,_,_,_,_,_⟩,_,I,hn⟩:=v;subst hn;have J:=WF.rowL H I;have:=ZC l;have:=ZE l;have:=Zk (ZD l) J;simp only[*,go_sem,seval];refine ZPO h fun _ K h=>Zd (YQ K)<|yA ?_
 refine yB h (fun _ h=>?_) fun _ h=>?_
 exact yR h [0,1];obtain ⟨L,h⟩:=Zv h;try simp only[Nat.reduceLeDiff]at L
 simp only[*,go_sem,seval];exact yR h [274,1];rintro k ⟨_,_,_⟩ w _ h;simp only[go_sem,seval,Zb]at w;obtain ⟨⟨_,_,_,_,_,_,_⟩,_,_,hn⟩:=w;subst hn;have:=ZB (u.length);simp only[*,go_sem,seval];exact yR h [0];exact yR h [0];rintro f ⟨_,_,_⟩ x _ h;simp only[go_sem,seval,Zb]at x;obtain ⟨⟨_,_,_,_,_⟩,_,hn⟩:=x;subst hn;have:=ZB (a.length);simp only[*,go_sem,seval];exact yR h [0];replace h:=Zr h q;cases h;exact yD
theorem Zfa {l_0:List Zc}{f_1:Zc}{r:Int}(h:Zbb l_0 f_1=some r):Zm prog J0 80 [(false,[.sl 53 2 (A0 Zs l_0)]),(true,Zs f_1)] [(false,[(false,.int .i64 r)])]:=by
 refine fnk func80 rfl ?_;unfold Zbb at h;simp only[fnS,f80,Zo,go_sem,seval];refine Zh h (fun i _ st=>IV [(0,yM (yT l_0)),(3,.bp 0 0),(5,yL i)] [zD 53 (Zs f_1)] st) [] [0] yF yD ?_ ?_
 rintro _ _ ⟨⟩ ⟨_,_,_⟩ _ a b e h f;simp only[go_sem,seval,Zb]at b;obtain ⟨⟨g,_,_⟩,_,hn⟩:=b;subst hn;have k:=WF.slotL e g (j:=0) rfl;have:=ZC a;have:=ZE a;have:=Zk (ZD a) k;simp only[*,go_sem,seval];refine ZPO h fun _ l h=>Zd (ZrW l)<|yA ?_
 refine yB h (fun _ h=>?_) fun _ h=>?_
 replace h:=Zr h f;cases h;exact yD;exact yR h [0];rintro ⟨⟩ ⟨_,_,_⟩ d _ h;simp only[go_sem,seval,Zb]at d;obtain ⟨⟨_,_,_⟩,_,hn⟩:=d;subst hn;have:=ZB (l_0.length);cases h;exact yD
theorem ZnW {b_0:Zt}{r:Bool}(h:ZcJ b_0=some r):Zm prog J0 308 [(true,Qu b_0)] [(false,[(false,.bool r)])]:=by
 refine fnk func308 rfl ?_;unfold ZcJ at h;simp only[fnS,f308,Zo,go_sem,seval];refine Zh h (fun i _ st=>IV [(1,.bp 0 0),(3,yL i)] [.box 140 [.c (.int .i64 b_0.nodes),.c (zA b_0.reasons)]] st) [] [0] yF yD ?_ ?_
 rintro _ _ ⟨⟩ ⟨_,_,_⟩ _ a b e h f;simp only[go_sem,seval,Zb]at b;obtain ⟨⟨_,_⟩,g,hn⟩:=b;subst hn;have k:=WF.boxL e g (j:=1) rfl;have:=ZC a;have:=ZE a;have:=Zk (ZD a) k;simp only[*,go_sem,seval];refine ZPO h fun _ l h=>Zd (XM l)<|yA ?_
 refine yB h (fun _ h=>?_) fun _ h=>?_
 refine ZPO h fun _ m h=>Zd (ZjJ m)<|yA ?_
 refine yB h (fun _ h=>?_) fun _ h=>?_
 refine ZPO h fun _ o h=>Zd (ZjJ o)<|yA ?_
 refine yB h (fun _ h=>?_) fun _ h=>?_
 refine ⟨_,[],[0],(A3 h).symm,yF,?_⟩;iterate 3 (simp only[*,go_sem,seval];replace h:=Zr h f;cases h)
 simp only[*,go_sem,seval];rintro ⟨⟩ ⟨_,_,_⟩ d _ h;simp only[go_sem,seval,Zb]at d;obtain ⟨⟨_,_⟩,_,hn⟩:=d;subst hn;have:=ZB (b_0.reasons.length);simp only[*,go_sem,seval];refine ZPO h fun _ q h=>Zd (XM q)<|yA ?_
 refine yB h (fun _ h=>?_) fun _ h=>?_
 iterate 2 (cases h;exact yD)
theorem ZKV {steps_0:List ZzC}{f_1:Zc}{r:Int}(h:ZJC steps_0 f_1=some r):Zm prog J0 154 [(false,[.sl 88 4 (A0 ZF5 steps_0)]),(true,Zs f_1)] [(false,[(false,.int .i64 r)])]:=by
 refine fnk func154 rfl ?_;unfold ZJC at h;simp only[fnS,f154,Zo,go_sem,seval];refine Zh h (fun i _ st=>IV [(0,yM (zC steps_0)),(3,.bp 0 0),(5,yL i)] [zD 53 (Zs f_1)] st) [] [0] yF yD ?_ ?_
 rintro _ _ ⟨⟩ ⟨_,_,_⟩ _ a b e h f;simp only[go_sem,seval,Zb]at b;obtain ⟨⟨g,_,_⟩,_,hn⟩:=b;subst hn;have k:=WF.slotL e g (j:=0) rfl;have:=ZC a;have:=ZE a;have:=Zk (ZD a) k;simp only[*,go_sem,seval];refine ZPO h fun _ l h=>Zd (ZrW l)<|yA ?_
 refine yB h (fun _ h=>?_) fun _ h=>?_
 replace h:=Zr h f;cases h;exact yD;exact yR h [0];rintro ⟨⟩ ⟨_,_,_⟩ d _ h;simp only[go_sem,seval,Zb]at d;obtain ⟨⟨_,_,_⟩,_,hn⟩:=d;subst hn;have:=ZB (steps_0.length);cases h;exact yD
end
section
theorem ZiF {l_0:List Zc}{facts_1:List Zc}{r:List Int}(h:Zcn l_0 facts_1=some r):Zm prog J0 251 [(false,[.sl 53 2 (A0 Zs l_0)]),(false,[.sl 53 2 (A0 Zs facts_1)])] [(false,[(false,.sl 3 1 (A0 ZO r))])]:=by
 refine fnk func251 rfl ?_;unfold Zcn at h;simp only[fnS,f251,Zo,go_sem,seval];refine Zh h (fun i a st=>IV [(0,yM (yT l_0)),(1,yM (yT facts_1)),(5,.p false [.row 0]),(6,yL i)] [.row 3 1 (A0 ZO a) 2] st) [] [16] yF yD ?_ ?_
 rintro _ _ a ⟨_,_,_⟩ _ b d f h _;simp only[go_sem,seval,Zb]at d;obtain ⟨⟨_,g,_,_⟩,_,hn⟩:=d;subst hn;have k:=WF.slotL f g (j:=0) rfl;have:=ZC b;have:=ZE b;have:=Zk (ZD b) k;simp only[*,go_sem,seval];refine ZPO h fun _ l h=>Zd (Zfa l)<|yA ?_
 refine yB h (fun _ h=>?_) fun _ h=>?_
 refine ZPO h fun _ m h=>Zd (ZsW m)<|yA ?_
 exact yR h [241];exact yR h [0];rintro a ⟨_,_,_⟩ e _ h;simp only[go_sem,seval,Zb]at e;obtain ⟨⟨_,_,_,_⟩,_,hn⟩:=e;subst hn;have:=ZB (facts_1.length);cases h;exact yD
theorem ZeL {b_0:Zt}{r:Bool}(h:Qx b_0=some r):Zm prog J0 276 [(true,Qu b_0)] [(false,[(false,.bool r)])]:=by
 refine fnk func276 rfl ?_;unfold Qx at h;simp only[fnS,f276,Zo,go_sem,seval];refine ZPO h fun v1 o h=>Zd (ZnW o)<|yA ?_
 refine yB h (fun _ h=>?_) fun _ h=>?_
 refine Zh h (fun i _ st=>IV [(1,.bp 0 0),(3,yL i)] [.box 140 [.c (.int .i64 b_0.nodes),.c (zA b_0.reasons)]] st) [] [0] yF yD ?_ ?_
 rintro q d ⟨⟩ ⟨_,_,_⟩ _ a e t h f;simp only[go_sem,seval,Zb]at e;obtain ⟨⟨_,_⟩,u,hn⟩:=e;subst hn;have v:=WF.boxL t u (j:=1) rfl;have:=ZC a;have:=ZE a;have:=Zk (ZD a) v;simp only[*,go_sem,seval];refine Zh h (fun i _ st=>IV [(1,.bp 0 0),(3,yL q),(4,yM (.int .i64 d.for_)),(5,yL i)] [.box 140 [.c (.int .i64 b_0.nodes),.c (zA b_0.reasons)]] st) [] [0] yF yD ?_ ?_
 rintro _ _ ⟨⟩ ⟨_,_,_⟩ _ b g w h k;simp only[go_sem,seval,Zb]at g;obtain ⟨⟨_,_,_,_⟩,x,hn⟩:=g;subst hn;have y:=WF.elL (WF.boxD w x (j:=1) rfl) a (j:=2) rfl;have:=ZC b;have:=ZE b;have:=Zk (ZD b) y;simp only[*,go_sem,seval];refine yB h (fun _ h=>?_) fun _ h=>?_
 replace h:=Zr h k;replace h:=Zr h f;cases h;exact yD;refine ZPO h fun _ z h=>Zd (Zos z) ?_
 obtain ⟨_,h⟩:=Zv h;obtain ⟨_,_,h⟩:=Za h;simp only[*,go_sem,seval];refine yB h (fun _ h=>?_) fun _ h=>?_
 replace h:=Zr h k;replace h:=Zr h f;cases h;exact yD;exact yR h [0];rintro ⟨⟩ ⟨_,_,_⟩ l _ h;simp only[go_sem,seval,Zb]at l;obtain ⟨⟨_,_,_,_⟩,_,hn⟩:=l;subst hn;have:=ZB (d.outs.length);simp only[*,go_sem,seval];exact yR h [0];rintro ⟨⟩ ⟨_,_,_⟩ m _ h;simp only[go_sem,seval,Zb]at m;obtain ⟨⟨_,_⟩,_,hn⟩:=m;subst hn;have:=ZB (b_0.reasons.length);iterate 2 (cases h;exact yD)
end
section
theorem ZtP {a:List Zc}{f_1:Zc}{r:List Zc}(h:ZcF a f_1=some r):Zm prog J0 229 [(false,[.sl 53 2 (A0 Zs a)]),(true,Zs f_1)] [(false,[(false,.sl 53 2 (A0 Zs r))])]:=by
 refine fnk func229 rfl ?_;unfold ZcF at h;simp only[fnS,f229,Zo,go_sem,seval];refine Zh h (fun i s st=>match s with|(b,d)=>IV [(0,yM (yT a)),(3,.bp 0 0),(5,.p false [.row 1]),(6,yM (.bool d)),(7,yL i)] [zD 53 (Zs f_1),.row 53 2 (A0 Zs b) 2] st) [] [0,32] yF yD ?_ ?_
 rintro _ _ ⟨b,d⟩ ⟨_,_,_⟩ _ e f k h _;simp only[go_sem,seval,Zb]at f;obtain ⟨⟨l,_,_,_,_⟩,_,_,hn⟩:=f;subst hn;have m:=WF.slotL k l (j:=0) rfl;have:=ZC e;have:=ZE e;have:=Zk (ZD e) m;simp only[*,go_sem,seval];refine yB h (fun _ h=>?_) fun _ h=>?_
 refine ZPO h fun _ o h=>Zd (Xr o) ?_
 obtain ⟨q,h⟩:=Zv h;try simp only[Nat.reduceLeDiff]at q
 simp only[*,go_sem,seval];exact yR h [0,354];refine ZPO h fun _ t h=>Zd (ZbQ t)<|yA ?_
 refine yB h (fun _ h=>?_) fun _ h=>?_
 refine ZPO h fun _ u h=>Zd (ZbQ u)<|yA ?_
 refine yB h (fun _ h=>?_) fun _ h=>?_
 refine ZPO h fun _ v h=>Zd (Xr v) ?_
 obtain ⟨w,h⟩:=Zv h;try simp only[Nat.reduceLeDiff]at w
 simp only[*,go_sem,seval];refine ZPO h fun _ x h=>Zd (Xr x) ?_
 obtain ⟨y,h⟩:=Zv h;try simp only[Nat.reduceLeDiff]at y
 simp only[*,go_sem,seval];exact yR h [0,578];refine ZPO h fun _ z h=>Zd (Xr z) ?_
 obtain ⟨A,h⟩:=Zv h;try simp only[Nat.reduceLeDiff]at A
 simp only[*,go_sem,seval];exact yR h [0,482];refine ZPO h fun _ B h=>Zd (Xr B) ?_
 obtain ⟨C,h⟩:=Zv h;try simp only[Nat.reduceLeDiff]at C
 simp only[*,go_sem,seval];exact yR h [0,354];rintro ⟨b,d⟩ ⟨_,_,_⟩ g _ h;simp only[go_sem,seval,Zb]at g;obtain ⟨⟨_,_,_,_,_⟩,_,_,hn⟩:=g;subst hn;have:=ZB (a.length);simp only[*,go_sem,seval];refine yB h (fun _ h=>?_) fun _ h=>?_
 cases h;exact yD;refine ZPO h fun _ D h=>Zd (Xr D) ?_
 obtain ⟨E,h⟩:=Zv h;try simp only[Nat.reduceLeDiff]at E
 cases h;exact yD
theorem Zis {l_0:List Zc}{r:Bool}(h:Zcb l_0=some r):Zm prog J0 121 [(false,[.sl 53 2 (A0 Zs l_0)])] [(false,[(false,.bool r)])]:=by
 refine fnk func121 rfl ?_;unfold Zcb at h;simp only[fnS,f121,Zo,go_sem,seval];refine Zh h (fun i _ st=>IV [(0,yM (yT l_0)),(3,yL i)] [] st) [] [] yF yD ?_ ?_
 rintro _ _ ⟨⟩ ⟨_,_,_⟩ _ a b f h d;simp only[go_sem,seval,Zb]at b;obtain ⟨⟨g,_⟩,hn⟩:=b;subst hn;have k:=WF.slotL f g (j:=0) rfl;have:=ZC a;have:=ZE a;have:=Zk (ZD a) k;simp only[*,go_sem,seval];refine ZPO h fun _ l h=>Zd (Zk1 l)<|yA ?_
 iterate 2 refine yB h (fun _ h=>?_) fun _ h=>?_
 obtain ⟨_,_,_,_,h⟩:=ZcM h;simp only[*,go_sem,seval];refine ZPO h fun _ m h=>Zd (ZbQ m)<|yA ?_
 refine yB h (fun _ h=>?_) fun _ h=>?_
 replace h:=Zr h d;cases h;exact yD;exact yR h [];exact yR h [];replace h:=Zr h d;cases h;exact yD;rintro ⟨⟩ ⟨_,_,_⟩ e _ h;simp only[go_sem,seval,Zb]at e;obtain ⟨⟨_,_⟩,hn⟩:=e;subst hn;have:=ZB (l_0.length);cases h;exact yD
theorem Zrp {b_0:List Zi}{v_1:ByteArray}{value_2:ByteArray}{r:((List Zi)×Bool)}(h:Zhm b_0 v_1 value_2=some r):Zm prog J0 139 [(false,[.sl 162 2 (A0 ZR b_0)]),(false,[.str v_1]),(false,[.str value_2])] [(false,[(false,.sl 162 2 (A0 ZR r.1))]),(false,[(false,.bool r.2)])]:=by
 refine fnk func139 rfl ?_;unfold Zhm at h;simp only[fnS,f139,Zo,go_sem,seval];refine ZPO h fun v1 a h=>Zd (Zan a)<|yA ?_
 refine yB h (fun _ h=>?_) fun _ h=>?_
 refine ZPO h fun _ b h=>Zd (Zah b)<|yA ?_
 refine yB h (fun _ h=>?_) fun _ h=>?_
 refine ZPO h fun _ c h=>Zd (QA c)<|yA ?_
 refine yB h (fun _ h=>?_) fun _ h=>?_
 refine ZPO h fun _ d h=>Zd (Zdu d)<|yA ?_
 iterate 2 refine yB h (fun _ h=>?_) fun _ h=>?_
 refine ZPO h fun _ e h=>Zd (ZeN e) ?_
 iterate 2 (cases h;exact yD)
 refine yB h (fun _ h=>?_) fun _ h=>?_
 cases h;exact yD;refine ZPO h fun _ f h=>Zd (ZtD f) ?_
 iterate 4 (cases h;exact yD)
theorem Zox {b:Zt}{r:List Int}(h:Zeb b=some r):Zm prog J0 277 [(true,Qu b)] [(false,[(false,.sl 3 1 (A0 ZO r))])]:=by
 refine fnk func277 rfl ?_;unfold Zeb at h;simp only[fnS,f277,Zo,go_sem,seval];refine ZPO h fun v1 B h=>Zd (ZeL B)<|yA ?_
 refine yB h (fun _ h=>?_) fun _ h=>?_
 obtain ⟨_,h⟩:=Zv h;simp only[*,go_sem,seval];refine Xj h (fun s st=>match s with|(q,e)=>IV [(1,.bp 0 0),(3,.p false [.row 1]),(4,yM (.int .i64 e))] [.box 140 [.c (.int .i64 b.nodes),.c (zA b.reasons)],.row 3 1 (A0 ZO q) 2] st) [] [0,112] yF yD ?_
 rintro ⟨q,e⟩ ⟨_,_,_⟩ _ t _ h C;simp only[go_sem,seval,Zb]at t;obtain ⟨⟨_,_,_⟩,_,_,hn⟩:=t;subst hn;simp only[*,go_sem,seval];refine yB h (fun _ h=>?_) fun _ h=>?_
 refine Zh h (fun i f st=>IV [(1,.bp 0 0),(3,.p false [.row 1]),(4,yM (.int .i64 e)),(5,yL i)] [.box 140 [.c (.int .i64 b.nodes),.c (zA b.reasons)],.row 3 1 (A0 ZO f) 2] st) [] [0,1] yF yD ?_ ?_
 rintro u d f ⟨_,_,_⟩ _ g v D h _;simp only[go_sem,seval,Zb]at v;obtain ⟨⟨_,_,_,_⟩,E,_,hn⟩:=v;subst hn;have F:=WF.boxL D E (j:=1) rfl;have:=ZC g;have:=ZE g;have:=Zk (ZD g) F;simp only[*,go_sem,seval];refine Zh h (fun i k st=>IV [(1,.bp 0 0),(3,.p false [.row 1]),(4,yM (.int .i64 e)),(5,yL u),(6,.bp 2 0),(7,yL i)] [.box 140 [.c (.int .i64 b.nodes),.c (zA b.reasons)],.row 3 1 (A0 ZO k) 2,zD 179 (ZG d)] st) [] [0,1,162] yF yD ?_ ?_
 rintro _ _ k ⟨_,_,_⟩ _ l w G h _;simp only[go_sem,seval,Zb]at w;obtain ⟨⟨_,_,_,_,_,_⟩,_,_,H,hn⟩:=w;subst hn;have I:=WF.boxL G H (j:=1) rfl;have:=ZC l;have:=ZE l;have:=Zk (ZD l) I;obtain ⟨_,h⟩:=Zv h;obtain ⟨_,_,h⟩:=Za h;obtain ⟨_,h⟩:=Zv h;obtain ⟨_,_,h⟩:=Za h;simp only[*,go_sem,seval];exact yR h [0,1,2];rintro k ⟨_,_,_⟩ x _ h;simp only[go_sem,seval,Zb]at x;obtain ⟨⟨_,_,_,_,_,_⟩,_,_,_,hn⟩:=x;subst hn;have:=ZB (d.inn.length);simp only[*,go_sem,seval];refine Zh h (fun i m st=>IV [(1,.bp 0 0),(3,.p false [.row 1]),(4,yM (.int .i64 e)),(5,yL u),(6,.bp 2 0),(8,yL i)] [.box 140 [.c (.int .i64 b.nodes),.c (zA b.reasons)],.row 3 1 (A0 ZO m) 2,zD 179 (ZG d)] st) [] [0,1,2] yF yD ?_ ?_
 rintro _ _ m ⟨_,_,_⟩ _ o y J h _;simp only[go_sem,seval,Zb]at y;obtain ⟨⟨_,_,_,_,_,_⟩,_,_,K,hn⟩:=y;subst hn;have L:=WF.boxL J K (j:=2) rfl;have:=ZC o;have:=ZE o;have:=Zk (ZD o) L;obtain ⟨_,h⟩:=Zv h;obtain ⟨_,_,h⟩:=Za h;obtain ⟨_,h⟩:=Zv h;obtain ⟨_,_,h⟩:=Za h;simp only[*,go_sem,seval];exact yR h [0,1,2];rintro m ⟨_,_,_⟩ z _ h;simp only[go_sem,seval,Zb]at z;obtain ⟨⟨_,_,_,_,_,_⟩,_,_,_,hn⟩:=z;subst hn;have:=ZB (d.outs.length);simp only[*,go_sem,seval];exact yR h [0,1];rintro f ⟨_,_,_⟩ A _ h;simp only[go_sem,seval,Zb]at A;obtain ⟨⟨_,_,_,_⟩,_,_,hn⟩:=A;subst hn;have:=ZB (b.reasons.length);simp only[*,go_sem,seval];exact yR h [0,1];replace h:=Zr h C;iterate 2 (cases h;exact yD)
theorem ZH9 {b_0:List Zi}{aim_1:List Zi}{r:Bool}(h:ZHm b_0 aim_1=some r):Zm prog J0 140 [(false,[.sl 162 2 (A0 ZR b_0)]),(false,[.sl 162 2 (A0 ZR aim_1)])] [(false,[(false,.bool r)])]:=by
 refine fnk func140 rfl ?_;unfold ZHm at h;simp only[fnS,f140,Zo,go_sem,seval];refine Zh h (fun i _ st=>IV [(0,yM (yX b_0)),(1,yM (yX aim_1)),(5,yL i)] [] st) [] [] yF yD ?_ ?_
 rintro _ _ ⟨⟩ ⟨_,_,_⟩ _ a b e h f;simp only[go_sem,seval,Zb]at b;obtain ⟨⟨g,_,_⟩,hn⟩:=b;subst hn;have k:=WF.slotL e g (j:=0) rfl;have:=ZC a;have:=ZE a;have:=Zk (ZD a) k;simp only[*,go_sem,seval];refine ZPO h fun _ l h=>Zd (Zdu l)<|yA ?_
 iterate 2 refine yB h (fun _ h=>?_) fun _ h=>?_
 exact yR h [];replace h:=Zr h f;cases h;exact yD;exact yR h [];rintro ⟨⟩ ⟨_,_,_⟩ d _ h;simp only[go_sem,seval,Zb]at d;obtain ⟨⟨_,_,_⟩,hn⟩:=d;subst hn;have:=ZB (b_0.length);cases h;exact yD
theorem ZJN {f_0:Zc}{r:ByteArray}(h:ZI7 f_0=some r):Zm prog J0 155 [(true,Zs f_0)] [(false,[(false,.str r)])]:=by
 refine fnk func155 rfl ?_;unfold ZI7 at h;have a:ZbS ⟨#[40]⟩=true:=by decide
 have b:ZbS ⟨#[41]⟩=true:=by decide
 have c:ZbS ⟨#[44]⟩=true:=by decide
 have d:ZbS ⟨#[]⟩=true:=by decide
 simp only[fnS,f155,Zo,go_sem,seval,a,b,c,d];refine ZPO h fun v1 e h=>Zd (Zk1 e)<|yA ?_
 refine yB h (fun _ h=>?_) fun _ h=>?_
 obtain ⟨f,h⟩:=Zv h;simp only[go_sem]at f;simp only[*,go_sem,seval];refine ZPO h fun _ g h=>Zd (ZIH g) ?_
 obtain ⟨i,h⟩:=Zv h;simp only[go_sem]at i;obtain ⟨j,h⟩:=Zv h;simp only[go_sem]at j;iterate 2 (cases h;exact yD)
end
section
theorem Zes {p_0:Zx}{b_1:List Zi}{facts_2:List Zc}{r:List Zc}(h:XO p_0 b_1 facts_2=some r):Zm prog J0 198 [(true,Qp p_0),(false,[.sl 162 2 (A0 ZR b_1)]),(false,[.sl 53 2 (A0 Zs facts_2)])] [(false,[(false,.sl 53 2 (A0 Zs r))])]:=by
 refine fnk func198 rfl ?_;unfold XO at h;simp only[fnS,f198,Zo,go_sem,seval];refine Zh h (fun i a st=>IV [(1,yM (yX b_1)),(3,.bp 0 0),(7,.p false [.row 1]),(12,yM (yT facts_2)),(13,yL facts_2.length),(14,yL i)] [.box 78 [.c (.str p_0.rel),.c (yU p_0.args)],.row 53 2 (A0 Zs a) 2] st) [(false,7,0)] [0,96] yF yD ?_ ?_
 rintro _ _ a ⟨_,_,_⟩ _ b d f h _;simp only[go_sem,seval,Zb]at d;obtain ⟨⟨_,_,_,g,_,_⟩,_,_,hn⟩:=d;subst hn;have k:=WF.slotL f g (j:=0) rfl;have:=ZC b;have:=ZE b;have:=Zk (ZD b) k;simp only[*,go_sem,seval];refine ZPO h fun _ l h=>Zd (ZbH l)<|yA ?_
 refine yB h (fun _ h=>?_) fun _ h=>?_
 refine ZPO h fun _ m h=>Zd (YO m) ?_
 obtain ⟨o,h⟩:=Zv h;try simp only[Nat.reduceLeDiff]at o
 simp only[*,go_sem,seval];exact yR h [0,306];exact yR h [0,1];rintro a ⟨_,_,_⟩ e _ h;simp only[go_sem,seval,Zb]at e;obtain ⟨⟨_,_,_,_,_,_⟩,_,_,hn⟩:=e;subst hn;have:=ZB (facts_2.length);cases h;exact yD
theorem Zrl {x_0:Zl}{r:Bool}(h:ZjH x_0=some r):Zm prog J0 249 [(true,ZJ x_0)] [(false,[(false,.bool r)])]:=by
 refine fnk func249 rfl ?_;unfold ZjH at h;simp only[fnS,f249,Zo,go_sem,seval];refine ZPO h fun v1 a h=>Zd (ZhF a)<|yA ?_
 refine yB h (fun _ h=>?_) fun _ h=>?_
 iterate 2 (cases h;exact yD)
theorem Ziz {r_0:Zg}{k_1:Int}{r:Bool}(h:Zcd r_0 k_1=some r):Zm prog J0 191 [(true,ZL r_0),(false,[.int .i64 k_1])] [(false,[(false,.bool r)])]:=by
 refine fnk func191 rfl ?_;unfold Zcd at h;simp only[fnS,f191,Zo,go_sem,seval];obtain ⟨a,_,_,_,h⟩:=ZcM h;simp only[*,go_sem,seval];refine ZPO h fun j k h=>Zd (ZdR k)<|yA ?_
 refine ZPO h fun b l h=>Zd (ZcA l)<|yA ?_
 refine Zh h (fun i _ st=>IV [(1,yM (.int .i64 k_1)),(2,.bp 0 0),(5,.bp 1 0),(6,.p false [.row 2]),(18,.p false [.row 3]),(19,yL b.length),(20,yL i)] [zD 76 (ZL r_0),zD 80 (ZJ a),.row 9 1 (A0 ZA j) 2,.row 9 1 (A0 ZA b) 2] st) [] [0,112,176,224] yF yD ?_ ?_
 rintro _ _ ⟨⟩ ⟨_,_,_⟩ _ d e m h f;simp only[go_sem,seval,Zb]at e;obtain ⟨⟨_,_,_,_,_,_,_⟩,_,_,_,o,hn⟩:=e;subst hn;have q:=WF.rowL m o;have:=ZC d;have:=ZE d;have:=Zk (ZD d) q;simp only[*,go_sem,seval];refine yB h (fun _ h=>?_) fun _ h=>?_
 exact yR h [0,1,2,3];refine ZPO h fun _ t h=>Zd (ZaB t)<|yA ?_
 refine yB h (fun _ h=>?_) fun _ h=>?_
 exact yR h [0,1,2,3];refine yB h (fun _ h=>?_) fun _ h=>?_
 replace h:=Zr h f;cases h;exact yD;refine ZPO h fun _ u h=>Zd (Zhl u)<|yA ?_
 refine yB h (fun _ h=>?_) fun _ h=>?_
 replace h:=Zr h f;cases h;exact yD;exact yR h [0,1,2,3];rintro ⟨⟩ ⟨_,_,_⟩ g _ h;simp only[go_sem,seval,Zb]at g;obtain ⟨⟨_,_,_,_,_,_,_⟩,_,_,_,_,hn⟩:=g;subst hn;have:=ZB (b.length);cases h;exact yD
theorem ZgO {x_0:Zl}{r:Bool}(h:Zej x_0=some r):Zm prog J0 106 [(true,ZJ x_0)] [(false,[(false,.bool r)])]:=by
 refine fnk func106 rfl ?_;unfold Zej at h;have a:ZbS ⟨#[]⟩=true:=by decide
 simp only[fnS,f106,Zo,go_sem,seval,a];refine yB h (fun _ h=>?_) fun _ h=>?_
 refine ZPO h fun v1 b h=>Zd (Qk b)<|yA ?_
 iterate 2 refine yB h (fun _ h=>?_) fun _ h=>?_
 iterate 3 (cases h;exact yD)
 refine yB h (fun _ h=>?_) fun _ h=>?_
 refine ZPO h fun _ c h=>Zd (Qk c)<|yA ?_
 iterate 2 refine yB h (fun _ h=>?_) fun _ h=>?_
 iterate 3 (cases h;exact yD)
 iterate 3 refine yB h (fun _ h=>?_) fun _ h=>?_
 refine ZPO h fun _ d h=>Zd (Zar d)<|yA ?_
 refine yB h (fun _ h=>?_) fun _ h=>?_
 refine ZPO h fun _ e h=>Zd (Zar e) ?_
 iterate 4 (cases h;exact yD)
 iterate 3 refine yB h (fun _ h=>?_) fun _ h=>?_
 refine ZPO h fun _ f h=>Zd (Zar f)<|yA ?_
 refine yB h (fun _ h=>?_) fun _ h=>?_
 refine ZPO h fun _ g h=>Zd (Zar g) ?_
 iterate 4 (cases h;exact yD)
 iterate 3 refine yB h (fun _ h=>?_) fun _ h=>?_
 refine ZPO h fun _ i h=>Zd (Zar i)<|yA ?_
 refine yB h (fun _ h=>?_) fun _ h=>?_
 refine ZPO h fun _ j h=>Zd (Zar j) ?_
 iterate 5 (cases h;exact yD)
theorem Zfu {r_0:Zg}{i_1:Int}{v_2:ByteArray}{r:Bool}(h:X5 r_0 i_1 v_2=some r):Zm prog J0 183 [(true,ZL r_0),(false,[.int .i64 i_1]),(false,[.str v_2])] [(false,[(false,.bool r)])]:=by
 refine fnk func183 rfl ?_;unfold X5 at h;simp only[fnS,f183,Zo,go_sem,seval];refine Zh h (fun i _ st=>IV [(1,yM (.int .i64 i_1)),(2,yM (.str v_2)),(3,.bp 0 0),(7,yL i)] [zD 76 (ZL r_0)] st) [] [0] yF yD ?_ ?_
 rintro _ _ ⟨⟩ ⟨_,_,_⟩ _ a d k h l;simp only[go_sem,seval,Zb]at d;obtain ⟨⟨_,_,_,_⟩,m,hn⟩:=d;subst hn;have o:=WF.boxL k m (j:=2) rfl;have:=ZC a;have:=ZE a;have:=Zk (ZD a) o;simp only[*,go_sem,seval];refine yB h (fun _ h=>?_) fun _ h=>?_
 refine ZPO h fun _ q h=>Zd (ZaP q)<|yA ?_
 refine ZPO h fun _ t h=>Zd (YQ t)<|yA ?_
 refine yB h (fun _ h=>?_) fun _ h=>?_
 replace h:=Zr h l;cases h;exact yD;exact yR h [0];exact yR h [0];rintro ⟨⟩ ⟨_,_,_⟩ e _ h;simp only[go_sem,seval,Zb]at e;obtain ⟨⟨_,_,_,_⟩,_,hn⟩:=e;subst hn;have:=ZB (r_0.cond.length);simp only[*,go_sem,seval];refine Zh h (fun i _ st=>IV [(2,yM (.str v_2)),(3,.bp 0 0),(8,yL i)] [zD 76 (ZL r_0)] st) [] [0] yF yD ?_ ?_
 rintro _ _ ⟨⟩ ⟨_,_,_⟩ _ b f u h v;simp only[go_sem,seval,Zb]at f;obtain ⟨⟨_,_,_⟩,w,hn⟩:=f;subst hn;have x:=WF.boxL u w (j:=3) rfl;have:=ZC b;have:=ZE b;have:=Zk (ZD b) x;simp only[*,go_sem,seval];refine ZPO h fun _ y h=>Zd (Zc6 y)<|yA ?_
 refine ZPO h fun _ z h=>Zd (YQ z)<|yA ?_
 refine yB h (fun _ h=>?_) fun _ h=>?_
 replace h:=Zr h v;cases h;exact yD;exact yR h [0];rintro ⟨⟩ ⟨_,_,_⟩ g _ h;simp only[go_sem,seval,Zb]at g;obtain ⟨⟨_,_,_⟩,_,hn⟩:=g;subst hn;have:=ZB (r_0.thn.length);cases h;exact yD
theorem Zn1 {a_0:Zu}{r:Bool}(h:Zer a_0=some r):Zm prog J0 184 [(true,ZI a_0)] [(false,[(false,.bool r)])]:=by
 refine fnk func184 rfl ?_;unfold Zer at h;have a:ZbS ⟨#[]⟩=true:=by decide
 simp only[fnS,f184,Zo,go_sem,seval,a];refine yB h (fun _ h=>?_) fun _ h=>?_
 refine ZPO h fun v1 b h=>Zd (Qk b) ?_
 cases h;exact yD;refine yB h (fun _ h=>?_) fun _ h=>?_
 refine ZPO h fun _ c h=>Zd (Qk c) ?_
 cases h;exact yD;iterate 2 refine yB h (fun _ h=>?_) fun _ h=>?_
 iterate 3 (cases h;exact yD)
theorem Zof {r_0:Zg}{r:List ByteArray}(h:Zed r_0=some r):Zm prog J0 186 [(true,ZL r_0)] [(false,[(false,.sl 9 1 (A0 ZA r))])]:=by
 refine fnk func186 rfl ?_;unfold Zed at h;simp only[fnS,f186,Zo,go_sem,seval];refine Zh h (fun i a st=>IV [(1,.bp 0 0),(3,.p false [.row 1]),(4,yL i)] [zD 76 (ZL r_0),.row 9 1 (A0 ZA a) 2] st) [] [0,32] yF yD ?_ ?_
 rintro A _ a ⟨_,_,_⟩ _ b m B h _;simp only[go_sem,seval,Zb]at m;obtain ⟨⟨_,_,_⟩,C,_,hn⟩:=m;subst hn;have D:=WF.boxL B C (j:=2) rfl;have:=ZC b;have:=ZE b;have:=Zk (ZD b) D;simp only[*,go_sem,seval];refine ZPO h fun o E h=>Zd (ZaP E)<|yA ?_
 refine Zh h (fun i d st=>IV [(1,.bp 0 0),(3,.p false [.row 1]),(4,yL A),(5,.p false [.row 2]),(6,yL i)] [zD 76 (ZL r_0),.row 9 1 (A0 ZA d) 2,.row 9 1 (A0 ZA o) 2] st) [] [0,1,162] yF yD ?_ ?_
 rintro _ _ d ⟨_,_,_⟩ _ e q F h _;simp only[go_sem,seval,Zb]at q;obtain ⟨⟨_,_,_,_,_⟩,_,_,G,hn⟩:=q;subst hn;have H:=WF.rowL F G;have:=ZC e;have:=ZE e;have:=Zk (ZD e) H;simp only[*,go_sem,seval];refine ZPO h fun _ I h=>Zd (XF I)<|yA ?_
 exact yR h [0,147,2];rintro d ⟨_,_,_⟩ t _ h;simp only[go_sem,seval,Zb]at t;obtain ⟨⟨_,_,_,_,_⟩,_,_,_,hn⟩:=t;subst hn;have:=ZB (o.length);simp only[*,go_sem,seval];exact yR h [0,1];rintro a ⟨_,_,_⟩ u _ h;simp only[go_sem,seval,Zb]at u;obtain ⟨⟨_,_,_⟩,_,_,hn⟩:=u;subst hn;have:=ZB (r_0.cond.length);simp only[*,go_sem,seval];refine Zh h (fun i f st=>IV [(1,.bp 0 0),(3,.p false [.row 1]),(7,yL i)] [zD 76 (ZL r_0),.row 9 1 (A0 ZA f) 2] st) [] [0,1] yF yD ?_ ?_
 rintro J _ f ⟨_,_,_⟩ _ g v K h _;simp only[go_sem,seval,Zb]at v;obtain ⟨⟨_,_,_⟩,L,_,hn⟩:=v;subst hn;have M:=WF.boxL K L (j:=3) rfl;have:=ZC g;have:=ZE g;have:=Zk (ZD g) M;simp only[*,go_sem,seval];refine ZPO h fun w N h=>Zd (Zc6 N)<|yA ?_
 refine Zh h (fun i k st=>IV [(1,.bp 0 0),(3,.p false [.row 1]),(7,yL J),(8,.p false [.row 2]),(9,yL i)] [zD 76 (ZL r_0),.row 9 1 (A0 ZA k) 2,.row 9 1 (A0 ZA w) 2] st) [] [0,1,178] yF yD ?_ ?_
 rintro _ _ k ⟨_,_,_⟩ _ l x O h _;simp only[go_sem,seval,Zb]at x;obtain ⟨⟨_,_,_,_,_⟩,_,_,P,hn⟩:=x;subst hn;have Q:=WF.rowL O P;have:=ZC l;have:=ZE l;have:=Zk (ZD l) Q;simp only[*,go_sem,seval];refine ZPO h fun _ R h=>Zd (XF R)<|yA ?_
 exact yR h [0,147,2];rintro k ⟨_,_,_⟩ y _ h;simp only[go_sem,seval,Zb]at y;obtain ⟨⟨_,_,_,_,_⟩,_,_,_,hn⟩:=y;subst hn;have:=ZB (w.length);simp only[*,go_sem,seval];exact yR h [0,1];rintro f ⟨_,_,_⟩ z _ h;simp only[go_sem,seval,Zb]at z;obtain ⟨⟨_,_,_⟩,_,_,hn⟩:=z;subst hn;have:=ZB (r_0.thn.length);cases h;exact yD
theorem Zg5 {append_0:Zx}{String_1:Zc}{a_2:List Zi}{r:((List Zi)×Bool)}(h:Zbp append_0 String_1 a_2=some r):Zm prog J0 81 [(true,Qp append_0),(true,Zs String_1),(false,[.sl 162 2 (A0 ZR a_2)])] [(false,[(false,.sl 162 2 (A0 ZR r.1))]),(false,[(false,.bool r.2)])]:=by
 refine fnk func81 rfl ?_;unfold Zbp at h;simp only[fnS,f81,Zo,go_sem,seval];refine ZPO h fun v1 g h=>Zd (Qk g)<|yA ?_
 refine yB h (fun _ h=>?_) fun _ h=>?_
 refine ZPO h fun _ k h=>Zd (Zk1 k)<|yA ?_
 refine yB h (fun _ h=>?_) fun _ h=>?_
 refine ZPO h fun _ l h=>Zd (Zan l)<|yA ?_
 iterate 3 refine yB h (fun _ h=>?_) fun _ h=>?_
 cases h;exact yD;refine ZPO h fun _ m h=>Zd (ZeN m)<|yA ?_
 refine Zh h (fun i a st=>IV [(3,.bp 0 0),(4,.bp 1 0),(8,.p false [.row 2]),(9,yL i)] [.box 78 [.c (.str append_0.rel),.c (yU append_0.args)],zD 53 (Zs String_1),.row 162 2 (A0 ZR a) 2] st) [] [0,16,544] yF yD ?_ ?_
 rintro _ _ a ⟨_,_,_⟩ _ b d o h e;simp only[go_sem,seval,Zb]at d;obtain ⟨⟨_,_,_,_⟩,q,_,_,hn⟩:=d;subst hn;have t:=WF.boxL o q (j:=1) rfl;have:=ZC b;have:=ZE b;have:=Zk (ZD b) t;simp only[*,go_sem,seval];refine ZPO h fun _ u h=>Zd (QA u)<|yA ?_
 refine yB h (fun _ h=>?_) fun _ h=>?_
 obtain ⟨_,_,_,v,h⟩:=ZcM h;simp only[A7]at v;simp only[*,go_sem,seval];refine yB h (fun _ h=>?_) fun _ h=>?_
 exact yR h [0,1,2];replace h:=Zr h e;cases h;exact yD;obtain ⟨_,_,_,w,h⟩:=ZcM h;simp only[A7]at w;simp only[*,go_sem,seval];refine ZPO h fun _ x h=>Zd (Zrp x)<|yA ?_
 refine yB h (fun _ h=>?_) fun _ h=>?_
 exact yR h [0,1,355];replace h:=Zr h e;cases h;exact yD;rintro a ⟨_,_,_⟩ f _ h;simp only[go_sem,seval,Zb]at f;obtain ⟨⟨_,_,_,_⟩,_,_,_,hn⟩:=f;subst hn;have:=ZB (append_0.args.length);iterate 5 (cases h;exact yD)
end
section
theorem Zfq {p_0:Zx}{b_1:List Zi}{r:(Zc×Bool)}(h:XA p_0 b_1=some r):Zm prog J0 173 [(true,Qp p_0),(false,[.sl 162 2 (A0 ZR b_1)])] [(true,[(false,.str r.1.rel),(false,.sl 9 1 (A0 ZA r.1.args))]),(false,[(false,.bool r.2)])]:=by
 refine fnk func173 rfl ?_;unfold XA at h;simp only[fnS,f173,Zo,go_sem,seval];refine ZPO h fun v1 f h=>Zd (Qk f)<|yA ?_
 refine yB h (fun _ h=>?_) fun _ h=>?_
 refine ZPO h fun _ g h=>Zd (Zan g)<|yA ?_
 refine yB h (fun _ h=>?_) fun _ h=>?_
 refine Zh h (fun i a st=>IV [(1,yM (yX b_1)),(2,.bp 0 0),(4,.bp 1 0),(6,.bp 2 0),(7,yL i)] [.box 78 [.c (.str p_0.rel),.c (yU p_0.args)],.box 53 [.c (.str ⟨#[]⟩),.nil 9 1],.box 53 [.c (.str p_0.rel),.row 3],.row 9 1 (A0 ZA a) 2] st) [(true,224,1)] [0,16,224,272] yF yD ?_ ?_
 rintro _ _ a ⟨_,_,_⟩ _ b d k h l;simp only[go_sem,seval,Zb]at d;obtain ⟨⟨_,_,_,_,_⟩,m,_,_,_,hn⟩:=d;subst hn;have o:=WF.boxL k m (j:=1) rfl;have:=ZC b;have:=ZE b;have:=Zk (ZD b) o;simp only[*,go_sem,seval];refine ZPO h fun _ q h=>Zd (Zdu q)<|yA ?_
 refine yB h (fun _ h=>?_) fun _ h=>?_
 obtain ⟨t,h⟩:=Zv h;try simp only[Nat.reduceLeDiff]at t
 simp only[*,go_sem,seval];exact yR h [0,1,2,372];replace h:=Zr h l;cases h;exact yD;rintro a ⟨_,_,_⟩ e _ h;simp only[go_sem,seval,Zb]at e;obtain ⟨⟨_,_,_,_,_⟩,_,_,_,_,hn⟩:=e;subst hn;have:=ZB (p_0.args.length);iterate 3 (cases h;exact yD)
theorem ZoP {b:Zt}{r:List Int}(h:Zee b=some r):Zm prog J0 233 [(true,Qu b)] [(false,[(false,.sl 3 1 (A0 ZO r))])]:=by
 refine fnk func233 rfl ?_;unfold Zee at h;simp only[fnS,f233,Zo,go_sem,seval];refine ZPO h fun v1 z h=>Zd (ZeL z)<|yA ?_
 refine yB h (fun _ h=>?_) fun _ h=>?_
 refine ZPO h fun d A h=>Zd (Zox A)<|yA ?_
 refine Xj h (fun s st=>match s with|(l,m)=>IV [(1,.bp 0 0),(3,.p false [.row 1]),(4,.p false [.row 2]),(5,yM (.int .i64 m))] [.box 140 [.c (.int .i64 b.nodes),.c (zA b.reasons)],.row 3 1 (A0 ZO d) 2,.row 3 1 (A0 ZO l) 2] st) [] [0,96,128] yF yD ?_
 rintro ⟨l,m⟩ ⟨_,_,_⟩ _ o _ h B;simp only[go_sem,seval,Zb]at o;obtain ⟨⟨_,_,_,_⟩,_,_,_,hn⟩:=o;subst hn;simp only[*,go_sem,seval];refine yB h (fun _ h=>?_) fun _ h=>?_
 obtain ⟨C,h⟩:=Zv h;try simp only[Nat.reduceLeDiff]at C
 simp only[*,go_sem,seval];exact yR h [0,1,99];refine Xj h (fun s st=>match s with|(q,t,e)=>IV [(1,.bp 0 0),(3,.p false [.row 1]),(4,.p false [.row 2]),(6,yM (.int .i64 t)),(7,yM (.int .i64 e))] [.box 140 [.c (.int .i64 b.nodes),.c (zA b.reasons)],.row 3 1 (A0 ZO d) 2,.row 3 1 (A0 ZO q) 2] st) [] [0,1,2] yF yD ?_
 rintro ⟨q,t,e⟩ ⟨_,_,_⟩ _ u _ h D;simp only[go_sem,seval,Zb]at u;obtain ⟨⟨_,_,_,_,_⟩,_,_,_,hn⟩:=u;subst hn;simp only[*,go_sem,seval];refine yB h (fun _ h=>?_) fun _ h=>?_
 refine ZPO h fun _ E h=>Zd (ZiI E)<|yA ?_
 refine Xj h (fun s st=>match s with|(v,f,g)=>IV [(1,.bp 0 0),(3,.p false [.row 1]),(4,.p false [.row 2]),(6,yM (.int .i64 g)),(7,yM (.int .i64 e)),(8,.p false [.row 3])] [.box 140 [.c (.int .i64 b.nodes),.c (zA b.reasons)],.row 3 1 (A0 ZO d) 2,.row 3 1 (A0 ZO v) 2,.row 3 1 (A0 ZO f) 2] st) [] [0,1,2,147] yF yD ?_
 rintro ⟨v,f,g⟩ ⟨_,_,_⟩ _ w _ h F;simp only[go_sem,seval,Zb]at w;obtain ⟨⟨_,_,_,_,_,_⟩,_,_,_,_,hn⟩:=w;subst hn;simp only[*,go_sem,seval];refine yB h (fun _ h=>?_) fun _ h=>?_
 refine Zh h (fun i j st=>IV [(1,.bp 0 0),(3,.p false [.row 1]),(4,.p false [.row 2]),(6,yM (.int .i64 g)),(7,yM (.int .i64 e)),(8,.p false [.row 3]),(9,yL i)] [.box 140 [.c (.int .i64 b.nodes),.c (zA b.reasons)],.row 3 1 (A0 ZO d) 2,.row 3 1 (A0 ZO j) 2,.row 3 1 (A0 ZO f) 2] st) [] [0,1,2,3] yF yD ?_ ?_
 rintro _ _ j ⟨_,_,_⟩ _ k x G h _;simp only[go_sem,seval,Zb]at x;obtain ⟨⟨_,_,_,_,_,_,_⟩,_,_,_,H,hn⟩:=x;subst hn;have I:=WF.rowL G H;have:=ZC k;have:=ZE k;have:=Zk (ZD k) I;obtain ⟨_,h⟩:=Zv h;obtain ⟨_,_,h⟩:=Za h;simp only[*,go_sem,seval];exact yR h [0,1,2,3];rintro j ⟨_,_,_⟩ y _ h;simp only[go_sem,seval,Zb]at y;obtain ⟨⟨_,_,_,_,_,_,_⟩,_,_,_,_,hn⟩:=y;subst hn;have:=ZB (f.length);simp only[*,go_sem,seval];refine ZPO h fun _ J h=>Zd (ZiI J)<|yA ?_
 exact yR h [0,1,2,196];replace h:=Zr h F;exact yR h [0,1,2];replace h:=Zr h D;replace h:=Zr h B;iterate 2 (cases h;exact yD)
theorem ZHa {p_0:Zx}{r:ByteArray}(h:ZG1 p_0=some r):Zm prog J0 107 [(true,Qp p_0)] [(false,[(false,.str r)])]:=by
 refine fnk func107 rfl ?_;unfold ZG1 at h;have a:ZbS ⟨#[40]⟩=true:=by decide
 have b:ZbS ⟨#[41]⟩=true:=by decide
 have c:ZbS ⟨#[44]⟩=true:=by decide
 have d:ZbS ⟨#[]⟩=true:=by decide
 simp only[fnS,f107,Zo,go_sem,seval,a,b,c,d];refine ZPO h fun v1 e h=>Zd (Qk e)<|yA ?_
 refine yB h (fun _ h=>?_) fun _ h=>?_
 obtain ⟨f,h⟩:=Zv h;simp only[go_sem]at f;simp only[*,go_sem,seval];refine ZPO h fun _ g h=>Zd (ZIH g) ?_
 obtain ⟨i,h⟩:=Zv h;simp only[go_sem]at i;obtain ⟨j,h⟩:=Zv h;simp only[go_sem]at j;iterate 2 (cases h;exact yD)
theorem ZKU {s_0:ZzC}{r:ByteArray}(h:ZJp s_0=some r):Zm prog J0 92 [(true,ZF5 s_0)] [(false,[(false,.str r)])]:=by
 refine fnk func92 rfl ?_;unfold ZJp at h;have a:ZbS ⟨#[32,102,114,111,109]⟩=true:=by decide
 have b:ZbS ⟨#[32,103,105,118,101,110]⟩=true:=by decide
 have c:ZbS ⟨#[32,98,121,32]⟩=true:=by decide
 have d:ZbS ⟨#[]⟩=true:=by decide
 simp only[fnS,f92,Zo,go_sem,seval,a,b,c,d];refine ZPO h fun v1 e h=>Zd (Zk1 e)<|yA ?_
 iterate 2 refine yB h (fun _ h=>?_) fun _ h=>?_
 refine ZPO h fun _ f h=>Zd (ZJN f) ?_
 obtain ⟨g,h⟩:=Zv h;simp only[go_sem]at g;cases h;exact yD;refine ZPO h fun _ i h=>Zd (ZJN i) ?_
 obtain ⟨j,h⟩:=Zv h;simp only[go_sem]at j;obtain ⟨k,h⟩:=Zv h;simp only[go_sem]at k;obtain ⟨l,h⟩:=Zv h;simp only[go_sem]at l;simp only[*,go_sem,seval];refine ZPO h fun _ m h=>Zd (ZLl m) ?_
 obtain ⟨o,h⟩:=Zv h;simp only[go_sem]at o;iterate 2 (cases h;exact yD)
end
section
theorem ZmA {append_0:Zl}{String_1:List Zi}{r:Bool}(h:Zc9 append_0 String_1=some r):Zm prog J0 199 [(true,ZJ append_0),(false,[.sl 162 2 (A0 ZR String_1)])] [(false,[(false,.bool r)])]:=by
 refine fnk func199 rfl ?_;unfold Zc9 at h;simp only[fnS,f199,Zo,go_sem,seval];refine ZPO h fun v1 a h=>Zd (Zrl a)<|yA ?_
 refine yB h (fun _ h=>?_) fun _ h=>?_
 refine ZPO h fun _ b h=>Zd (Zas b)<|yA ?_
 refine yB h (fun _ h=>?_) fun _ h=>?_
 refine ZPO h fun _ c h=>Zd (Zdw c)<|yA ?_
 refine ZPO h fun _ d h=>Zd (Zdw d)<|yA ?_
 iterate 3 refine yB h (fun _ h=>?_) fun _ h=>?_
 cases h;exact yD;refine yB h (fun _ h=>?_) fun _ h=>?_
 cases h;exact yD;refine ZPO h fun _ e h=>Zd (ZcG e)<|yA ?_
 refine ZPO h fun _ f h=>Zd (ZcG f)<|yA ?_
 iterate 2 refine yB h (fun _ h=>?_) fun _ h=>?_
 iterate 7 (cases h;exact yD)
theorem ZhM {append_0:Zg}{r:Bool}(h:Zex append_0=some r):Zm prog J0 129 [(true,ZL append_0)] [(false,[(false,.bool r)])]:=by
 refine fnk func129 rfl ?_;unfold Zex at h;simp only[fnS,f129,Zo,go_sem,seval];refine ZPO h fun v1 v h=>Zd (Zhr v)<|yA ?_
 iterate 2 refine yB h (fun _ h=>?_) fun _ h=>?_
 iterate 5 (cases h;simp only[*,go_sem,seval];refine Ze h (fun _ h=>?_) fun _ h=>?_<;>try simp only[*,go_sem,seval])
 cases h;exact yD;refine Zh h (fun i _ st=>IV [(1,.bp 0 0),(49,yM (yY append_0.cond)),(50,yL append_0.cond.length),(51,yL i)] [zD 76 (ZL append_0)] st) [] [0] yF yD ?_ ?_
 rintro _ _ ⟨⟩ ⟨_,_,_⟩ _ a g w h b;simp only[go_sem,seval,Zb]at g;obtain ⟨⟨_,x,_,_⟩,_,hn⟩:=g;subst hn;have y:=WF.slotL w x (j:=0) rfl;have:=ZC a;have:=ZE a;have:=Zk (ZD a) y;simp only[*,go_sem,seval];refine ZPO h fun _ z h=>Zd (ZhF z)<|yA ?_
 iterate 3 refine yB h (fun _ h=>?_) fun _ h=>?_
 replace h:=Zr h b;cases h;exact yD;refine ZPO h fun _ A h=>Zd (Ziz A)<|yA ?_
 refine yB h (fun _ h=>?_) fun _ h=>?_
 exact yR h [0];replace h:=Zr h b;cases h;exact yD;refine ZPO h fun _ B h=>Zd (Ziz B)<|yA ?_
 refine yB h (fun _ h=>?_) fun _ h=>?_
 refine ⟨_,[],[0],(A3 h).symm,yF,?_⟩;iterate 2 (simp only[*,go_sem,seval];replace h:=Zr h b;cases h)
 simp only[*,go_sem,seval];rintro ⟨⟩ ⟨_,_,_⟩ k _ h;simp only[go_sem,seval,Zb]at k;obtain ⟨⟨_,_,_,_⟩,_,hn⟩:=k;subst hn;have:=ZB (append_0.cond.length);simp only[*,go_sem,seval];refine ZPO h fun l C h=>Zd (ZdR C)<|yA ?_
 refine Zh h (fun i _ st=>IV [(1,.bp 0 0),(5,.p false [.row 1]),(81,yM (yZ append_0.thn)),(82,yL append_0.thn.length),(83,yL i)] [zD 76 (ZL append_0),.row 9 1 (A0 ZA l) 2] st) [] [0,81] yF yD ?_ ?_
 rintro D _ ⟨⟩ ⟨_,_,_⟩ _ d m E h o;simp only[go_sem,seval,Zb]at m;obtain ⟨⟨_,_,F,_,_⟩,_,_,hn⟩:=m;subst hn;have G:=WF.slotL E F (j:=0) rfl;have:=ZC d;have:=ZE d;have:=Zk (ZD d) G;simp only[*,go_sem,seval];refine ZPO h fun _ H h=>Zd (Zou H)<|yA ?_
 refine yB h (fun _ h=>?_) fun _ h=>?_
 refine ZPO h fun e I h=>Zd (Zep I)<|yA ?_
 refine Zh h (fun i _ st=>IV [(1,.bp 0 0),(5,.p false [.row 1]),(81,yM (yZ append_0.thn)),(82,yL append_0.thn.length),(83,yL D),(93,.p false [.row 2]),(94,yL e.length),(95,yL i)] [zD 76 (ZL append_0),.row 9 1 (A0 ZA l) 2,.row 9 1 (A0 ZA e) 2] st) [] [0,1,178] yF yD ?_ ?_
 rintro _ _ ⟨⟩ ⟨_,_,_⟩ _ f q J h K;simp only[go_sem,seval,Zb]at q;obtain ⟨⟨_,_,_,_,_,_,_,_⟩,_,_,L,hn⟩:=q;subst hn;have M:=WF.rowL J L;have:=ZC f;have:=ZE f;have:=Zk (ZD f) M;simp only[*,go_sem,seval];refine ZPO h fun _ N h=>Zd (ZaB N)<|yA ?_
 refine yB h (fun _ h=>?_) fun _ h=>?_
 exact yR h [0,1,2];replace h:=Zr h K;replace h:=Zr h o;cases h;exact yD;rintro ⟨⟩ ⟨_,_,_⟩ t _ h;simp only[go_sem,seval,Zb]at t;obtain ⟨⟨_,_,_,_,_,_,_,_⟩,_,_,_,hn⟩:=t;subst hn;have:=ZB (e.length);simp only[*,go_sem,seval];exact yR h [0,1];replace h:=Zr h o;cases h;exact yD;rintro ⟨⟩ ⟨_,_,_⟩ u _ h;simp only[go_sem,seval,Zb]at u;obtain ⟨⟨_,_,_,_,_⟩,_,_,hn⟩:=u;subst hn;have:=ZB (append_0.thn.length);simp only[*,go_sem,seval];refine ZPO h fun _ O h=>Zd (ZlB O)<|yA ?_
 refine ZPO h fun _ P h=>Zd (Qy P) ?_
 iterate 2 (cases h;exact yD)
theorem Zhi {x_0:Zl}{r:Bool}(h:ZbV x_0=some r):Zm prog J0 182 [(true,ZJ x_0)] [(false,[(false,.bool r)])]:=by
 refine fnk func182 rfl ?_;unfold ZbV at h;simp only[fnS,f182,Zo,go_sem,seval];refine ZPO h fun v1 a h=>Zd (ZgO a)<|yA ?_
 refine yB h (fun _ h=>?_) fun _ h=>?_
 iterate 2 (cases h;exact yD)
theorem Zd2 {p_0:Zx}{b_1:List Zi}{facts_2:List Zc}{r:List Zc}(h:XQ p_0 b_1 facts_2=some r):Zm prog J0 283 [(true,Qp p_0),(false,[.sl 162 2 (A0 ZR b_1)]),(false,[.sl 53 2 (A0 Zs facts_2)])] [(false,[(false,.sl 53 2 (A0 Zs r))])]:=by
 refine fnk func283 rfl ?_;unfold XQ at h;simp only[fnS,f283,Zo,go_sem,seval];refine Zh h (fun i a st=>IV [(1,yM (yX b_1)),(2,yM (yT facts_2)),(3,.bp 0 0),(7,.p false [.row 1]),(8,yL i)] [.box 78 [.c (.str p_0.rel),.c (yU p_0.args)],.row 53 2 (A0 Zs a) 2] st) [] [0,32] yF yD ?_ ?_
 rintro _ _ a ⟨_,_,_⟩ _ b d f h _;simp only[go_sem,seval,Zb]at d;obtain ⟨⟨_,g,_,_,_⟩,_,_,hn⟩:=d;subst hn;have k:=WF.slotL f g (j:=0) rfl;have:=ZC b;have:=ZE b;have:=Zk (ZD b) k;simp only[*,go_sem,seval];refine ZPO h fun _ l h=>Zd (Zg5 l)<|yA ?_
 refine yB h (fun _ h=>?_) fun _ h=>?_
 refine ZPO h fun _ m h=>Zd (Xr m) ?_
 obtain ⟨o,h⟩:=Zv h;try simp only[Nat.reduceLeDiff]at o
 simp only[*,go_sem,seval];exact yR h [0,386];exact yR h [0,1];rintro a ⟨_,_,_⟩ e _ h;simp only[go_sem,seval,Zb]at e;obtain ⟨⟨_,_,_,_,_⟩,_,_,hn⟩:=e;subst hn;have:=ZB (facts_2.length);cases h;exact yD
theorem ZnO {append_0:Zg}{String_1:Int}{a_2:Zq}{a_3:List Zc}{r:Zf}(h:ZbA append_0 String_1 a_2 a_3=some r):Zm prog J0 211 [(true,ZL append_0),(false,[.int .i64 String_1]),(true,YU a_2),(false,[.sl 53 2 (A0 Zs a_3)])] [(true,[(false,.int .i64 r.for_),(false,.sl 3 1 (A0 ZO r.inn)),(false,.sl 3 1 (A0 ZO r.outs))])]:=by
 refine fnk func211 rfl ?_;unfold ZbA at h;simp only[fnS,f211,Zo,go_sem,seval];obtain ⟨_,_,_,_,h⟩:=ZcM h;simp only[*,go_sem,seval];refine ZPO h fun d g h=>Zd (Zfq g)<|yA ?_
 refine Zh h (fun i a st=>IV [(3,yM (yT a_3)),(4,.bp 0 0),(6,.bp 1 0),(8,.bp 2 0),(9,.bp 3 0),(11,.p false [.row 5]),(12,yL i)] [zD 76 (ZL append_0),zD 111 (YU a_2),.box 179 [.c (.int .i64 0),.nil 3 1,.nil 3 1],.box 53 [.c (.str d.1.rel),.row 4],.row 9 1 (A0 ZA d.1.args) 2,.row 53 2 (A0 Zs a) 2] st) [] [0,16,32,240,176,288] yF yD ?_ ?_
 rintro _ _ a ⟨_,_,_⟩ _ b e k h _;simp only[go_sem,seval,Zb]at e;obtain ⟨⟨_,_,_,_,_,_,_⟩,l,_,_,_,_,_,hn⟩:=e;subst hn;have m:=WF.boxL k l (j:=2) rfl;have:=ZC b;have:=ZE b;have:=Zk (ZD b) m;simp only[*,go_sem,seval];refine yB h (fun _ h=>?_) fun _ h=>?_
 refine ZPO h fun _ o h=>Zd (Zfq o) ?_
 obtain ⟨q,h⟩:=Zv h;try simp only[Nat.reduceLeDiff]at q
 simp only[*,go_sem,seval];exact yR h [0,1,2,3,4,486];exact yR h [0,1,2,3,4,5];rintro a ⟨_,_,_⟩ f _ h;simp only[go_sem,seval,Zb]at f;obtain ⟨⟨_,_,_,_,_,_,_⟩,_,_,_,_,_,_,hn⟩:=f;subst hn;have:=ZB (append_0.cond.length);simp only[*,go_sem,seval];refine ZPO h fun _ t h=>Zd (Zfa t)<|yA ?_
 refine ZPO h fun _ u h=>Zd (ZiF u)<|yA ?_
 refine ZPO h fun _ v h=>Zd (ZiF v) ?_
 cases h;exact yD
theorem Zog {b_0:Zt}{r:List Bool}(h:Zeu b_0=some r):Zm prog J0 164 [(true,Qu b_0)] [(false,[(false,.sl 4 1 (A0 Ze4 r))])]:=by
 refine fnk func164 rfl ?_;unfold Zeu at h;simp only[fnS,f164,Zo,go_sem,seval];refine ZPO h fun v1 f h=>Zd (ZoP f)<|yA ?_
 refine Zh h (fun i a st=>IV [(3,.p false [.row 0]),(4,.p false [.row 1]),(5,yL i)] [.row 3 1 (A0 ZO v1) 2,.row 4 1 (A0 Ze4 a) 2] st) [] [48,80] yF yD ?_ ?_
 rintro _ _ a ⟨_,_,_⟩ _ b d g h _;simp only[go_sem,seval,Zb]at d;obtain ⟨⟨_,_,_⟩,j,_,hn⟩:=d;subst hn;have k:=WF.rowL g j;have:=ZC b;have:=ZE b;have:=Zk (ZD b) k;obtain ⟨l,h⟩:=Zv h;try simp only[Nat.reduceLeDiff]at l
 simp only[*,go_sem,seval];exact yR h [0,178];rintro a ⟨_,_,_⟩ e _ h;simp only[go_sem,seval,Zb]at e;obtain ⟨⟨_,_,_⟩,_,_,hn⟩:=e;subst hn;have:=ZB (v1.length);cases h;exact yD
theorem ZHQ {x_0:Zl}{r:ByteArray}(h:ZG7 x_0=some r):Zm prog J0 46 [(true,ZJ x_0)] [(false,[(false,.str r)])]:=by
 refine fnk func46 rfl ?_;unfold ZG7 at h;have a:ZbS ⟨#[110,111,116,32]⟩=true:=by decide
 have b:ZbS ⟨#[]⟩=true:=by decide
 simp only[fnS,f46,Zo,go_sem,seval,a,b];refine ZPO h fun v1 c h=>Zd (ZgO c)<|yA ?_
 iterate 2 refine yB h (fun _ h=>?_) fun _ h=>?_
 refine ZPO h fun _ d h=>Zd (ZHa d) ?_
 cases h;exact yD;refine yB h (fun _ h=>?_) fun _ h=>?_
 refine ZPO h fun _ e h=>Zd (ZHa e) ?_
 obtain ⟨f,h⟩:=Zv h;simp only[go_sem]at f;cases h;exact yD;refine ZPO h fun _ g h=>Zd (ZIj g) ?_
 obtain ⟨_,h⟩:=Zv h;obtain ⟨i,h⟩:=Zv h;simp only[go_sem]at i;iterate 2 (cases h;exact yD)
end
section
theorem Zhh {x_0:Zl}{b_1:List Zi}{facts_2:List Zc}{r:Bool}(h:ZcY x_0 b_1 facts_2=some r):Zm prog J0 131 [(true,ZJ x_0),(false,[.sl 162 2 (A0 ZR b_1)]),(false,[.sl 53 2 (A0 Zs facts_2)])] [(false,[(false,.bool r)])]:=by
 refine fnk func131 rfl ?_;unfold ZcY at h;simp only[fnS,f131,Zo,go_sem,seval];refine ZPO h fun v1 a h=>Zd (ZhF a)<|yA ?_
 refine yB h (fun _ h=>?_) fun _ h=>?_
 refine ZPO h fun _ b h=>Zd (Zas b)<|yA ?_
 iterate 2 refine yB h (fun _ h=>?_) fun _ h=>?_
 refine ZPO h fun _ c h=>Zd (Zes c) ?_
 cases h;exact yD;refine yB h (fun _ h=>?_) fun _ h=>?_
 refine ZPO h fun _ d h=>Zd (Zes d) ?_
 cases h;exact yD;refine ZPO h fun _ e h=>Zd (ZmA e) ?_
 iterate 3 (cases h;exact yD)
theorem Zoo {l_0:List Zg}{r:Bool}(h:Zd7 l_0=some r):Zm prog J0 291 [(false,[.sl 76 4 (A0 ZL l_0)])] [(false,[(false,.bool r)])]:=by
 refine fnk func291 rfl ?_;unfold Zd7 at h;simp only[fnS,f291,Zo,go_sem,seval];refine yB h (fun _ h=>?_) fun _ h=>?_
 cases h;exact yD;refine Zh h (fun i _ st=>IV [(0,yM (yW l_0)),(8,yM (yW l_0)),(9,yL l_0.length),(10,yL i)] [] st) [] [] yF yD ?_ ?_
 rintro _ _ ⟨⟩ ⟨_,_,_⟩ _ a b f h d;simp only[go_sem,seval,Zb]at b;obtain ⟨⟨g,_,_,_⟩,hn⟩:=b;subst hn;have k:=WF.slotL f g (j:=0) rfl;have:=ZC a;have:=ZE a;have:=Zk (ZD a) k;simp only[*,go_sem,seval];refine ZPO h fun _ l h=>Zd (ZhM l)<|yA ?_
 refine yB h (fun _ h=>?_) fun _ h=>?_
 refine ZPO h fun _ m h=>Zd (ZoE m)<|yA ?_
 refine yB h (fun _ h=>?_) fun _ h=>?_
 replace h:=Zr h d;cases h;exact yD;exact yR h [];replace h:=Zr h d;cases h;exact yD;rintro ⟨⟩ ⟨_,_,_⟩ e _ h;simp only[go_sem,seval,Zb]at e;obtain ⟨⟨_,_,_,_⟩,hn⟩:=e;subst hn;have:=ZB (l_0.length);cases h;exact yD
theorem Zl7 {r_0:Zg}{r:Bool}(h:Zc0 r_0=some r):Zm prog J0 292 [(true,ZL r_0)] [(false,[(false,.bool r)])]:=by
 refine fnk func292 rfl ?_;unfold Zc0 at h;simp only[fnS,f292,Zo,go_sem,seval];refine ZPO h fun v1 l h=>Zd (ZhM l)<|yA ?_
 refine yB h (fun _ h=>?_) fun _ h=>?_
 refine ZPO h fun _ m h=>Zd (ZoM m)<|yA ?_
 refine yB h (fun _ h=>?_) fun _ h=>?_
 refine Zh h (fun i _ st=>IV [(1,.bp 0 0),(17,yM (yY r_0.cond)),(18,yL r_0.cond.length),(19,yL i)] [zD 76 (ZL r_0)] st) [] [0] yF yD ?_ ?_
 rintro o _ ⟨⟩ ⟨_,_,_⟩ _ a e q h t;simp only[go_sem,seval,Zb]at e;obtain ⟨⟨_,u,_,_⟩,_,hn⟩:=e;subst hn;have v:=WF.slotL q u (j:=0) rfl;have:=ZC a;have:=ZE a;have:=Zk (ZD a) v;simp only[*,go_sem,seval];refine yB h (fun _ h=>?_) fun _ h=>?_
 exact yR h [0];refine ZPO h fun w x h=>Zd (ZdR x)<|yA ?_
 refine ZPO h fun b y h=>Zd (ZcA y)<|yA ?_
 refine Zh h (fun i _ st=>IV [(1,.bp 0 0),(5,.p false [.row 1]),(17,yM (yY r_0.cond)),(18,yL r_0.cond.length),(19,yL o),(31,.p false [.row 2]),(32,yL b.length),(33,yL i)] [zD 76 (ZL r_0),.row 9 1 (A0 ZA w) 2,.row 9 1 (A0 ZA b) 2] st) [] [0,193,241] yF yD ?_ ?_
 rintro _ _ ⟨⟩ ⟨_,_,_⟩ _ d f z h A;simp only[go_sem,seval,Zb]at f;obtain ⟨⟨_,_,_,_,_,_,_,_⟩,_,_,B,hn⟩:=f;subst hn;have C:=WF.rowL z B;have:=ZC d;have:=ZE d;have:=Zk (ZD d) C;simp only[*,go_sem,seval];refine ZPO h fun _ D h=>Zd (ZaB D)<|yA ?_
 refine yB h (fun _ h=>?_) fun _ h=>?_
 exact yR h [0,1,2];replace h:=Zr h A;replace h:=Zr h t;cases h;exact yD;rintro ⟨⟩ ⟨_,_,_⟩ g _ h;simp only[go_sem,seval,Zb]at g;obtain ⟨⟨_,_,_,_,_,_,_,_⟩,_,_,_,hn⟩:=g;subst hn;have:=ZB (b.length);simp only[*,go_sem,seval];exact yR h [0];rintro ⟨⟩ ⟨_,_,_⟩ k _ h;simp only[go_sem,seval,Zb]at k;obtain ⟨⟨_,_,_,_⟩,_,hn⟩:=k;subst hn;have:=ZB (r_0.cond.length);iterate 3 (cases h;exact yD)
theorem ZeX {append_0:Zg}{r:Bool}(h:ZcZ append_0=some r):Zm prog J0 120 [(true,ZL append_0)] [(false,[(false,.bool r)])]:=by
 refine fnk func120 rfl ?_;unfold ZcZ at h;simp only[fnS,f120,Zo,go_sem,seval];refine ZPO h fun v1 H h=>Zd (Zg3 H)<|yA ?_
 refine yB h (fun _ h=>?_) fun _ h=>?_
 refine ZPO h fun _ I h=>Zd (XM I)<|yA ?_
 refine yB h (fun _ h=>?_) fun _ h=>?_
 refine ZPO h fun _ J h=>Zd (XM J)<|yA ?_
 refine yB h (fun _ h=>?_) fun _ h=>?_
 refine ZPO h fun _ K h=>Zd (XM K)<|yA ?_
 refine yB h (fun _ h=>?_) fun _ h=>?_
 refine ZPO h fun e L h=>Zd (ZbG L)<|yA ?_
 refine Zh h (fun i _ st=>IV [(1,.bp 0 0),(3,.p false [.row 1]),(4,yL i)] [zD 76 (ZL append_0),.row 9 1 (A0 ZA e) 2] st) [] [0,480] yF yD ?_ ?_
 rintro b a ⟨⟩ ⟨_,_,_⟩ _ f o M h d;simp only[go_sem,seval,Zb]at o;obtain ⟨⟨_,_,_⟩,N,_,hn⟩:=o;subst hn;have O:=WF.boxL M N (j:=2) rfl;have:=ZC f;have:=ZE f;have:=Zk (ZD f) O;simp only[*,go_sem,seval];refine ZPO h fun _ P h=>Zd (ZgO P)<|yA ?_
 iterate 3 refine yB h (fun _ h=>?_) fun _ h=>?_
 replace h:=Zr h d;cases h;exact yD;refine ZPO h fun Q R h=>Zd (ZbG R)<|yA ?_
 refine ZPO h fun q S h=>Zd (ZaP S)<|yA ?_
 refine Zh h (fun i _ st=>IV [(1,.bp 0 0),(3,.p false [.row 1]),(4,yL b),(5,.bp 2 0),(6,.p false [.row 3]),(7,.p false [.row 4]),(8,yL i),(58,yL b),(59,yM (.bool ((b:Int)==0))),(60,yM (.bool ((b:Int)==0))),(61,.bp 2 0),(62,yM (.int .i64 a.kind)),(63,yM (.bool (a.kind != 1))),(64,yM (.bool (a.kind != 1)))] [zD 76 (ZL append_0),.row 9 1 (A0 ZA e) 2,zD 80 (ZJ a),.row 9 1 (A0 ZA Q) 2,.row 9 1 (A0 ZA q) 2] st) [] [0,1,162,418,466] yF yD ?_ ?_
 rintro _ _ ⟨⟩ ⟨_,_,_⟩ _ g t T h u;simp only[go_sem,seval,Zb]at t;obtain ⟨⟨_,_,_,_,_,_,_,_,_,_,_,_,_,_⟩,_,_,_,_,U,hn⟩:=t;subst hn;have V:=WF.rowL T U;have:=ZC g;have:=ZE g;have:=Zk (ZD g) V;simp only[*,go_sem,seval];refine ZPO h fun _ W h=>Zd (YQ W)<|yA ?_
 refine ZPO h fun _ X h=>Zd (Zhi X)<|yA ?_
 iterate 3 refine yB h (fun _ h=>?_) fun _ h=>?_
 exact yR h [0,1,2,3,4];exact yR h [0,1,2,3,4];replace h:=Zr h u;replace h:=Zr h d;cases h;exact yD;iterate 2 refine yB h (fun _ h=>?_) fun _ h=>?_
 exact yR h [0,1,2,3,4];refine ZPO h fun _ Y h=>Zd (Zfu Y)<|yA ?_
 refine yB h (fun _ h=>?_) fun _ h=>?_
 replace h:=Zr h u;replace h:=Zr h d;cases h;exact yD;exact yR h [0,1,2,3,4];exact yR h [0,1,2,3,4];rintro ⟨⟩ ⟨_,_,_⟩ v _ h;simp only[go_sem,seval,Zb]at v;obtain ⟨⟨_,_,_,_,_,_,_,_,_,_,_,_,_,_⟩,_,_,_,_,_,hn⟩:=v;subst hn;have:=ZB (q.length);simp only[*,go_sem,seval];exact yR h [0,1];refine ZPO h fun Z aa h=>Zd (ZbG aa)<|yA ?_
 refine ZPO h fun w ab h=>Zd (ZaP ab)<|yA ?_
 refine Zh h (fun i _ st=>IV [(1,.bp 0 0),(3,.p false [.row 1]),(4,yL b),(5,.bp 2 0),(6,.p false [.row 3]),(7,.p false [.row 4]),(8,yL i),(58,yL b),(59,yM (.bool ((b:Int)==0))),(60,yM (.bool ((b:Int)==0))),(64,yM (.bool false))] [zD 76 (ZL append_0),.row 9 1 (A0 ZA e) 2,zD 80 (ZJ a),.row 9 1 (A0 ZA Z) 2,.row 9 1 (A0 ZA w) 2] st) [] [0,1,162,418,466] yF yD ?_ ?_
 rintro _ _ ⟨⟩ ⟨_,_,_⟩ _ k x ac h y;simp only[go_sem,seval,Zb]at x;obtain ⟨⟨_,_,_,_,_,_,_,_,_,_,_⟩,_,_,_,_,ad,hn⟩:=x;subst hn;have ae:=WF.rowL ac ad;have:=ZC k;have:=ZE k;have:=Zk (ZD k) ae;simp only[*,go_sem,seval];refine ZPO h fun _ af h=>Zd (YQ af)<|yA ?_
 refine ZPO h fun _ ag h=>Zd (Zhi ag)<|yA ?_
 iterate 3 refine yB h (fun _ h=>?_) fun _ h=>?_
 exact yR h [0,1,2,3,4];exact yR h [0,1,2,3,4];replace h:=Zr h y;replace h:=Zr h d;cases h;exact yD;iterate 2 refine yB h (fun _ h=>?_) fun _ h=>?_
 exact yR h [0,1,2,3,4];refine ZPO h fun _ ah h=>Zd (Zfu ah)<|yA ?_
 refine yB h (fun _ h=>?_) fun _ h=>?_
 replace h:=Zr h y;replace h:=Zr h d;cases h;exact yD;exact yR h [0,1,2,3,4];exact yR h [0,1,2,3,4];rintro ⟨⟩ ⟨_,_,_⟩ z _ h;simp only[go_sem,seval,Zb]at z;obtain ⟨⟨_,_,_,_,_,_,_,_,_,_,_⟩,_,_,_,_,_,hn⟩:=z;subst hn;have:=ZB (w.length);simp only[*,go_sem,seval];exact yR h [0,1];replace h:=Zr h d;cases h;exact yD;rintro ⟨⟩ ⟨_,_,_⟩ A _ h;simp only[go_sem,seval,Zb]at A;obtain ⟨⟨_,_,_⟩,_,_,hn⟩:=A;subst hn;have:=ZB (append_0.cond.length);simp only[*,go_sem,seval];refine Zh h (fun i _ st=>IV [(1,.bp 0 0),(3,.p false [.row 1]),(10,yL i)] [zD 76 (ZL append_0),.row 9 1 (A0 ZA e) 2] st) [] [0,1] yF yD ?_ ?_
 rintro ai _ ⟨⟩ ⟨_,_,_⟩ _ l B aj h C;simp only[go_sem,seval,Zb]at B;obtain ⟨⟨_,_,_⟩,ak,_,hn⟩:=B;subst hn;have al:=WF.boxL aj ak (j:=3) rfl;have:=ZC l;have:=ZE l;have:=Zk (ZD l) al;simp only[*,go_sem,seval];refine ZPO h fun _ am h=>Zd (Zn1 am)<|yA ?_
 refine yB h (fun _ h=>?_) fun _ h=>?_
 refine ZPO h fun D an h=>Zd (Zc6 an)<|yA ?_
 refine Zh h (fun i _ st=>IV [(1,.bp 0 0),(3,.p false [.row 1]),(10,yL ai),(11,.p false [.row 2]),(12,yL i)] [zD 76 (ZL append_0),.row 9 1 (A0 ZA e) 2,.row 9 1 (A0 ZA D) 2] st) [] [0,1,290] yF yD ?_ ?_
 rintro _ _ ⟨⟩ ⟨_,_,_⟩ _ m E ao h ap;simp only[go_sem,seval,Zb]at E;obtain ⟨⟨_,_,_,_,_⟩,_,_,aq,hn⟩:=E;subst hn;have ar:=WF.rowL ao aq;have:=ZC m;have:=ZE m;have:=Zk (ZD m) ar;simp only[*,go_sem,seval];refine ZPO h fun _ au h=>Zd (YQ au)<|yA ?_
 refine yB h (fun _ h=>?_) fun _ h=>?_
 exact yR h [0,1,2];replace h:=Zr h ap;replace h:=Zr h C;cases h;exact yD;rintro ⟨⟩ ⟨_,_,_⟩ F _ h;simp only[go_sem,seval,Zb]at F;obtain ⟨⟨_,_,_,_,_⟩,_,_,_,hn⟩:=F;subst hn;have:=ZB (D.length);simp only[*,go_sem,seval];exact yR h [0,1];replace h:=Zr h C;cases h;exact yD;rintro ⟨⟩ ⟨_,_,_⟩ G _ h;simp only[go_sem,seval,Zb]at G;obtain ⟨⟨_,_,_⟩,_,_,hn⟩:=G;subst hn;have:=ZB (append_0.thn.length);simp only[*,go_sem,seval];refine ZPO h fun _ av h=>Zd (Zof av) ?_
 iterate 5 (cases h;exact yD)
theorem Zmo {x_0:Zl}{b_1:List Zi}{r:Bool}(h:ZcI x_0 b_1=some r):Zm prog J0 284 [(true,ZJ x_0),(false,[.sl 162 2 (A0 ZR b_1)])] [(false,[(false,.bool r)])]:=by
 refine fnk func284 rfl ?_;unfold ZcI at h;simp only[fnS,f284,Zo,go_sem,seval];refine ZPO h fun v1 a h=>Zd (Zhi a)<|yA ?_
 refine yB h (fun _ h=>?_) fun _ h=>?_
 refine ZPO h fun _ b h=>Zd (Zan b)<|yA ?_
 refine yB h (fun _ h=>?_) fun _ h=>?_
 refine ZPO h fun _ c h=>Zd (Zdu c)<|yA ?_
 refine ZPO h fun _ d h=>Zd (Zdu d)<|yA ?_
 iterate 3 refine yB h (fun _ h=>?_) fun _ h=>?_
 cases h;exact yD;refine yB h (fun _ h=>?_) fun _ h=>?_
 cases h;exact yD;refine ZPO h fun _ e h=>Zd (Ziy e)<|yA ?_
 refine yB h (fun _ h=>?_) fun _ h=>?_
 refine ZPO h fun _ f h=>Zd (Ziy f)<|yA ?_
 refine yB h (fun _ h=>?_) fun _ h=>?_
 refine ZPO h fun _ g h=>Zd (ZeI g) ?_
 iterate 7 (cases h;exact yD)
theorem Zul {l_0:List Zc}{b_1:Zt}{r:List Zc}(h:ZjI l_0 b_1=some r):Zm prog J0 103 [(false,[.sl 53 2 (A0 Zs l_0)]),(true,Qu b_1)] [(false,[(false,.sl 53 2 (A0 Zs r))])]:=by
 refine fnk func103 rfl ?_;unfold ZjI at h;simp only[fnS,f103,Zo,go_sem,seval];refine ZPO h fun v1 f h=>Zd (Zog f)<|yA ?_
 refine Zh h (fun i a st=>IV [(0,yM (yT l_0)),(5,.p false [.row 0]),(6,.p false [.row 1]),(7,yL i)] [.row 53 2 (A0 Zs a) 2,.row 4 1 (A0 Ze4 v1) 2] st) [] [32,80] yF yD ?_ ?_
 rintro _ _ a ⟨_,_,_⟩ _ b d g h k;simp only[go_sem,seval,Zb]at d;obtain ⟨⟨l,_,_,_⟩,_,_,hn⟩:=d;subst hn;have m:=WF.slotL g l (j:=0) rfl;have:=ZC b;have:=ZE b;have:=Zk (ZD b) m;simp only[*,go_sem,seval];refine yB h (fun _ h=>?_) fun _ h=>?_
 obtain ⟨_,h⟩:=Zv h;obtain ⟨_,_,h⟩:=Za h;simp only[*,go_sem,seval];refine yB h (fun _ h=>?_) fun _ h=>?_
 refine ZPO h fun _ o h=>Zd (Xr o) ?_
 obtain ⟨q,h⟩:=Zv h;try simp only[Nat.reduceLeDiff]at q
 simp only[*,go_sem,seval];exact yR h [338,1];exact yR h [0,1];replace h:=Zr h k;cases h;exact yD;rintro a ⟨_,_,_⟩ e _ h;simp only[go_sem,seval,Zb]at e;obtain ⟨⟨_,_,_,_⟩,_,_,hn⟩:=e;subst hn;have:=ZB (l_0.length);cases h;exact yD
end
end Go.Proofs.YtlpkbfjcdaanmaaGreatDoor
