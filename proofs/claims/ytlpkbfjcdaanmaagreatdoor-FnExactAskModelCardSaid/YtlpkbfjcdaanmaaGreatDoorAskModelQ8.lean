/- Texts of this proof, joined: Tw, N5, N6, N9, S24, A1, MText, Mk, Aw, Sz, To, Eq, Mark, Held, Open, ExactAskModel. What each holds is said at its theorems. -/
import Derived.Test.YtlpkbfjcdaanmaaGreatDoorAskModelQ6
import Derived.Test.YtlpkbfjcdaanmaaGreatDoorAskModelQ5
import Derived.Test.YtlpkbfjcdaanmaaGreatDoorAskModelQ7
import Derived.Test.YtlpkbfjcdaanmaaGreatDoorProg
import Derived.Test.YtlpkbfjcdaanmaaGreatDoorAskModelQ1
import Derived.Outline
import Derived.WalkSpells
import Derived.WalkLawsBesides
import Derived.Test.YtlpkbfjcdaanmaaGreatDoorAskModelQ3
import Derived.Test.YtlpkbfjcdaanmaaGreatDoorAskModelQ4
import Derived.StillTailTactics
import Derived.Deep.RegionHeld3
import Derived.Deep.Slices
import Derived.ChangeArms
import Derived.ProofKit
open Bool renaming and_eq_true→AG
open ByteArray renaming size→As
open Go.ByteArray renaming mk_append_mk→Ar
open Int renaming le_trans→AB,le_refl→AP
open List renaming mem_append→A5,drop_eq_getElem_cons→A6,drop_of_length_le→A9,getElem?_eq_getElem→AA,append_assoc→AC,mem_cons→AD,append_nil→AF,length_cons→AH,map_cons→AJ,sum_cons→AK,set_append_right→AN,set_cons_zero→AO,getElem_append_right→AQ,take_add_one→AR,nodup_append→AS,take_of_length_le→AT,getElem?_eq_some_iff→AU,not_mem_nil→AW,drop_zero→AY,sublist_append_right→AZ,length_append→Aa,mem_append_right→Ac,mem_flatten→Ag,getElem_mem→Ah,mem_of_getElem?→Ai,dropLast_concat_getLast→Al,getElem?_eq_none→Am,eq_nil_of_length_eq_zero→Aq,mem_singleton→At
open Nat renaming le_refl→A0,add_zero→A3,zero_le→A4,lt_of_lt_of_le→AE,le_trans→AI,mul_one→AM,le_succ→Ae
open Option renaming bind_some→AL,toList_some→Ak
open Option.some renaming inj→Ao
open UInt8 renaming ofNat→AX
open Go.Proofs.Tryz
set_option linter.unusedSimpArgs false
set_option linter.unusedVariables false
set_option maxRecDepth 1000000
set_option maxHeartbeats 4000000
open Go.Lib renaming hid→yS
namespace Go.Proofs.YtlpkbfjcdaanmaaGreatDoor
section
open Go.RowKit
theorem Zno:(prog.info? 111).map (fun i=>(i.zero,i.size,i.bytes))=some (some (.agg #[.slice none 0 0,.slice none 0 0]),2,48):=yO
theorem Zvv:(prog.info? 53).map (fun i=>(i.zero,i.size,i.bytes))=some (some (.agg #[.string ⟨#[]⟩,.slice none 0 0]),2,40):=yO
theorem Zqm {B:Nat} {w0 w w':World} {o:Option Nat} (h:Below B w0 w) (g:w.grownBy w' o) (hB:B≤w.heap.size) (ho:∀q,o=some q→B≤q):Below B w0 w':=
 ⟨g.os.trans h.os,g.tape.trans h.tape,g.output.trans h.output,AI h.size g.size,fun q hq=>(g.block q (AE hq hB) (fun e=>by have:=ho q e.symm;omega)).trans (h.block q hq)⟩
theorem Own.permT {w:World} {base:Nat} {L M:List Nat} (h:Own w base L) (p:L.Perm M):Own w base M:=
 ⟨p.nodup_iff.1 h.nodup,fun b m=>h.ge b (p.mem_iff.2 m),fun b m=>h.plain b (p.mem_iff.2 m)⟩
theorem Zpy {P:Program} {j:Array Oper} {o:Oper} {a:Act} {K:Act→World→Prop} {Q:Exit→Act→World→Prop} {E:Prop} {w0:World} (l:o.guard=none) (s x:Operand) (t:TypeId)
  (ho:o.op=.call { callee:=.builtin .append,args:=#[s,x],argTypes:=#[t,t] })
  (e:TypeId) (z:Value) (size c:Nat) (ht:P.underlying t=some (.slice e)) (hi:(P.info? e).map (fun i=>(i.zero,i.size,i.bytes))=some (some z,size,c)) (m:z.cells.size=size) (p:0<size)
  (base:Nat) (v:Value) (n:Nat) (xs b:List Value) (hs:a.eval s=v) (hx:a.eval x=.slice (some ⟨w0.heap.size,0,none⟩) 1 1) (k:w0.ownsV base e size v n xs)
  (hl:b.length=size) (h1:∀u∈b,u.oneCell'=true) (q:n+1≤9223372036854775807) (d:(n+1) * c≤140737488355328) (f:base≤w0.heap.size)
  (h:∀v' w',w'.ownsV base e size v' (n+1) (xs++b)→w0.grownBy w' v.ownBlock→(∀g,v'.ownBlock=some g→v.ownBlock=some g∨w0.heap.size≤g)→K (a.put o.dst v') w'):
  if Region.wanted o (yielded j a.tmps)=true then Oper.wp P o a (w0.alloc (.cells b.toArray e)) K Q else E:=by
 have hw:Region.wanted o (yielded j a.tmps)=true:=by simp [Region.wanted,l]
 rw [if_pos hw]
 exact ZrP s x t ho e z size c ht hi m p base v n xs b hs hx k hl h1 q d f _ (.inl rfl) h
theorem ZeC.laterT {α:Type} {c:Yh α} {E:TypeId} {W w w':World} {v:Value} {ds:List α} (h:ZeC c E W v ds w) (hb:Below w.heap.size w w'):ZeC c E W v ds w':=by
 obtain ⟨⟨xs,L,h1,h2,h3⟩,h4⟩:=h
 have a:=h3.lt
 exact ⟨⟨xs,L,Zdt h1 hb,Xd h2 (fun b mb=>hb.block b (a b (by simp [mb]))),h3.keep (fun b mb=>hb.block b (a b mb))⟩,h4.trans (hb.mono h4.size)⟩
theorem ZwY (w:World):ZeC Zb6 111 w (.slice (some ⟨w.heap.size,0,none⟩) 1 1) [ZvF] (w.alloc (.cells #[.slice none 0 0,.slice none 0 0] 111)):=by
 have hn:=heap_alloc_new w (.cells #[.slice none 0 0,.slice none 0 0] 111)
 refine ⟨⟨[.slice none 0 0,.slice none 0 0],[],⟨rfl,.inr ⟨w.heap.size,0,1,_,rfl,A0 _,hn,A0 _,by unfold maxLen;omega,by simp [Zb6],by simp [Zb6]⟩⟩,?_,?_⟩,(Below.refl _ w).alloc (A0 _) _⟩
 ·exact ZcK ⟨none,0,[],none,0,[],rfl,rfl,A0 _,by unfold maxLen;omega,Sli.nil _ _,A0 _,by unfold maxLen;omega,Sli.nil _ _⟩
 ·exact ⟨by simp [Value.ownBlock],by simp [Value.ownBlock],fun b mb=>by simp [Value.ownBlock] at mb;subst mb;exact ⟨_,_,hn⟩⟩
theorem Zw3 {l:List Zl} {k:Nat} {x:Zl} {F:List Zc} (h:l[k]?=some x):Zz (l.take (k+1)) F=ZfE x F (Zz (l.take k) F):=by
 rw [AR,h];exact Zaw _ _ _
theorem ZkI {ts:List Zq} {j:Nat} {t:Zq} {x:Zl} {F:List Zc} (h:ts[j]?=some t):(ts.take (j+1)).flatMap (QD x F)=(ts.take j).flatMap (QD x F)++QD x F t:=by
 rw [AR,h,List.flatMap_append];simp
theorem ZuO {α β:Type} {F:List α} {q:Nat} {f:α} {g:α→Option β} (h:F[q]?=some f):(F.take (q+1)).filterMap g=(F.take q).filterMap g++(g f).toList:=by
 rw [AR,h,List.filterMap_append]
 cases hg:g f<;>simp [hg]
theorem Zdd.taken {base:Nat} {w1 w:World} {LA:List Nat} {Ls:List (List Nat)} {k:Nat} {v:Value} {l Lp:List Nat} (hO:Own w1 base LA) (hs:Ls.flatten.Sublist LA) (hl:Ls[k]?=some l) (hb:Below w1.heap.size w1 w) (hv:Own w base (v.ownBlock.toList++Lp)) (o:∀y∈Lp,y∈(Ls.take k).flatten∨w1.heap.size≤y) (p:∀g,v.ownBlock=some g→w1.heap.size≤g):Own w base (v.ownBlock.toList++(Lp++l)):=by
 have c:((Ls.take (k+1)).flatten).Sublist LA:=(Zhk _).trans hs
 rw [Q2 hl] at c
 have i:=hO.sub c
 have q:=AS.1 i.nodup
 have j:Own w1 base l:=i.sub (AZ _ _)
 have d:=j.lt
 have f:Own w base l:=j.keep (fun b mb=>hb.block b (d b mb))
 rw [←AC]
 refine ⟨AS.2 ⟨hv.nodup,f.nodup,fun a ma b mb e=>?_⟩,fun b mb=>?_,fun b mb=>?_⟩
 ·subst e
  rcases A5.1 ma with m | m
  ·have:=p a (by simpa using m);have:=d a mb;omega
  ·rcases o a m with m | m
   ·exact q.2.2 a m a mb rfl
   ·have:=d a mb;omega
 ·rcases A5.1 mb with m | m
  ·exact hv.ge b m
  ·exact f.ge b m
 ·rcases A5.1 mb with m | m
  ·exact hv.plain b m
  ·exact f.plain b m
theorem ZeC.snocT {α:Type} {c:Yh α} {E:TypeId} {W w2 w3:World} {v v':Value} {ds:List α} {x:α} {xs f:List Value} {L l:List Nat} (hB:Below W.heap.size W w2) (hr:c.reps w2 xs ds L) (o:c.rep w2 f x l) (hO:Own w2 W.heap.size (v.ownBlock.toList++(L++l))) (i:w3.ownsV W.heap.size E c.size v' (ds.length+1) (xs++f)) (d:w2.grownBy w3 v.ownBlock) (p:∀g,v'.ownBlock=some g→v.ownBlock=some g∨w2.heap.size≤g):ZeC c E W v' (ds++[x]) w3:=by
 have t:=hO.lt
 have u:=AS.1 hO.nodup
 have j:∀y∈L++l,w3.heap[y]?=w2.heap[y]?:=fun y my=>d.block y (t y (by simp at my ⊢;exact .inr my)) (fun e=>u.2.2 y (by simp [←e]) y my rfl)
 have k:Own w3 W.heap.size (L++l):=(hO.sub (AZ _ _)).keep j
 have hv:=Zs9 i
 refine ⟨⟨xs++f,L++l,by rw [Aa];exact i,Xd (Zbv hr (ZcK o)) j,⟨AS.2 ⟨hv.nodup,k.nodup,fun a ma b mb e=>?_⟩,fun b mb=>?_,fun b mb=>?_⟩⟩,?_⟩
 ·subst e
  have ha:v'.ownBlock=some a:=by simpa using ma
  rcases p a ha with h1 | h1
  ·exact u.2.2 a (by simp [h1]) a mb rfl
  ·have:=t a (by simp at mb ⊢;exact .inr mb)
   omega
 ·rcases A5.1 mb with m | m
  ·exact hv.ge b m
  ·exact k.ge b m
 ·rcases A5.1 mb with m | m
  ·exact hv.plain b m
  ·exact k.plain b m
 ·exact hB.trans ⟨d.os,d.tape,d.output,d.size,fun q hq=>d.block q (AE hq hB.size) (fun e=>by have:=hO.ge q (by simp [←e]);omega)⟩
theorem ZtK {l:List Zl} {F:List Zc} (hl:l.length≤4) (hF:F.length≤24) (hA:∀f∈F,f.args.length≤3) (w:World) (hj:J0 w) (A:Option Addr) (c:Nat) (L:List Nat) (hR:(Zw YL).rep w [.slice A l.length c] l L) (B:Option Addr) (d:Nat) (K:List Nat) (hB:(Zw Z8).rep w [.slice B F.length d] F K):
  Calls prog 70 #[.slice A l.length c,.slice B F.length d] w (Zi7 Zb6 111 w (Zz l F)):=by
 obtain ⟨al,bg,am⟩:=ZH hR
 obtain ⟨an,bh,ao⟩:=ZH hB
 obtain ⟨n,hn⟩:∃n,l.length=n:=⟨_,rfl⟩
 obtain ⟨m,hm⟩:∃m,F.length=m:=⟨_,rfl⟩
 have HN:Hid (l.length=n):=hn
 have HM:Hid (F.length=m):=hm
 have HL4:Hid (l.length≤4):=hl
 have HF24:Hid (F.length≤24):=hF
 rw [hm] at hB
 rw [hn] at hl al ⊢
 rw [hm] at hF an ⊢
 have HR:Hid (Sli YL w A l L):=am
 have HB:=yS hB
 have HSB:Hid (Sli Z8 w B F K):=ao
 have HJ:=yS hj
 have HA:Hid (∀f∈F,f.args.length≤3):=hA
 clear hR hB am ao hj hn hm hA bg bh al an
 go_enter func70,ntmps70
 go_wp2
 have H:Hid (ZeC Zb6 111 w (.slice (some ⟨w.heap.size,0,none⟩) 1 1) (Zz (l.take 0) F) (w.alloc (.cells #[.slice none 0 0,.slice none 0 0] 111))):=ZwY w
 go_loopw [5,19] (fun v i wr=>∃(k:Nat),k≤n∧i=.int .i64 k∧Hid (ZeC Zb6 111 w v (Zz (l.take k) F) wr)) (fun _ i _=>n - (intOf i).toNat)
 case atStart=>exact ⟨0,A4 _,rfl,H⟩
 case round=>
  clear H
  obtain ⟨k,hk,rfl,HV⟩:=hrel
  by_cases hlt:k<n
  ·have ap:k<l.length:=by have:=HN.out;omega
   obtain ⟨bc,oc,cs,Lk,rfl,bi,_,z,hc⟩:=HR.out.at_ ap
   obtain ⟨x,hx⟩:∃x,l[k]=x:=⟨_,rfl⟩
   have HX:Hid (l[k]?=some x):=by rw [AA ap,hx];rfl
   rw [hx] at z
   have HXR:=yS z
   obtain ⟨Ap,cp,Lp,e1,e2,t0,t1,t2,np,mp,sp⟩:=z
   subst e1
   have P:bc<w.heap.size:=HR.out.lt _ bi
   obtain ⟨ts,Y⟩:∃ts,Zz (l.take k) F=ts:=⟨_,rfl⟩
   have HTS:Hid (Zz (l.take k) F=ts):=Y
   rw [Y] at HV
   obtain ⟨Av,cv,e3⟩:=HV.out.shape
   subst e3
   obtain ⟨nt,Z⟩:∃nt,ts.length=nt:=⟨_,rfl⟩
   have HNT:Hid (ts.length=nt):=Z
   have hnt2:nt≤331776:=by rw [←Z,←Y];exact Q7 F HF24.out _ (by have:=HL4.out;simp;omega)
   rw [Z] at HV ⊢
   have HBW:Hid (Below w.heap.size w wr):=HV.out.below
   have q0:wr.cell? ⟨bc,oc+k * 5,none⟩=some (.int .i64 x.kind):=(HBW.out.cell (p:=⟨bc,oc+(k * 5+0),none⟩) P).trans (hc 0 _ rfl)
   have q1:wr.cell? ⟨bc,oc+k * 5+1,none⟩=some (.string x.pattern.rel):=(HBW.out.cell (p:=⟨bc,oc+(k * 5+1),none⟩) P).trans (hc 1 _ rfl)
   have q2:wr.cell? ⟨bc,oc+k * 5+2,none⟩=some (.slice Ap x.pattern.args.length cp):=(HBW.out.cell (p:=⟨bc,oc+(k * 5+2),none⟩) P).trans (hc 2 _ rfl)
   have q3:wr.cell? ⟨bc,oc+k * 5+3,none⟩=some (.string x.left):=(HBW.out.cell (p:=⟨bc,oc+(k * 5+3),none⟩) P).trans (hc 3 _ rfl)
   have q4:wr.cell? ⟨bc,oc+k * 5+4,none⟩=some (.string x.right):=(HBW.out.cell (p:=⟨bc,oc+(k * 5+4),none⟩) P).trans (hc 4 _ rfl)
   have HPR:Hid (Qq.rep w [.string x.pattern.rel,.slice Ap x.pattern.args.length cp] x.pattern Lp):=⟨Ap,cp,Lp,rfl,rfl,t0,np,mp,sp⟩
   clear hc hx Y Z np mp sp t0 t1 t2
   go_wp2
   obtain ⟨w1,I⟩:∃w1,w1=wr.alloc (.cells #[.int .i64 x.kind,.string x.pattern.rel,.slice Ap x.pattern.args.length cp,.string x.left,.string x.right] 80):=⟨_,rfl⟩
   have BA:Hid (Below wr.heap.size wr w1):=by rw [I];exact (Below.refl _ wr).alloc (A0 _) _
   have HSZ:Hid (w1.heap.size=wr.heap.size+1):=by rw [I];show _=_;simp
   have K1:Hid (Blk w1 wr.heap.size 80 #[.int .i64 x.kind,.string x.pattern.rel,.slice Ap x.pattern.args.length cp,.string x.left,.string x.right]):=by rw [I];exact Blk.new _ _ _
   obtain ⟨g,hg⟩:∃g,g=wr.heap.size:=⟨_,rfl⟩
   rw [←hg] at K1
   have HG:Hid (g=wr.heap.size):=hg
   rw [←I,←hg]
   clear I hg q0 q1 q2 q3 q4
   have BW1:Hid (Below w.heap.size w w1):=HBW.out.trans (BA.out.mono HBW.out.size)
   have HV1:=yS (HV.out.laterT BA.out)
   obtain ⟨LA,hG⟩:=HV1.out.got
   obtain ⟨bj,bk,hS⟩:=ZH hG.rep
   obtain ⟨css,Ls,hP⟩:=hS.parts
   have HP:=yS hP
   have HOA:Hid (Own w1 w.heap.size LA):=hG.own
   clear hG hS hP bj bk HV1 HV
   have H:Hid (Zdd w.heap.size w1 Ls 0 ((ts.take 0).flatMap (QD x F)) (.slice none 0 0) w1):=Zdd.start
   go_loopw [8,25] (fun v i wq=>∃(j:Nat),j≤nt∧i=.int .i64 j∧Hid (Zdd w.heap.size w1 Ls j ((ts.take j).flatMap (QD x F)) v wq)) (fun _ i _=>nt - (intOf i).toNat)
   case atStart=>exact ⟨0,A4 _,rfl,H⟩
   case round=>
    clear H
    obtain ⟨j,hj,rfl,HQ⟩:=hrel
    by_cases hjt:j<nt
    ·obtain ⟨t,ht⟩:∃t,ts[j]?=some t:=⟨_,AA (by have:=HNT.out;omega)⟩
     obtain ⟨c1,Q⟩:∃c1,css[j]?=some c1:=⟨_,AA (by have:=HP.out.cl;have:=HNT.out;omega)⟩
     obtain ⟨l1,aa⟩:∃l1,Ls[j]?=some l1:=⟨_,AA (by have:=HP.out.ll;have:=HNT.out;omega)⟩
     obtain ⟨bt,ot,rfl,bl,ae⟩:=HP.out.at_ j c1 Q
     have HTR:=yS (HP.out.el j t c1 l1 ht Q aa)
     obtain ⟨A1,d1,L1,A2,d2,L2,e1,e2,n1,m1,s1,n2,m2,s2⟩:=HTR.out
     subst e1
     have R:bt<w1.heap.size:=HOA.out.lt bt bl
     have HT:Hid (ts[j]?=some t):=ht
     have HL1:Hid (Ls[j]?=some l1):=aa
     have ac:Hid (∀y∈l1,y∈LA):=by
      intro y m
      obtain ⟨a1,a2⟩:=AU.1 aa
      exact HP.out.sub.subset (Ag.2 ⟨l1,a2 ▸ Ah a1,m⟩)
     have HTK:Hid (ZvM F t):=by
      have h:=Zbw F (l.take k) t (by rw [HTS.out];exact Ai ht)
      exact h.s (by have:=HL4.out;simp;omega) HA.out
     obtain ⟨tf,M⟩:∃n,t.facts.length=n:=⟨_,rfl⟩
     obtain ⟨tb,N⟩:∃n,t.binding.length=n:=⟨_,rfl⟩
     have HTF:Hid (t.facts.length=tf):=M
     have HTB:Hid (t.binding.length=tb):=N
     rw [M,N] at HTR
     have r0:wr.cell? ⟨bt,ot+j * 2,none⟩=some (.slice A1 tf d1):=(HQ.out.below.cell (p:=⟨bt,ot+(j * 2+0),none⟩) R).trans ((ae 0 _ rfl).trans (by rw [M]))
     have r1:wr.cell? ⟨bt,ot+j * 2+1,none⟩=some (.slice A2 tb d2):=(HQ.out.below.cell (p:=⟨bt,ot+(j * 2+1),none⟩) R).trans ((ae 1 _ rfl).trans (by rw [N]))
     have HQK:=yS (K1.out.later HQ.out.below)
     have HSZ2:Hid (g<wr.heap.size):=by have:=HG.out;have:=HSZ.out;have:=HQ.out.below.size;show _<_;omega
     have k0:∀o,(wr.alloc o).cell? ⟨g,0,none⟩=some (.int .i64 x.kind):=fun o=>(HQK.out.later ((Below.refl _ wr).alloc (A0 _) o)).at (i:=0) rfl
     have k1:∀o,(wr.alloc o).cell? ⟨g,1,none⟩=some (.string x.pattern.rel):=fun o=>(HQK.out.later ((Below.refl _ wr).alloc (A0 _) o)).at (i:=1) rfl
     have k2:∀o,(wr.alloc o).cell? ⟨g,2,none⟩=some (.slice Ap x.pattern.args.length cp):=fun o=>(HQK.out.later ((Below.refl _ wr).alloc (A0 _) o)).at (i:=2) rfl
     have k3:∀o,(wr.alloc o).cell? ⟨g,3,none⟩=some (.string x.left):=fun o=>(HQK.out.later ((Below.refl _ wr).alloc (A0 _) o)).at (i:=3) rfl
     have k4:∀o,(wr.alloc o).cell? ⟨g,4,none⟩=some (.string x.right):=fun o=>(HQK.out.later ((Below.refl _ wr).alloc (A0 _) o)).at (i:=4) rfl
     have B3:Hid (∀o,Below w.heap.size w (wr.alloc o)):=fun o=>BW1.out.trans (HQ.out.below.mono BW1.out.size |>.trans (((Below.refl _ wr).alloc (A0 _) o).mono (AI BW1.out.size HQ.out.below.size)))
     have BQ:Hid (∀o,Below w1.heap.size w1 (wr.alloc o)):=fun o=>HQ.out.below.trans (((Below.refl _ wr).alloc (A0 _) o).mono HQ.out.below.size)
     have HFR1:Hid ((Zw Z8).rep w1 [.slice A1 tf d1] t.facts L1):=⟨A1,d1,by rw [M],n1,m1,s1⟩
     have HBR1:Hid ((Zw Yd).rep w1 [.slice A2 tb d2] t.binding L2):=⟨A2,d2,by rw [N],n2,m2,s2⟩
     have HFR:Hid (∀o,(Zw Z8).rep (wr.alloc o) [.slice A1 tf d1] t.facts L1):=fun o=>⟨A1,d1,by rw [M],n1,m1,s1.below (BQ.out o)⟩
     have HBR:Hid (∀o,(Zw Yd).rep (wr.alloc o) [.slice A2 tb d2] t.binding L2):=fun o=>⟨A2,d2,by rw [N],n2,m2,s2.below (BQ.out o)⟩
     have HLE:Hid (((ts.take j).flatMap (QD x F)).length≤7962624):=by
      have h:=ZjU x F HF24.out (ts.take j)
      have:(ts.take j).length≤331776:=by simp;omega
      unfold ZfE at h
      show _≤_
      omega
     clear ae ht Q aa M N n1 m1 s1 n2 m2 s2 R
     by_cases ab:x.kind=1
     ·go_wp2
      have HK1:Hid (x.kind=1):=ab
      clear ab
      obtain ⟨w3,O⟩:∃w3,w3=wr.alloc (.cells #[.slice A1 tf d1,.slice A2 tb d2] 111):=⟨_,rfl⟩
      obtain ⟨gt,S⟩:∃gt,gt=wr.heap.size:=⟨_,rfl⟩
      have HSZ3:Hid (w3.heap.size=gt+1):=by rw [O,S];show _=_;simp
      have K2:Hid (Blk w3 gt 111 #[.slice A1 tf d1,.slice A2 tb d2]):=by rw [O,S];exact Blk.new _ _ _
      have B13:Hid (Below w1.heap.size w1 w3):=by rw [O];exact BQ.out _
      have HG1:Hid (w1.heap.size≤gt):=by rw [S];exact HQ.out.below.size
      have HGG:Hid (g<w1.heap.size):=by have:=HG.out;have:=HSZ.out;show _<_;omega
      obtain ⟨D,hD⟩:∃D,D=(ts.take j).flatMap (QD x F):=⟨_,rfl⟩
      have HD:Hid (D=(ts.take j).flatMap (QD x F)):=hD
      have H:Hid (Zdd w.heap.size w1 Ls j (D++(F.take 0).filterMap fun f=>(XL x.pattern f t.binding).map fun b=>({ facts:=t.facts++[f],binding:=b }:Zq)) u8 w3∧Blk w3 gt 111 #[.slice A1 tf d1,.slice A2 tb d2]∧∀y,u8.ownBlock=some y→y≠gt):=by
       refine ⟨?_,K2.out,fun y hy e=>?_⟩
       ·rw [hD,O,List.take_zero,List.filterMap_nil,AF]
        exact HQ.out.later ((Below.refl _ wr).alloc (A0 _) _)
       ·obtain ⟨⟨xs,Lp,ho,_⟩,_⟩:=HQ.out
        have:=Zi6 ho y (by simp [hy])
        omega
      have HDL:Hid (D.length≤7962624):=by rw [hD];exact HLE.out
      rw [←O,←S]
      clear O S hD k0 k1 k2 k3 k4 r0 r1 HQ HQK HSZ2 B3 BQ HFR HBR HLE
      go_loopw [8,43] (fun v i wq=>∃(q:Nat),q≤m∧i=.int .i64 q∧Hid (Zdd w.heap.size w1 Ls j (D++(F.take q).filterMap fun f=>(XL x.pattern f t.binding).map fun b=>({ facts:=t.facts++[f],binding:=b }:Zq)) v wq∧Blk wq gt 111 #[.slice A1 tf d1,.slice A2 tb d2]∧∀y,v.ownBlock=some y→y≠gt)) (fun _ i _=>m - (intOf i).toNat)
      case atStart=>exact ⟨0,A4 _,rfl,H⟩
      case round=>
       clear H
       obtain ⟨q,hq,rfl,HI⟩:=hrel
       by_cases hqm:q<m
       ·have aq:q<F.length:=by have:=HM.out;omega
        obtain ⟨bf,of,cs,Lf,rfl,bm,_,z,hc⟩:=HSB.out.at_ aq
        obtain ⟨f,hf⟩:∃f,F[q]=f:=⟨_,rfl⟩
        have HFQ:Hid (F[q]?=some f):=by rw [AA aq,hf];rfl
        rw [hf] at z
        have HFE:=yS z
        obtain ⟨Af,cf,Lf2,e1,e2,t0,nf,mf,sf⟩:=z
        subst e1
        have ar:bf<w.heap.size:=HSB.out.lt _ bm
        have BWQ:Hid (Below w.heap.size w wr):=BW1.out.trans (HI.out.1.below.mono BW1.out.size)
        have HGT:Hid (gt<wr.heap.size):=HI.out.2.1.lt
        have s0:wr.cell? ⟨bf,of+q * 2,none⟩=some (.string f.rel):=(BWQ.out.cell (p:=⟨bf,of+(q * 2+0),none⟩) ar).trans (hc 0 _ rfl)
        have s1:wr.cell? ⟨bf,of+q * 2+1,none⟩=some (.slice Af f.args.length cf):=(BWQ.out.cell (p:=⟨bf,of+(q * 2+1),none⟩) ar).trans (hc 1 _ rfl)
        have BO:Hid (∀o,Below wr.heap.size wr (wr.alloc o)):=fun o=>(Below.refl _ wr).alloc (A0 _) o
        have BWO:Hid (∀o,Below w.heap.size w (wr.alloc o)):=fun o=>BWQ.out.trans ((BO.out o).mono BWQ.out.size)
        have B1O:Hid (∀o,Below w1.heap.size w1 (wr.alloc o)):=fun o=>HI.out.1.below.trans ((BO.out o).mono HI.out.1.below.size)
        have KG:Hid (∀o,Blk (wr.alloc o) g 80 #[.int .i64 x.kind,.string x.pattern.rel,.slice Ap x.pattern.args.length cp,.string x.left,.string x.right]):=fun o=>K1.out.later (B1O.out o)
        have KT:Hid (∀o,Blk (wr.alloc o) gt 111 #[.slice A1 tf d1,.slice A2 tb d2]):=fun o=>HI.out.2.1.later (BO.out o)
        have k1:∀o,(wr.alloc o).cell? ⟨g,1,none⟩=some (.string x.pattern.rel):=fun o=>(KG.out o).at (i:=1) rfl
        have k2:∀o,(wr.alloc o).cell? ⟨g,2,none⟩=some (.slice Ap x.pattern.args.length cp):=fun o=>(KG.out o).at (i:=2) rfl
        have k3:∀o,(wr.alloc o).cell? ⟨gt,1,none⟩=some (.slice A2 tb d2):=fun o=>(KT.out o).at (i:=1) rfl
        have HL1s:Hid (∀y∈l1,y<w1.heap.size):=fun y m=>HOA.out.lt y (ac.out y m)
        clear hc hf t0 nf mf sf
        obtain ⟨E,hE⟩:∃E,E=D++(F.take q).filterMap fun f=>(XL x.pattern f t.binding).map fun b=>({ facts:=t.facts++[f],binding:=b }:Zq):=⟨_,rfl⟩
        have HE:Hid (E=D++(F.take q).filterMap fun f=>(XL x.pattern f t.binding).map fun b=>({ facts:=t.facts++[f],binding:=b }:Zq)):=hE
        have hEL:E.length≤8000000:=by
         have h1:=HDL.out
         have h2:=List.length_filterMap_le (fun f=>(XL x.pattern f t.binding).map fun b=>({ facts:=t.facts++[f],binding:=b }:Zq)) (F.take q)
         have h3:(F.take q).length≤q:=by simp;omega
         rw [hE,Aa]
         omega
        rw [←hE] at HI
        clear hE
        cases hm:XL x.pattern f t.binding with
        | none=>
         have HC:QF x.pattern f t.binding=some ([],false):=by rw [ZbF,hm];rfl
         go_wp2_with fail
         refine (Zm.givesSB (c:=Yd) (g:=ZR) (t:=162) (ds:=[]) (b:=false) (ZbH HC) ZeK (Qt hJ0 HJ.out (BWO.out _)) (vs:=[_,_,_]) ⟨Zh9 ZmV (Qq.keep HPR.out (Zy (BWO.out _) (fun y m=>Qq.lt HPR.out y m))),Zh9 ZcB (Z8.keep HFE.out (Zy (BWO.out _) (fun y m=>Z8.lt HFE.out y m))),Zcs ZeK _ ((Zw Yd).keep HBR1.out (Zy (B1O.out _) (fun y m=>(Zw Yd).lt HBR1.out y m))),trivial⟩).mono ?_
         rintro e w5 ⟨vb,rfl,G⟩
         have HQ5:=yS ((HI.out.1.later (BO.out _)).later G.below)
         have K5:=yS ((KT.out _).later G.below)
         clear G k1 k2 k3 s0 s1
         go_wp2
         refine ⟨⟨q+1,yE,yG,?_⟩,by simp [intOf];omega⟩
         show Zdd _ _ _ _ _ _ _∧_∧_
         refine ⟨?_,K5.out,HI.out.2.2⟩
         rw [ZuO HFQ.out]
         simp only[hm,Option.map_none,Option.toList_none,AF]
         rw [←HE.out]
         exact HQ5.out
        | some b=>
         have HC:QF x.pattern f t.binding=some (b,true):=by rw [ZbF,hm];rfl
         go_wp2_with fail
         refine (Zm.givesSB (c:=Yd) (g:=ZR) (t:=162) (ds:=b) (b:=true) (ZbH HC) ZeK (Qt hJ0 HJ.out (BWO.out _)) (vs:=[_,_,_]) ⟨Zh9 ZmV (Qq.keep HPR.out (Zy (BWO.out _) (fun y m=>Qq.lt HPR.out y m))),Zh9 ZcB (Z8.keep HFE.out (Zy (BWO.out _) (fun y m=>Z8.lt HFE.out y m))),Zcs ZeK _ ((Zw Yd).keep HBR1.out (Zy (B1O.out _) (fun y m=>(Zw Yd).lt HBR1.out y m))),trivial⟩).mono ?_
         rintro e w5 ⟨vb,rfl,G⟩
         obtain ⟨Ab,cb,eb⟩:=G.shape
         subst eb
         obtain ⟨Lb,au⟩:=G.got
         have HGb:=yS au
         have W5:Hid (Below wr.heap.size wr w5):=(BO.out _).trans (G.below.mono (BO.out _).size)
         have HQ5:=yS (HI.out.1.later W5.out)
         have KT5:=yS (HI.out.2.1.later W5.out)
         have KF5:Hid (Blk w5 wr.heap.size 53 #[.string f.rel,.slice Af f.args.length cf]):=Blk.later (Blk.new _ _ _) G.below
         have WW5:Hid (Below w.heap.size w w5):=BWQ.out.trans (W5.out.mono BWQ.out.size)
         have W15:Hid (Below w1.heap.size w1 w5):=HQ5.out.below
         have a0:w5.cell? ⟨gt,0,none⟩=some (.slice A1 tf d1):=KT5.out.at (i:=0) rfl
         have a1:w5.cell? ⟨wr.heap.size,0,none⟩=some (.string f.rel):=KF5.out.at (i:=0) rfl
         have a2:w5.cell? ⟨wr.heap.size,1,none⟩=some (.slice Af f.args.length cf):=KF5.out.at (i:=1) rfl
         have JD:Hid (J0 w5.drew):=Qt hJ0 HJ.out WW5.out.drew
         have FD:Hid ((Zw Z8).rep w5.drew [.slice A1 tf d1] t.facts L1):=(Zw Z8).keep HFR1.out (Zy W15.out.drew (fun y m=>(Zw Z8).lt HFR1.out y m))
         have HCF:Hid (Zad t.facts=some t.facts):=Zea _ (by have:=HTK.out.len;omega) (fun g mg=>by have:=HTK.out.args g mg;omega)
         have HCX:Hid (YE f=some f):=YN f (by have:=HA.out f (Ai HFQ.out);omega)
         obtain ⟨⟨av,Lp9,aw,ax,ay,ad⟩,az,_⟩:=HI.out.1
         have HO9:=yS aw
         have HR9:=yS (And.intro ax (And.intro ay ad))
         clear G au k1 k2 k3 s0 s1 HC aw ax ay ad az
         have htl:t.facts.length≤4:=HTK.out.len
         go_wp2_with fail
         go_region_held3 (fun W=>W.cell? ⟨gt,0,none⟩=some (.slice A1 tf d1)∧W.cell? ⟨wr.heap.size,0,none⟩=some (.string f.rel)∧W.cell? ⟨wr.heap.size,1,none⟩=some (.slice Af f.args.length cf)) (first | exact ⟨a0,a1,a2⟩ | exact ⟨bn,bo,bp⟩ | exact ⟨bq,br,bs⟩ | exact ⟨bu _,bv _,bw _⟩ | exact ⟨bx,bz,b0⟩ | exact ⟨b1 _,b2 _,b3 _⟩ | exact ⟨b4,b5,b6⟩) (first | (go_at_call 132;refine (Zm.givesS (c:=Z8) (g:=Zs) (t:=53) (ds:=t.facts) (ZdW HCF.out) ZcB JD.out (vs:=[_]) ⟨Zcs ZcB _ FD.out,trivial⟩).mono ?_;rintro e w6 ⟨v6,rfl,af⟩;obtain ⟨T,L6,a3,a4,a5⟩:=af.ex;have HE6:Hid (w6.ownsV w5.heap.size 53 Z8.size v6 t.facts.length T∧Z8.reps w6 T t.facts L6∧Own w6 w5.heap.size (v6.ownBlock.toList++L6)):=⟨a3,a4,a5⟩;have W6:Hid (Below w5.heap.size w5 w6):=(Below.refl _ w5).drew.trans af.below;have KT6:=yS (KT5.out.later W6.out);have KF6:=yS (KF5.out.later W6.out);have bn:w6.cell? ⟨gt,0,none⟩=some (.slice A1 tf d1):=KT6.out.at (i:=0) rfl;have bo:w6.cell? ⟨wr.heap.size,0,none⟩=some (.string f.rel):=KF6.out.at (i:=0) rfl;have bp:w6.cell? ⟨wr.heap.size,1,none⟩=some (.slice Af f.args.length cf):=KF6.out.at (i:=1) rfl;clear af a3 a4 a5) | (go_at_call 114;refine (Zm.givesX (c:=Z8) (g:=Zs) (x:=f) (YO HCX.out) ZcB (Qt hJ0 HJ.out (WW5.out.trans (W6.out.mono WW5.out.size))) (vs:=[_]) ⟨Zh9 ZcB (Z8.keep HFE.out (Zy (WW5.out.trans (W6.out.mono WW5.out.size)) (fun y m=>Z8.lt HFE.out y m))),trivial⟩).mono ?_;rintro e w7 ⟨cs7,L7,rfl,ag,a6⟩;obtain ⟨A7,c7,M7,b7,b8,t7,n7,m7,s7⟩:=ag.rep;subst b7;have H7:=yS ag;have W7:Hid (Below w6.heap.size w6 w7):=a6;have KT7:=yS (KT6.out.later W7.out);have KF7:=yS (KF6.out.later W7.out);have bq:w7.cell? ⟨gt,0,none⟩=some (.slice A1 tf d1):=KT7.out.at (i:=0) rfl;have br:w7.cell? ⟨wr.heap.size,0,none⟩=some (.string f.rel):=KF7.out.at (i:=0) rfl;have bs:w7.cell? ⟨wr.heap.size,1,none⟩=some (.slice Af f.args.length cf):=KF7.out.at (i:=1) rfl;have bu:∀o,(w7.alloc o).cell? ⟨gt,0,none⟩=some (.slice A1 tf d1):=fun o=>(KT7.out.later ((Below.refl _ w7).alloc (A0 _) o)).at (i:=0) rfl;have bv:∀o,(w7.alloc o).cell? ⟨wr.heap.size,0,none⟩=some (.string f.rel):=fun o=>(KF7.out.later ((Below.refl _ w7).alloc (A0 _) o)).at (i:=0) rfl;have bw:∀o,(w7.alloc o).cell? ⟨wr.heap.size,1,none⟩=some (.slice Af f.args.length cf):=fun o=>(KF7.out.later ((Below.refl _ w7).alloc (A0 _) o)).at (i:=1) rfl;have HO7:Hid (w7.ownsV w5.heap.size 53 Z8.size v6 t.facts.length T):=Zdt HE6.out.1 W7.out;have HR7:Hid (Z8.reps w7 T t.facts L6):=Xd HE6.out.2.1 (fun y m=>W7.out.block y (HE6.out.2.2.lt y (Ac _ m)));have HW7:Hid (Own w7 w5.heap.size (v6.ownBlock.toList++(L6++L7))):=(by rw [←AC];exact Own.append (HE6.out.2.2.keep (fun y m=>W7.out.block y (HE6.out.2.2.lt y m))) H7.out.own W6.out.size (fun y m=>HE6.out.2.2.lt y m));have W57:Hid (Below w5.heap.size w5 w7):=W6.out.trans (W7.out.mono W6.out.size);have HVG:Hid (∀y,v6.ownBlock=some y→w5.heap.size≤y):=ZwF HO7.out;clear ag a6 b8 t7 n7 m7 s7) | (refine Zpy rfl (.tmp 60) (.tmp 63) 33 rfl 53 _ 2 40 underlying33 Zvv rfl yE w5.heap.size v6 t.facts.length T [_,_] rfl rfl HO7.out rfl (by intro u hu;simp only[AD,AW,or_false] at hu;rcases hu with rfl | rfl<;>rfl) yE yE W57.out.size ?_;intro v8 w8 J a U;obtain ⟨A8,c8,e8,_,_⟩:=QP J;subst e8;have H8:Hid (ZeC Z8 53 w5 (.slice A8 (t.facts.length+1) c8) (t.facts++[f]) w8):=ZeC.snocT W57.out HR7.out H7.out.rep HW7.out J a U;have W08:Hid (Below wr.heap.size wr w8):=Zqm (W5.out.trans (W57.out.mono W5.out.size)) a (AI W5.out.size W57.out.size) (fun y hy=>AI W5.out.size (HVG.out y hy));have KT8:Hid (Blk w8 gt 111 #[.slice A1 tf d1,.slice A2 tb d2]):=(a.block _ KT7.out.lt (fun e=>(by have h1:=HVG.out _ e.symm;have h2:=KT5.out.lt;omega))).trans KT7.out;have KF8:Hid (Blk w8 wr.heap.size 53 #[.string f.rel,.slice Af f.args.length cf]):=(a.block _ KF7.out.lt (fun e=>(by have h1:=HVG.out _ e.symm;have h2:=KF5.out.lt;omega))).trans KF7.out;have GB8:Hid (∀y∈Lb,w8.heap[y]?=w5.heap[y]?):=(fun y m=>(a.block y (AE (HGb.out.own.lt y m) W57.out.size) (fun e=>(by have h1:=HVG.out _ e.symm;have h2:=HGb.out.own.lt y m;omega))).trans (W57.out.block y (HGb.out.own.lt y m)));have bx:w8.cell? ⟨gt,0,none⟩=some (.slice A1 tf d1):=KT8.out.at (i:=0) rfl;have bz:w8.cell? ⟨wr.heap.size,0,none⟩=some (.string f.rel):=KF8.out.at (i:=0) rfl;have b0:w8.cell? ⟨wr.heap.size,1,none⟩=some (.slice Af f.args.length cf):=KF8.out.at (i:=1) rfl;have b1:∀o,(w8.alloc o).cell? ⟨gt,0,none⟩=some (.slice A1 tf d1):=fun o=>(KT8.out.later ((Below.refl _ w8).alloc (A0 _) o)).at (i:=0) rfl;have b2:∀o,(w8.alloc o).cell? ⟨wr.heap.size,0,none⟩=some (.string f.rel):=fun o=>(KF8.out.later ((Below.refl _ w8).alloc (A0 _) o)).at (i:=0) rfl;have b3:∀o,(w8.alloc o).cell? ⟨wr.heap.size,1,none⟩=some (.slice Af f.args.length cf):=fun o=>(KF8.out.later ((Below.refl _ w8).alloc (A0 _) o)).at (i:=1) rfl;have HS8:Hid (w.heap.size≤w8.heap.size):=AI BWQ.out.size W08.out.size;clear J a U) | (refine Zpy rfl (.tmp 57) (.tmp 67) 105 rfl 111 _ 2 48 underlying105 Zno rfl yE w.heap.size u8 E.length av [_,_] rfl rfl (Zdt HO9.out W08.out) rfl (by intro u hu;simp only[AD,AW,or_false] at hu;rcases hu with rfl | rfl<;>rfl) yE yE HS8.out ?_;intro v9 w9 V C X;have KT9:Hid (Blk w9 gt 111 #[.slice A1 tf d1,.slice A2 tb d2]):=(C.block _ KT8.out.lt (fun e=>HI.out.2.2 gt e.symm rfl)).trans KT8.out;have KF9:Hid (Blk w9 wr.heap.size 53 #[.string f.rel,.slice Af f.args.length cf]):=(C.block _ KF8.out.lt (fun e=>(by have:=Zi6 HO9.out wr.heap.size (by rw [←e];simp);omega))).trans KF8.out;have b4:w9.cell? ⟨gt,0,none⟩=some (.slice A1 tf d1):=KT9.out.at (i:=0) rfl;have b5:w9.cell? ⟨wr.heap.size,0,none⟩=some (.string f.rel):=KF9.out.at (i:=0) rfl;have b6:w9.cell? ⟨wr.heap.size,1,none⟩=some (.slice Af f.args.length cf):=KF9.out.at (i:=1) rfl;have H9:Hid (w9.ownsV w.heap.size 111 2 v9 (E.length+1) (av++[.slice A8 (t.facts.length+1) c8,.slice Ab b.length cb])∧w8.grownBy w9 u8.ownBlock∧∀g,v9.ownBlock=some g→u8.ownBlock=some g∨w8.heap.size≤g):=⟨V,C,X⟩;clear V C X))
         go_wp2
         refine ⟨⟨q+1,yE,yG,?_⟩,by simp [intOf];omega⟩
         show Zdd _ _ _ _ _ _ _∧_∧_
         rw [ZuO HFQ.out,←AC,←HE.out]
         simp only[hm,Option.map_some,Ak]
         have HQ8:=HI.out.1.later W08.out
         obtain ⟨L8,ah⟩:=H8.out.got
         have b9:∀y∈L8,w5.heap.size≤y:=ah.own.ge
         have a7:∀y∈Lb,wr.heap.size+1≤y∧y<w5.heap.size:=fun y m=>⟨by have:=HGb.out.own.ge y m;simpa using this,HGb.out.own.lt y m⟩
         have h9:∀y∈u8.ownBlock.toList++Lp9,y<wr.heap.size:=HR9.out.2.1.lt
         have a8:Own w8 w.heap.size (u8.ownBlock.toList++Lp9):=HR9.out.2.1.keep (fun y m=>W08.out.block y (h9 y m))
         have ca:Own w8 wr.heap.size Lb:=(HGb.out.own.keep GB8.out).mono yG
         have ai:=(a8.append ca BWQ.out.size h9).append ah.own (AI BWQ.out.size W5.out.size) (fun y m=>by
          rcases A5.1 m with m | m
          ·exact AE (h9 y m) W5.out.size
          ·exact (a7 y m).2)
         obtain ⟨Q,cc,cd⟩:=ZH ah.rep
         obtain ⟨ce,cg,ch⟩:=ZH ((Zw Yd).keep HGb.out.rep GB8.out)
         have z:Zb6.rep w8 [.slice A8 (t.facts.length+1) c8,.slice Ab b.length cb] ({ facts:=t.facts++[f],binding:=b }:Zq) (L8++Lb):=⟨A8,c8,L8,Ab,cb,Lb,yG,rfl,Q,cc,cd,ce,cg,ch⟩
         refine ⟨HQ8.add (A0 j) (Xd HR9.out.1 (fun y m=>W08.out.block y (h9 y (Ac _ m)))) HR9.out.2.2 z (ai.permT ?_) (fun y m=>.inr ?_) H9.out.1 H9.out.2.1 H9.out.2.2,KT9.out,fun y hy e=>?_⟩
         ·rw [AC,AC]
          exact List.Perm.append_left _ (List.Perm.append_left _ List.perm_append_comm)
         ·have I:w1.heap.size≤wr.heap.size:=HI.out.1.below.size
          rcases A5.1 m with m | m
          ·exact AI I (AI W5.out.size (b9 y m))
          ·have:=(a7 y m).1
           omega
         ·rcases H9.out.2.2 y hy with h | h
          ·exact HI.out.2.2 y h e
          ·have h1:=HGT.out
           have h2:=W08.out.size
           omega
       ·have ci:q=m:=by omega
        go_wp2
        refine ⟨⟨j+1,yE,yG,?_⟩,by simp [intOf];omega⟩
        show Zdd _ _ _ _ _ _ _
        have h:=HI.out.1.skip (Ae j)
        rw [ci,AT (by have:=HM.out;omega)] at h
        rw [ZkI HT.out,←HD.out]
        have e:QD x F t=F.filterMap fun f=>(XL x.pattern f t.binding).map fun b=>({ facts:=t.facts++[f],binding:=b }:Zq):=by unfold QD;rw [if_pos HK1.out]
        rw [e]
        exact h
     ·go_wp2_with fail
      refine (Zm.givesB (Zhh (ZhL x t.binding F (by have:=HF24.out;omega) (fun f mf=>by have:=HA.out f mf;omega))) (Qt hJ0 HJ.out (B3.out _)) (vs:=[_,_,_]) ⟨Zh9 Zkf (YL.keep HXR.out (Zy (B3.out _) (fun y m=>YL.lt HXR.out y m))),?_,Zcs ZcB _ ((Zw Z8).keep HB.out (Zy (B3.out _) (fun y m=>(Zw Z8).lt HB.out y m))),trivial⟩).mono ?_
      ·exact Zcs ZeK _ (HBR.out _)
      rintro e w4 ⟨rfl,aj⟩
      have K2:Hid (Blk w4 wr.heap.size 111 #[.slice A1 tf d1,.slice A2 tb d2]):=Blk.later (Blk.new _ _ _) aj
      have HQ4:=yS ((HQ.out.later ((Below.refl _ wr).alloc (A0 _) _)).later aj)
      have p0:w4.cell? ⟨wr.heap.size,0,none⟩=some (.slice A1 tf d1):=K2.out.at (i:=0) rfl
      have p1:w4.cell? ⟨wr.heap.size,1,none⟩=some (.slice A2 tb d2):=K2.out.at (i:=1) rfl
      have HTR4:Hid (Zb6.rep w4 [.slice A1 tf d1,.slice A2 tb d2] t l1):=Zb6.keep HTR.out (fun y m=>(HQ4.out.below.block y (HOA.out.lt y (ac.out y m))))
      obtain ⟨⟨xs,Lp,ho,hr,hO,a9⟩,ba,bb⟩:=HQ4.out
      have HO:=yS ho
      have HRS:=yS (And.intro hr (And.intro hO a9))
      have HVO:Hid (∀g,u8.ownBlock=some g→w1.heap.size≤g):=ba
      have HBQ:=yS bb
      have hds:((ts.take j).flatMap (QD x F)).length≤7962624:=HLE.out
      have cj:Hid (w.heap.size≤w4.heap.size):=AI BW1.out.size HBQ.out.size
      clear aj ho hr hO a9 ba bb k0 k1 k2 k3 k4 r0 r1
      cases hh:Zgo x t.binding F with
      | true=>
       have HH:Hid (QD x F t=[t]):=by show _=_;unfold QD;rw [if_neg ab,if_pos hh]
       clear hh
       go_wp2_with (at_builtin;(refine ZwL rfl (.tmp 37) (.tmp 39) 105 rfl 111 _ 2 48 underlying105 Zno rfl yE w.heap.size u8 ((ts.take j).flatMap (QD x F)).length xs [_,_] rfl rfl HO.out rfl (by intro u hu;simp only[AD,AW,or_false] at hu;rcases hu with rfl | rfl<;>rfl) yE yE cj.out ?_);intro v' w' bd ak be)
       refine ⟨⟨j+1,yE,yG,?_⟩,by simp [intOf];omega⟩
       show Zdd _ _ _ _ _ _ _
       rw [ZkI HT.out,HH.out]
       exact HQ4.out.add (Ae j) HRS.out.1 HRS.out.2.2 HTR4.out (Zdd.taken HOA.out HP.out.sub HL1.out HBQ.out HRS.out.2.1 HRS.out.2.2 HVO.out) (fun y m=>.inl (by rw [Q2 HL1.out];exact Ac _ m)) bd ak be
      | false=>
       have HH:Hid (QD x F t=[]):=by show _=_;unfold QD;rw [if_neg ab,if_neg (by simp [hh])]
       clear hh
       go_wp2
       refine ⟨⟨j+1,yE,yG,?_⟩,by simp [intOf];omega⟩
       show Zdd _ _ _ _ _ _ _
       rw [ZkI HT.out,HH.out,AF]
       exact HQ4.out.skip (Ae j)
    ·have ck:j=nt:=by omega
     go_wp2
     refine ⟨⟨k+1,yE,yG,?_⟩,by simp [intOf];omega⟩
     show ZeC _ _ _ _ _ _
     rw [Zw3 HX.out,HTS.out]
     have h:=HQ.out.done BW1.out
     rw [ck,AT (by have:=HNT.out;omega)] at h
     exact h
  ·have cm:k=n:=by omega
   go_wp2
   go_ret
   refine ⟨_,rfl,?_⟩
   have h:=HV.out
   rw [cm,AT (by have:=HN.out;omega)] at h
   exact h
end
section
open Classical
theorem Zsz {l:List Zc} (hl:l.length≤24) (ha:Zg7 l) (c:∀f∈l,Y3 f=true):Yj l=true:=by
 unfold Yj
 rw [AG,decide_eq_true_iff]
 refine ⟨hl,?_⟩
 have key:∀(b a:List Zc),l=a++b→Q5 (ZdT l) b a.length=true:=by
  intro b
  induction b with
  | nil=>intro a _;rfl
  | cons x b ih=>
   intro a e
   simp only[Q5,AG]
   refine ⟨?_,by have:=ih (a++[x]) (by rw [e];simp);simpa using this⟩
   unfold ZdT
   rw [AG]
   refine ⟨c x (by rw [e];simp),?_⟩
   by_cases h0:a.length=0
   ·rw [if_pos h0]
   ·rw [if_neg h0]
    obtain ⟨q,y,rfl⟩:∃q y,a=q++[y]:=⟨a.dropLast,a.getLast (by intro e2;simp [e2] at h0),(Al _).symm⟩
    have hy:l[(q++[y]).length - 1]?=some y:=by rw [e];simp
    rw [hy,decide_eq_true_iff]
    unfold Zg7 at ha
    rw [e,AC,List.pairwise_append] at ha
    have h2:=ha.2.1
    rw [List.singleton_append,List.pairwise_cons] at h2
    exact h2.1 x yG
 exact key l [] rfl
theorem Zyr {a b:List Zc} (h:a.Sublist b) (hb:Zg7 b):Zg7 a:=List.Pairwise.sublist h hb
theorem Zkt:∀{F:List Zc} {l:List Int},(ZaI F l).Sublist F
 | [],l=>by simp [ZaI]
 | f::F,[]=>by simp [ZaI]
 | f::F,v::l=>by
  unfold ZaI
  split
  ·exact Zkt.cons_cons f
  ·exact Zkt.cons f
/- reasons, of the smaller set -/
end
section
open Classical
theorem Yo.factsM {R:List Zg} {base F:List Zc} (h:Yo R base F) (l:List Int):Yj (ZaI F l)=true:=
 Zsz (h.few l).len (Zyr Zkt h.good.asc) (h.few l).ok
end
section
open Classical
def ZtB (R:List Zg) (base M:List Zc) (ok:Bool):Prop:=(ok=false∧M=[])∨(ok=true∧∃F,Yo R base F∧(Xg R F base).length≤60∧M=ZaI F (rdB { nodes:=((F.length:Nat):Int),reasons:=Xg R F base }))
theorem Zkp {R:List Zg} (hR:Zaz R) (base:List Zc) (a:base.length≤1048576):∃M ok,ZfH R base=some (M,ok)∧Zbi R base=some (M,ok)∧ZtB R base M ok:=by
 obtain ⟨F,b,ok,h1,h2,h3⟩:=Zi4 hR base a
 unfold ZfH Zbi
 rw [h1,h2]
 rcases h3 with ⟨rfl,rfl,rfl⟩ | ⟨rfl,hG,rfl,c⟩
 ·exact ⟨_,_,rfl,rfl,.inl ⟨rfl,rfl⟩⟩
 ·have hB:=Zdx.of hG c
  refine ⟨_,true,?_,?_,.inr ⟨rfl,F,hG,c,rfl⟩⟩
  ·rw [AL,if_pos rfl,Zw7 hB hG.args rfl];rfl
  ·rw [AL,if_pos rfl,Zrx hB hG.args rfl];rfl
theorem ZtB.few {R:List Zg} {base M:List Zc} {ok:Bool} (h:ZtB R base M ok):Zyg M:=by
 rcases h with ⟨_,rfl⟩ | ⟨_,F,hG,_,rfl⟩
 ·exact Zyp
 ·exact hG.few _
end
section
open Classical
theorem ZvV {α:Type} {p:Nat→α→Bool} {b:List α} (hp:∀i x,p i x=true↔b[i]?=some x):∀(a:List α),a.length=b.length→(Q5 p a 0=true↔a=b):=by
 intro a hl
 constructor
 ·intro ha
  apply List.ext_getElem?
  intro i
  by_cases hi:i<a.length
  ·have hx:=AA hi
   have:=ZjG ha i _ hx
   rw [Nat.zero_add,hp] at this
   rw [hx,this]
  ·rw [Am yE,Am yE]
 ·rintro rfl
  have:∀(l c:List α),a=c++l→Q5 p l c.length=true:=by
   intro l
   induction l with
   | nil=>intro c _;rfl
   | cons x l ih=>
    intro c e
    simp only[Q5,AG]
    refine ⟨(hp _ _).2 (by rw [e];simp),?_⟩
    have:=ih (c++[x]) (by rw [e];simp)
    simpa using this
  exact this a [] rfl
noncomputable def givesB (t:Zq) (f:Zc) (a:Zu):Bool:=(Zdk (Zb8 a.pattern t.binding)).2&&decide ((Zdk (Zb8 a.pattern t.binding)).1=f)
end
section
open Classical
theorem ZpV (x y:Zi):(sEq x.var y.var&&sEq x.value y.value)=true↔x=y:=by
 rw [AG,ZQ,ZQ]
 cases x
 cases y
 simp
theorem ZdH (a b:List Zi):ZcL a b=some (decide (a=b)):=by
 unfold ZcL
 by_cases h:a.length=b.length
 ·rw [if_neg (by simp;omega),Xu (p:=fun i x=>decide (b[i]?=some x)) (r:=false)]
  ·have:=ZvV (p:=fun i x=>decide (b[i]?=some x)) (b:=b) (fun i x=>by rw [decide_eq_true_iff]) a h
   by_cases e:a=b
   ·rw [if_pos (this.2 e),decide_eq_true e]
   ·rw [if_neg fun hh=>e (this.1 hh),decide_eq_false e]
  ·intro j x hx
   have hj:=(AU.1 hx).1
   have hb:b[j]?=some b[j]:=AA yE
   rw [Nat.zero_add,Za1,hb,AL]
   by_cases he:x=b[j]
   ·rw [if_pos ((ZpV _ _).2 he),decide_eq_true (by rw [he])];rfl
   ·rw [if_neg (fun hh=>he ((ZpV _ _).1 hh)),decide_eq_false fun e=>he (Ao e).symm];rfl
 ·rw [if_pos (by simp;omega),decide_eq_false (fun e=>h (by rw [e]))]
theorem ZiQ (a b:List Zi):Za6 a b=some (decide (a=b)):=ZdH a b
noncomputable def ZqR (out:List (List Zi)) (b:List Zi):List (List Zi):=if b∈out then out else out++[b]
noncomputable def Ye (ts:List Zq):List (List Zi):=ts.foldl (fun out t=>ZqR out t.binding) []
theorem Zfe (p:List Zq) (t:Zq):Ye (p++[t])=ZqR (Ye p) t.binding:=by unfold Ye;rw [List.foldl_append];rfl
theorem ZFn {α:Type} {P:List α→Prop} (h0:P []) (h:∀p x,P p→P (p++[x])) (l:List α):P l:=by
 have:∀n (l:List α),l.length=n→P l:=by
  intro n
  induction n with
  | zero=>intro l hl;rw [Aq hl];exact h0
  | succ n ih=>
   intro l hl
   obtain ⟨p,x,rfl⟩:∃p x,l=p++[x]:=⟨l.dropLast,l.getLast (by intro e;simp [e] at hl),(Al _).symm⟩
   exact h p x (ih p (by simpa using hl))
 exact this _ l rfl
theorem ZgQ (ts:List Zq):(Ye ts).length≤ts.length∧(Ye ts).Nodup∧∀b,b∈Ye ts↔∃t∈ts,t.binding=b:=
 ZFn (P:=fun ts=>(Ye ts).length≤ts.length∧(Ye ts).Nodup∧∀b,b∈Ye ts↔∃t∈ts,t.binding=b) ⟨A0 _,List.nodup_nil,by simp [Ye]⟩ (fun p x ⟨h1,h2,h3⟩=>by
  rw [Zfe]
  unfold ZqR
  by_cases hm:x.binding∈Ye p
  ·rw [if_pos hm]
   refine ⟨by simp;omega,h2,fun b=>?_⟩
   rw [h3]
   constructor
   ·rintro ⟨t,mt,e⟩;exact ⟨t,by simp [mt],e⟩
   ·rintro ⟨t,mt,e⟩
    rcases A5.1 mt with mt | mt
    ·exact ⟨t,mt,e⟩
    ·simp at mt
     subst mt
     rw [←e]
     exact (h3 _).1 hm
  ·rw [if_neg hm]
   refine ⟨by simp;omega,?_,fun b=>?_⟩
   ·exact AS.2 ⟨h2,yG,fun a ha c hc e=>by simp at hc;subst hc;subst e;exact hm ha⟩
   ·rw [A5,h3]
    constructor
    ·rintro (⟨t,mt,e⟩ | mb)
     ·exact ⟨t,by simp [mt],e⟩
     ·simp at mb
      exact ⟨x,yG,mb.symm⟩
    ·rintro ⟨t,mt,e⟩
     rcases A5.1 mt with mt | mt
     ·exact .inl ⟨t,mt,e⟩
     ·simp at mt
      subst mt
      exact .inr (by simp [e])) ts
theorem Zsp (b:List Zi):∀(l:List (List Zi)) (u:Bool),l.foldl (fun u x=>u||decide (x=b)) u=(u||decide (b∈l))
 | [],u=>by simp
 | x::l,u=>by
  rw [List.foldl_cons,Zsp b l,Bool.or_assoc]
  congr 1
  by_cases h:x=b
  ·simp [h]
  ·by_cases h2:b∈l
   ·simp [h,h2]
   ·have:¬b=x:=fun e=>h e.symm
    simp [h,h2,this]
theorem Zre {ρ:Type} {ts:List Zq} {fin:List (List Zi)→Option ρ} {body:Nat→Zq→List (List Zi)→Option (List (List Zi) ⊕ ρ)} (hb:∀i t row,t∈ts→row.length≤ts.length→body i t row=some (.inl (ZqR row t.binding))):Zp body fin ts 0 []=fin (Ye ts):=by
 have h0:([]:List (List Zi))=Ye []:=rfl
 rw [h0,ZaC Ye ts]
 intro p t q e
 have:p.length+(q.length+1)=ts.length:=by rw [e,Aa,AH]
 rw [hb _ _ _ (by rw [e];simp) (by have:=(ZgQ p).1;omega),Zfe]
theorem ZmQ {ρ:Type} {row:List (List Zi)} {b:List Zi} {a:List Zi→List Zi→Option Bool} (hs:∀x,a x b=some (decide (x=b))) {fin:Bool→Option ρ}:Zp (σ:=Bool) (fun (i27:Nat) (c:List Zi) known_23=>if known_23=true then some (.inl true) else (a c b).bind fun d=>some (.inl d)) fin row 0 false=fin (decide (b∈row)):=by
 rw [ZiU (f:=fun u x=>u||decide (x=b)),Zsp]
 ·simp
 ·intro j x s _
  cases s with
  | true=>rfl
  | false=>rw [if_neg yG,hs,AL];simp
theorem Zuz {row:List (List Zi)} {b:List Zi}:(if decide (b∈row)=true then some (Sum.inl row) else some (Sum.inl (row++[b])):Option (List (List Zi) ⊕ (List (List Zi) × Bool)))=some (.inl (ZqR row b)):=by
 unfold ZqR
 by_cases h:b∈row
 ·rw [if_pos (decide_eq_true h),if_pos h]
 ·rw [if_neg (by simpa using h),if_neg h]
def ZGl (R:List Zg) (base:List Zc) (q:List Zl) (A:List (List Zi)) (ok:Bool):Prop:=(ok=false∧A=[]∧∀M,Zbi R base=some (M,true)→XY q=false)∨(ok=true∧∃M,Zbi R base=some (M,true)∧Zyg M∧XY q=true∧A=Ye (Zz q M))
theorem Zf9 {q:List Zl} (h:XY q=true):1≤q.length∧q.length≤4∧∀x∈q,Y1 x=true:=by
 unfold XY YP at h
 simp only[AG,decide_eq_true_eq] at h
 refine ⟨h.1.1.1.1.1.1.2,h.1.1.1.1.1.2,fun x mx=>?_⟩
 obtain ⟨j,hj,e⟩:=List.getElem_of_mem mx
 have:=ZjG h.1.1.2 j x (by show q[j]?=some x;rw [AA hj,e])
 simp only[AG] at this
 exact this.1.1
theorem Zip {R:List Zg} (hR:Zaz R) (base:List Zc) (g:base.length≤1048576) (q:List Zl) (hq:q.length≤1048576) (c:∀x∈q,x.pattern.args.length≤1048576):∃A ok,ZiV R base q=some (A,ok)∧Zcg R base q=some (A,ok)∧ZGl R base q A ok:=by
 obtain ⟨M,ok,h1,h2,h3⟩:=Zkp hR base g
 have a:=h3.few
 unfold ZiV Zcg
 rw [h1,h2,Zgw q hq c,ZlA q hq c]
 simp only[AL]
 rcases h3 with ⟨rfl,rfl⟩ | ⟨rfl,F,hG,h60,m⟩
 ·exact ⟨_,_,rfl,rfl,.inl ⟨rfl,rfl,fun M e=>by rw [h2] at e;simp at e⟩⟩
 ·simp only[if_true]
  cases hv:XY q with
  | false=>exact ⟨_,_,rfl,rfl,.inl ⟨rfl,rfl,fun _ _=>hv⟩⟩
  | true=>
   obtain ⟨_,j,_⟩:=Zf9 hv
   have d:=a.len
   have o:∀f∈M,f.args.length≤3:=fun f mf=>Y8 (a.ok f mf)
   have k:=hG.factsM (rdB { nodes:=((F.length:Nat):Int),reasons:=Xg R F base })
   rw [←m] at k
   have htl:=Q7 M d q j
   have p:∀t∈Zz q M,t.binding.length≤6:=fun t mt=>QE (Zbw M _ t mt).bind
   simp only[if_true]
   rw [Zfr q M j d o,Zjt q hq c]
   simp only[AL]
   have hT:=Zoc (Qe ⟨#[97,115,107]⟩ q) M (Ze5 hq c) yE
   have u:YP (Qe ⟨#[97,115,107]⟩ q)=true:=by rw [Zke Zs3 Zxk];exact hv
   rw [u,k] at hT
   have v:Zck (Qe ⟨#[97,115,107]⟩ q) ((q.length:Nat):Int) M=some (Zz q M):=hT
   rw [v]
   simp only[AL]
   refine ⟨Ye (Zz q M),true,?_,?_,.inr ⟨rfl,M,h2,a,hv,rfl⟩⟩
   ·rw [Zre]
    intro i t row mt l
    rw [ZmQ (b:=t.binding) (fun x=>ZdH x t.binding),Zj _ yE]
    exact Zuz
   ·rw [Zre]
    intro i t row mt l
    rw [ZmQ (b:=t.binding) (fun x=>ZiQ x t.binding)]
    have:=p t mt
    rw [show ZaS t.binding=some t.binding from Zj _ yE,AL,Zj _ yE]
    exact Zuz
end
section
open Go.RowKit
def ZlU:Nat→Nat→List UInt8→List UInt8
 | 0,_,acc=>acc
 | f+1,k,acc=>if k=0 then acc else ZlU f (k / 10) ((48+AX (k % 10))::acc)
def ZrG (k:Nat):ByteArray:=⟨(109::ZlU (k+1) k []).toArray⟩
theorem ZlJ (W:World) (z:Int):(convert 63 9 (.slice (some ⟨W.heap.size,0,none⟩) 1 1)).run prog (W.alloc (.cells #[.int .u8 z] 5))=.ok (.string ⟨#[AX z.toNat]⟩) (W.alloc (.cells #[.int .u8 z] 5)):=by
 rw [run_convert_bytes_string _ _ _ _ _ _ _ underlying63 underlying5 underlying9,run_bytesToString _ _ _ _ [z] (by simp [loadCells,go_sem])]
 rfl
theorem Zql (k:Nat) (w:World) (h0:1≤k) (h1:k≤4611686018427387904):
  Calls prog 75 #[.int .i64 k] w fun e w'=>e=.returned (.string (ZrG k))∧Below w.heap.size w w':=by
 have hle:¬((k:Int)≤0):=by omega
 have kc:=ZlJ
 go_enter func75,ntmps75
 go_wp2
 go_loopw [0,3] (fun i s wr=>∃(f q:Nat) (a:List UInt8),i=.int .i64 q∧s=.string ⟨a.toArray⟩∧q≤k∧q<f∧a.length+q≤k∧Hid (ZlU f q a=ZlU (k+1) k [])∧Hid (Below w.heap.size w wr)) (fun i _ _=>(intOf i).toNat)
 case atStart=>exact ⟨k+1,k,[],rfl,rfl,A0 _,yE,yG,yS rfl,Below.refl _ _⟩
 case round=>
  obtain ⟨f,q,a,rfl,rfl,hqk,hqf,hal,HE,HB⟩:=hrel
  by_cases hq:0<q
  ·have b:(0:Int)<q:=by omega
   have HEn:Hid (ZlU (f - 1) (q / 10) ((48+AX (q % 10))::a)=ZlU (k+1) k []):=by
    rw [Hid,←HE.out]
    obtain ⟨f,rfl⟩:∃g,f=g+1:=⟨f - 1,yE⟩
    rw [ZlU,if_neg yE];rfl
   go_wp2
   go_roundw
   case rel=>exact ⟨f - 1,q / 10,_,by go_num,congrArg Value.string (by rw [Ar];simp),yE,yE,by simp only[AH];omega,HEn,HB.out.alloc HB.out.size _⟩
   case measure=>simp [intOf];omega
  ·obtain rfl:q=0:=by omega
   have e:Hid (ZlU (k+1) k []=a):=by
    rw [Hid,←HE.out]
    obtain ⟨f,rfl⟩:∃g,f=g+1:=⟨f - 1,yE⟩
    simp [ZlU]
   have b:¬(0:Int)<(0:Nat):=by omega
   go_wp2
   go_ret
   exact ⟨congrArg (fun s=>Ending.returned (.string s)) (by rw [ZrG,e.out,Ar];simp),HB.out⟩
theorem ZrM:∀(f k:Nat) (a:List UInt8),(ZlU f k a).length≤a.length+f
 | 0,_,a=>by simp [ZlU]
 | f+1,k,a=>by
  rw [ZlU]
  split
  ·omega
  ·have:=ZrM f (k / 10) ((48+AX (k % 10))::a)
   simp at this;omega
theorem ZtN (k:Nat) (h:k≤4611686018427387904):(ZrG k).size≤9223372036854775807:=by
 have:=ZrM (k+1) k []
 simp [ZrG,As] at this ⊢
 omega
end
section
open Go.RowKit
def mTx (k:Int):ByteArray:=ZrG k.toNat
theorem YR (k:Int) (w:World) (h0:1≤k) (h1:k≤4611686018427387904):
  Calls prog 75 #[.int .i64 k] w fun e w'=>e=.returned (.string (mTx k))∧Below w.heap.size w w':=by
 obtain ⟨n,rfl⟩:=Int.eq_ofNat_of_zero_le (show 0≤k by omega)
 exact Zql n w yE yE
theorem ZbR (k:Int) (h:k≤4611686018427387904):(mTx k).size≤9223372036854775807:=ZtN _ yE
def Xh:Int→List ByteArray→List ByteArray
 | _,[]=>[]
 | k,_::r=>mTx k::Xh (k+1) r
def Z5 (k:Int) (l:List ByteArray):Int:=k+l.length
theorem Zff (k:Int) (l:List ByteArray):(Xh k l).length=l.length:=by induction l generalizing k with | nil=>rfl | cons x r ih=>simp [Xh,ih]
theorem Qm (k:Int) (l:List ByteArray):k≤Z5 k l:=by unfold Z5;omega
theorem ZdV (k:Int) (l:List ByteArray):Z5 k l≤k+16 * XD l:=by unfold Z5 XD;omega
def Zi3 (k:Int) (x:Zc):Zc:=⟨mTx (k),Xh (k+1) x.args⟩
def X1 (k:Int) (x:Zc):Int:=Z5 (k+1) x.args
def Zdr:Int→List Zc→List Zc
 | _,[]=>[]
 | k,x::r=>Zi3 k x::Zdr (X1 k x) r
def YG:Int→List Zc→Int
 | k,[]=>k
 | k,x::r=>YG (X1 k x) r
theorem Zlt (k:Int) (x:Zc):k≤X1 k x:=by
 unfold X1
 have:=Qm (k+1) x.args
 omega
theorem Zkc (k:Int) (l:List Zc):k≤YG k l:=by
 induction l generalizing k with
 | nil=>exact AP _
 | cons x r ih=>exact AB (Zlt k x) (ih _)
theorem Zs0 (k:Int) (x:Zc):X1 k x≤k+1+16 * Xx x:=by
 unfold X1
 have:=ZdV (k+1) x.args
 simp only[Xx]
 omega
theorem Zqo (k:Int) (l:List Zc):YG k l≤k+16 * Yu l:=by
 induction l generalizing k with
 | nil=>simp [YG,Yu]
 | cons x r ih=>
  have h1:=Zs0 k x
  have h2:=ih (X1 k x)
  simp only[YG,Yu,AH,AJ,AK] at h2 ⊢
  omega
def Zi8 (k:Int) (x:Zi):Zi:=⟨mTx (k),mTx (k+1)⟩
def Yx (k:Int) (x:Zi):Int:=k+1+1
def Yz:Int→List Zi→List Zi
 | _,[]=>[]
 | k,x::r=>Zi8 k x::Yz (Yx k x) r
def ZN:Int→List Zi→Int
 | k,[]=>k
 | k,x::r=>ZN (Yx k x) r
theorem ZgJ (k:Int) (l:List Zi):(Yz k l).length=l.length:=by induction l generalizing k with | nil=>rfl | cons x r ih=>simp [Yz,ih]
theorem ZgU (k:Int) (x:Zi):k≤Yx k x:=by
 unfold Yx
 omega
theorem QK (k:Int) (l:List Zi):k≤ZN k l:=by
 induction l generalizing k with
 | nil=>exact AP _
 | cons x r ih=>exact AB (ZgU k x) (ih _)
theorem Zrn (k:Int) (x:Zi):Yx k x≤k+2+16 * Zd1 x:=by
 unfold Yx
 simp only[Zd1]
 omega
theorem ZqD (k:Int) (l:List Zi):ZN k l≤k+16 * ZdD l:=by
 induction l generalizing k with
 | nil=>simp [ZN,ZdD]
 | cons x r ih=>
  have h1:=Zrn k x
  have h2:=ih (Yx k x)
  simp only[ZN,ZdD,AH,AJ,AK] at h2 ⊢
  omega
def Zjg (k:Int) (x:Zl):Zl:=⟨(k),⟨mTx (k+1),Xh (k+1+1) x.pattern.args⟩,mTx (Z5 (k+1+1) x.pattern.args),mTx (Z5 (k+1+1) x.pattern.args+1)⟩
def X0 (k:Int) (x:Zl):Int:=Z5 (k+1+1) x.pattern.args+1+1
def Za2:Int→List Zl→List Zl
 | _,[]=>[]
 | k,x::r=>Zjg k x::Za2 (X0 k x) r
def Yq:Int→List Zl→Int
 | k,[]=>k
 | k,x::r=>Yq (X0 k x) r
theorem Zsg (k:Int) (l:List Zl):(Za2 k l).length=l.length:=by induction l generalizing k with | nil=>rfl | cons x r ih=>simp [Za2,ih]
theorem Zlq (k:Int) (x:Zl):k≤X0 k x:=by
 unfold X0
 have:=Qm (k+1+1) x.pattern.args
 omega
theorem Zdv (k:Int) (l:List Zl):k≤Yq k l:=by
 induction l generalizing k with
 | nil=>exact AP _
 | cons x r ih=>exact AB (Zlq k x) (ih _)
theorem Ztc (k:Int) (x:Zl):X0 k x≤k+4+16 * Ys x:=by
 unfold X0
 have:=ZdV (k+1+1) x.pattern.args
 simp only[Ys,Z6]
 omega
theorem Zkl (k:Int) (l:List Zl):Yq k l≤k+16 * Z3 l:=by
 induction l generalizing k with
 | nil=>simp [Yq,Z3]
 | cons x r ih=>
  have h1:=Ztc k x
  have h2:=ih (X0 k x)
  simp only[Yq,Z3,AH,AJ,AK] at h2 ⊢
  omega
def ZdL (k:Int) (x:Zu):Zu:=⟨(k),⟨mTx (k+1),Xh (k+1+1) x.pattern.args⟩⟩
def YS (k:Int) (x:Zu):Int:=Z5 (k+1+1) x.pattern.args
def XN:Int→List Zu→List Zu
 | _,[]=>[]
 | k,x::r=>ZdL k x::XN (YS k x) r
def YH:Int→List Zu→Int
 | k,[]=>k
 | k,x::r=>YH (YS k x) r
theorem Zoe (k:Int) (l:List Zu):(XN k l).length=l.length:=by induction l generalizing k with | nil=>rfl | cons x r ih=>simp [XN,ih]
theorem Ziq (k:Int) (x:Zu):k≤YS k x:=by
 unfold YS
 have:=Qm (k+1+1) x.pattern.args
 omega
theorem ZdJ (k:Int) (l:List Zu):k≤YH k l:=by
 induction l generalizing k with
 | nil=>exact AP _
 | cons x r ih=>exact AB (Ziq k x) (ih _)
theorem Zoa (k:Int) (x:Zu):YS k x≤k+2+16 * Yt x:=by
 unfold YS
 have:=ZdV (k+1+1) x.pattern.args
 simp only[Yt,Z6]
 omega
theorem ZmW (k:Int) (l:List Zu):YH k l≤k+16 * Ym l:=by
 induction l generalizing k with
 | nil=>simp [YH,Ym]
 | cons x r ih=>
  have h1:=Zoa k x
  have h2:=ih (YS k x)
  simp only[YH,Ym,AH,AJ,AK] at h2 ⊢
  omega
def Zja (k:Int) (x:Zg):Zg:=⟨mTx (k),(k+1),Za2 (k+1+1) x.cond,XN (Yq (k+1+1) x.cond) x.thn⟩
def XV (k:Int) (x:Zg):Int:=YH (Yq (k+1+1) x.cond) x.thn
def Zdn:Int→List Zg→List Zg
 | _,[]=>[]
 | k,x::r=>Zja k x::Zdn (XV k x) r
def Yi:Int→List Zg→Int
 | k,[]=>k
 | k,x::r=>Yi (XV k x) r
theorem Zk3 (k:Int) (x:Zg):k≤XV k x:=by
 unfold XV
 have:=Zdv (k+1+1) x.cond
 have:=ZdJ (Yq (k+1+1) x.cond) x.thn
 omega
theorem Zjy (k:Int) (l:List Zg):k≤Yi k l:=by
 induction l generalizing k with
 | nil=>exact AP _
 | cons x r ih=>exact AB (Zk3 k x) (ih _)
theorem Zs1 (k:Int) (x:Zg):XV k x≤k+2+16 * Yv x:=by
 unfold XV
 have:=Zkl (k+1+1) x.cond
 have:=ZmW (Yq (k+1+1) x.cond) x.thn
 simp only[Yv]
 omega
theorem Zqh (k:Int) (l:List Zg):Yi k l≤k+16 * Yg l:=by
 induction l generalizing k with
 | nil=>simp [Yi,Yg]
 | cons x r ih=>
  have h1:=Zs1 k x
  have h2:=ih (XV k x)
  simp only[Yi,Yg,AH,AJ,AK] at h2 ⊢
  omega
def Y6:Int→List (List Zi)→List (List Zi)
 | _,[]=>[]
 | k,x::r=>Yz k x::Y6 (ZN k x) r
def ZS:Int→List (List Zi)→Int
 | k,[]=>k
 | k,x::r=>ZS (ZN k x) r
def Zbc (l:List (List Zi)):Nat:=l.length+(l.map ZdD).sum
theorem Zqq (k:Int) (l:List (List Zi)):(Y6 k l).length=l.length:=by induction l generalizing k with | nil=>rfl | cons x r ih=>simp [Y6,ih]
theorem Zfs (k:Int) (l:List (List Zi)):k≤ZS k l:=by
 induction l generalizing k with
 | nil=>exact AP _
 | cons x r ih=>exact AB (QK k x) (ih _)
theorem Zoi (k:Int) (l:List (List Zi)):ZS k l≤k+16 * Zbc l:=by
 induction l generalizing k with
 | nil=>simp [ZS,Zbc]
 | cons x r ih=>
  have h1:=ZqD k x
  have h2:=ih (ZN k x)
  simp only[ZS,Zbc,AH,AJ,AK] at h2 ⊢
  omega
end
section
open Go.RowKit
theorem Ztp:(prog.info? 109).map (fun i=>(i.zero,i.size,i.bytes))=some (some (.slice none 0 0),1,24):=yO
theorem Zu2 {α:Type} {c:Yh α} {E:TypeId} {W w:World} (h:Below W.heap.size W w):ZeC c E W (.slice none 0 0) [] w:=
 ⟨⟨[],[],ZfF _ _ _ _,⟨rfl,rfl⟩,by simpa [Value.ownBlock] using Own.nil w W.heap.size⟩,h⟩
theorem Zsw {ts:List Zq} {k:Nat} {t:Zq} (h:ts[k]?=some t):Ye (ts.take (k+1))=ZqR (Ye (ts.take k)) t.binding:=by
 rw [AR,h];exact Zfe _ _
open Classical in
theorem ZiK {ds:List (List Zi)} {j:Nat} {b x:List Zi} (h:ds[j]?=some b):decide (x∈ds.take (j+1))=(decide (x∈ds.take j)||decide (b=x)):=by
 rw [AR,h,Bool.eq_iff_iff]
 simp only[decide_eq_true_eq,Bool.or_eq_true,A5,Ak,At]
 exact or_congr Iff.rfl eq_comm
open Classical in
noncomputable def ZBe (q:List Zl) (M:List Zc) (b:Bool):List (List Zi):=if b=true then Ye (Zz q M) else []
open Classical in
set_option maxRecDepth 1000000 in
set_option maxHeartbeats 8000000 in
theorem Zt1 {R : List Zg} {base M : List Zc} {q : List Zl} {okm u : Bool} {r0 : List (List Zi)} {r1 : Bool} (hr0 : r0 = ZBe q M (okm && u)) (hr1 : r1 = (okm && u)) (hM : Zbi R base = some (M, okm)) (hu : ZaE q = some u) (hq : u = true → q.length ≤ 4) (hF : M.length ≤ 24) (hFa : ∀ f ∈ M, f.args.length ≤ 3) (w : World) (hj : J0 w) (A : Option Addr) (c : Nat) (L : List Nat) (hR : (Zw XW).rep w [.slice A R.length c] R L) (B : Option Addr) (d : Nat) (K : List Nat) (hB : (Zw Z8).rep w [.slice B base.length d] base K) (C : Option Addr) (e : Nat) (N : List Nat) (hC : (Zw YL).rep w [.slice C q.length e] q N) :
    Calls prog 16 #[.slice A R.length c, .slice B base.length d, .slice C q.length e] w (ZlW (Zw Yd) 109 w r0 r1) := by
  have HC := Lib.hid hC
  have HM := Lib.hid hM
  have HU := Lib.hid hu
  have HJ := Lib.hid hj
  have HQ : Hid (u = true → q.length ≤ 4) := hq
  have HF : Hid (M.length ≤ 24) := hF
  have HFa : Hid (∀ f ∈ M, f.args.length ≤ 3) := hFa
  have HR0 : Hid (r0 = ZBe q M (okm && u)) := hr0
  have HR1 : Hid (r1 = (okm && u)) := hr1
  clear hM hu hj hq hFa hC hr0 hr1 hF
  go_enter func16, ntmps16
  go_wp2_with fail
  refine (Zm.givesSB (c := Z8) (g := Zs) (t := 53) (ds := M) (b := okm) (Zqu HM.out) ZcB HJ.out (vs := [_, _]) ⟨Zcs Zu9 _ hR, Zcs ZcB _ hB, trivial⟩).mono ?_
  rintro e1 w1 ⟨v, rfl, hA⟩
  obtain ⟨An, cap, rfl⟩ := hA.shape
  obtain ⟨LM, hG⟩ := hA.got
  have HGM := Lib.hid hG
  have W1 : Hid (Below w.heap.size w w1) := hA.below
  clear hA hG hR hB
  cases okm with
  | false =>
    have h0 : r0 = [] := HR0.out
    have h1 : r1 = false := HR1.out
    subst h0 h1
    go_wp2
    go_ret2
    exact ⟨_, rfl, Zu2 W1.out⟩
  | true =>
    go_wp2_with fail
    refine (Zm.givesB (ZlV HU.out) (Qt hJ0 HJ.out W1.out) (vs := [_]) ⟨Zcs Zkf _ ((Zw YL).keep HC.out (Zy W1.out (fun y m => (Zw YL).lt HC.out y m))), trivial⟩).mono ?_
    rintro e2 w2 ⟨rfl, hb2⟩
    have W12 : Hid (Below w1.heap.size w1 w2) := hb2
    have W2 : Hid (Below w.heap.size w w2) := W1.out.trans (hb2.mono W1.out.size)
    clear hb2
    cases u with
    | false =>
      have h0 : r0 = [] := HR0.out
      have h1 : r1 = false := HR1.out
      subst h0 h1
      go_wp2
      go_ret2
      exact ⟨_, rfl, Zu2 W2.out⟩
    | true =>
      have h0 : r0 = Ye (Zz q M) := HR0.out
      have h1 : r1 = true := HR1.out
      have HR := Lib.hid h0
      subst h1
      clear h0
      have hq4 := HQ.out rfl
      go_wp2_with fail
      refine (ZtK hq4 HF.out HFa.out _ (Qt hJ0 HJ.out W2.out) _ _ N ((Zw YL).keep HC.out (Zy W2.out (fun y m => (Zw YL).lt HC.out y m))) _ _ LM ((Zw Z8).keep HGM.out.rep (Zy W12.out (fun y m => (Zw Z8).lt HGM.out.rep y m)))).mono ?_
      rintro e3 w3 ⟨v3, rfl, hT⟩
      obtain ⟨ts, hts⟩ : ∃ ts, Zz q M = ts := ⟨_, rfl⟩
      have hnt2 : ts.length ≤ 331776 := by rw [← hts]; exact Q7 M HF.out q hq4
      have HTS : Hid (Zz q M = ts) := hts
      rw [hts] at hT
      obtain ⟨Av, cv, e4⟩ := hT.shape
      subst e4
      obtain ⟨nt, hnt⟩ : ∃ nt, ts.length = nt := ⟨_, rfl⟩
      have HNT : Hid (ts.length = nt) := hnt
      rw [hnt] at hT hnt2 ⊢
      obtain ⟨LA, hG⟩ := hT.got
      obtain ⟨_, _, hS⟩ := ZH hG.rep
      obtain ⟨css, Ls, hP⟩ := hS.parts
      have HP := Lib.hid hP
      have HOA : Hid (Own w3 w.heap.size LA) := hG.own.mono W2.out.size
      have W3 : Hid (Below w.heap.size w w3) := W2.out.trans (hT.below.mono W2.out.size)
      clear hT hG hS hP hts hnt hq4
      go_wp2
      have hst : Hid (Zbz (Zw Yd) 109 w w3 LA Ls (Ye (ts.take 0)) 0 (.slice none 0 0) w3) := Zbz.start HOA.out.lt W3.out
      go_loopw [10, 33] (fun v i wr => ∃ (k : Nat), k ≤ nt ∧ i = .int .i64 k ∧ Hid (Zbz (Zw Yd) 109 w w3 LA Ls (Ye (ts.take k)) k v wr)) (fun _ i _ => nt - (intOf i).toNat)
      case atStart => exact ⟨0, A4 _, rfl, hst⟩
      case round =>
        clear hst
        obtain ⟨k, hk, rfl, HA⟩ := hrel
        by_cases hlt : k < nt
        · obtain ⟨t, ht⟩ : ∃ t, ts[k]? = some t := ⟨_, AA (by have := HNT.out; omega)⟩
          obtain ⟨c1, hc1⟩ : ∃ c1, css[k]? = some c1 := ⟨_, AA (by have := HP.out.cl; have := HNT.out; omega)⟩
          obtain ⟨l1, hl1⟩ : ∃ l1, Ls[k]? = some l1 := ⟨_, AA (by have := HP.out.ll; have := HNT.out; omega)⟩
          obtain ⟨bt, ot, rfl, hbt, hct⟩ := HP.out.at_ k c1 hc1
          obtain ⟨A1, d1, L1, A2, d2, L2, e1, e2, n1, m1, s1, n2, m2, s2⟩ := HP.out.el k t c1 l1 ht hc1 hl1
          subst e1
          have HT : Hid (ts[k]? = some t) := ht
          have HL1 : Hid (Ls[k]? = some l1) := hl1
          have hsub : Hid (∀ y ∈ l1, y ∈ LA) := by
            intro y m
            obtain ⟨a1, a2⟩ := AU.1 hl1
            exact HP.out.sub.subset (Ag.2 ⟨l1, a2 ▸ Ah a1, m⟩)
          obtain ⟨tf, htf⟩ : ∃ n, t.facts.length = n := ⟨_, rfl⟩
          obtain ⟨tb, htb⟩ : ∃ n, t.binding.length = n := ⟨_, rfl⟩
          have HTB : Hid (t.binding.length = tb) := htb
          have q0 : wr.cell? ⟨bt, ot + k * 2, none⟩ = some (.slice A1 tf d1) := (World.cell?_of_block (a := ⟨bt, ot + (k * 2 + 0), none⟩) (HA.out.same bt hbt)).trans ((hct 0 _ rfl).trans (by rw [htf]))
          have q1 : wr.cell? ⟨bt, ot + k * 2 + 1, none⟩ = some (.slice A2 tb d2) := (World.cell?_of_block (a := ⟨bt, ot + (k * 2 + 1), none⟩) (HA.out.same bt hbt)).trans ((hct 1 _ rfl).trans (by rw [htb]))
          have HB3 : Hid ((Zw Yd).rep w3 [.slice A2 tb d2] t.binding L2) := ⟨A2, d2, by rw [htb], n2, m2, s2⟩
          have HS2 : Hid (L2.Sublist l1) := by rw [e2]; exact AZ _ _
          obtain ⟨ds, hds⟩ : ∃ ds, ds = Ye (ts.take k) := ⟨_, rfl⟩
          have HDS : Hid (ds = Ye (ts.take k)) := hds
          have hdl : ds.length ≤ 331776 := by have h := (ZgQ (ts.take k)).1; rw [← hds] at h; have : (ts.take k).length ≤ k := by simp; omega
                                              omega
          rw [← hds] at HA
          obtain ⟨Ad, cd, Ld, ev, hrd⟩ := HA.out.reads HP.out.sub
          obtain ⟨nd, hnd⟩ : ∃ nd, ds.length = nd := ⟨_, rfl⟩
          have HND : Hid (ds.length = nd) := hnd
          rw [hnd] at ev hrd hdl
          have HRD := Lib.hid hrd
          have HEV : Hid (u10 = .slice Ad nd cd) := ev
          subst ev
          clear hct ht hc1 hl1 htf htb n1 m1 s1 n2 m2 s2 e2 hds hrd hnd
          go_wp2
          obtain ⟨w4, hw4⟩ : ∃ w4, w4 = wr.alloc (.cells #[.slice A1 tf d1, .slice A2 tb d2] 111) := ⟨_, rfl⟩
          obtain ⟨gt, hgt⟩ : ∃ gt, gt = wr.heap.size := ⟨_, rfl⟩
          have K2 : Hid (Blk w4 gt 111 #[.slice A1 tf d1, .slice A2 tb d2]) := by rw [hw4, hgt]; exact Blk.new _ _ _
          have B4 : Hid (Below wr.heap.size wr w4) := by rw [hw4]; exact (Below.refl _ wr).alloc (A0 _) _
          have BW : Hid (Below w.heap.size w wr) := HA.out.below
          have HB4 : Hid ((Zw Yd).rep wr [.slice A2 tb d2] t.binding L2) := (Zw Yd).keep HB3.out (fun y m => HA.out.same y (hsub.out y (HS2.out.subset m)))
          rw [← hw4, ← hgt]
          clear hw4 hgt q0 q1
          go_loopw [13, 39] (fun kn i wq => ∃ (j : Nat), j ≤ nd ∧ i = .int .i64 j ∧ kn = .bool (decide (t.binding ∈ ds.take j)) ∧ Hid (Below w4.heap.size w4 wq)) (fun _ i _ => nd - (intOf i).toNat)
          case atStart => exact ⟨0, A4 _, rfl, by simp, Below.refl _ _⟩
          case round =>
            obtain ⟨j, hj, rfl, ekn, HI⟩ := hrel
            subst ekn
            have k1 : wr.cell? ⟨gt, 1, none⟩ = some (.slice A2 tb d2) := (K2.out.later HI.out).at (i := 1) rfl
            by_cases hjn : j < nd
            · have hjd : j < ds.length := by have := HND.out; omega
              obtain ⟨b, hb⟩ : ∃ b, ds[j]? = some b := ⟨_, AA hjd⟩
              have HBJ := Lib.hid hb
              obtain ⟨_, _, hS⟩ := ZH HRD.out
              obtain ⟨bo, oo, cs, Lk, rfl, hbo, hLk, hrep, hc⟩ := hS.at_ hjd
              have hbe : ds[j] = b := by rw [AA hjd] at hb; exact Ao hb
              rw [hbe] at hrep
              obtain ⟨Aj, cj, e5, n5, m5, s5⟩ := hrep
              subst e5
              obtain ⟨bl, hbl⟩ : ∃ bl, b.length = bl := ⟨_, rfl⟩
              have B5 : Hid (Below _ _ wr) := B4.out.trans (HI.out.mono B4.out.size)
              have WB : Hid (Below w.heap.size w wr) := BW.out.trans (B5.out.mono BW.out.size)
              have z0 : wr.cell? ⟨bo, oo + j, none⟩ = some (.slice Aj bl cj) := by
                have h := hc 0 _ rfl
                rw [show oo + (j * (Zw Yd).size + 0) = oo + j from by show oo + (j * 1 + 0) = _; omega, hbl] at h
                exact (B5.out.cell (p := ⟨bo, oo + j, none⟩) (hS.lt bo hbo)).trans h
              have HBR : Hid ((Zw Yd).rep wr [.slice Aj bl cj] b Lk) := ⟨Aj, cj, by rw [hbl], n5, m5, s5.below B5.out⟩
              have HTR : Hid ((Zw Yd).rep wr [.slice A2 tb d2] t.binding L2) := (Zw Yd).keep HB4.out (Zy B5.out (fun y m => (Zw Yd).lt HB4.out y m))
              clear hc hS hb hbe hbl n5 m5 s5 hLk
              cases hkn : decide (t.binding ∈ ds.take j) with
              | true =>
                have HK := Lib.hid hkn
                clear hkn
                go_wp2
                exact ⟨⟨j + 1, by omega, by simp, by rw [ZiK HBJ.out, HK.out]; rfl, HI.out⟩, by simp [intOf]; omega⟩
              | false =>
                have HK := Lib.hid hkn
                clear hkn
                go_wp2_with fail
                refine (Zm.givesB (Zmy (ZdH b t.binding)) (Qt hJ0 HJ.out WB.out) (vs := [_, _]) ⟨Zcs ZeK _ HBR.out, Zcs ZeK _ HTR.out, trivial⟩).mono ?_
                rintro e5 w5 ⟨rfl, hb5⟩
                have HB5 := Lib.hid (HI.out.trans (hb5.mono HI.out.size))
                clear hb5 z0 k1
                go_wp2
                exact ⟨⟨j + 1, by omega, by simp, by rw [ZiK HBJ.out, HK.out, Bool.false_or], HB5.out⟩, by simp [intOf]; omega⟩
            · have hjn2 : j = nd := by omega
              have B5 : Hid (Below _ _ wr) := B4.out.trans (HI.out.mono B4.out.size)
              have HA5 := Lib.hid (HA.out.later B5.out)
              have HTR : Hid ((Zw Yd).rep _ [.slice A2 tb d2] t.binding L2) := HB3.out
              rw [hjn2, AT (by have := HND.out; omega)]
              cases hkn : decide (t.binding ∈ ds) with
              | true =>
                have HK := Lib.hid hkn
                clear hkn
                go_wp2
                refine ⟨⟨k + 1, by omega, by simp, ?_⟩, by simp [intOf]; omega⟩
                show Zbz _ _ _ _ _ _ _ _ _ _
                rw [Zsw HT.out, ← HDS.out, ZqR, if_pos (of_decide_eq_true HK.out)]
                exact HA5.out.skip HL1.out
              | false =>
                have HK := Lib.hid hkn
                clear hkn
                obtain ⟨xs, Lp, ho, hr, hs⟩ := HA5.out.ex
                rw [HND.out] at ho
                have HO := Lib.hid ho
                have HRs := Lib.hid (And.intro hr hs)
                have HSW : Hid (w.heap.size ≤ wr.heap.size) := HA5.out.below.size
                clear ho hr hs
                go_wp2_with (at_builtin; (refine Zyx rfl (.tmp 53) (.tmp 56) 28 rfl 109 _ 1 24 underlying28 Ztp rfl (by omega) w.heap.size (.slice Ad nd cd) nd xs [_] rfl rfl HO.out rfl (by intro u hu; simp only[At] at hu; subst hu; rfl) (by omega) (by omega) HSW.out ?_); intro v' w' hown hgrow hblk)
                refine ⟨⟨k + 1, by omega, by simp, ?_⟩, by simp [intOf]; omega⟩
                show Zbz _ _ _ _ _ _ _ _ _ _
                rw [Zsw HT.out, ← HDS.out, ZqR, if_neg (of_decide_eq_false HK.out)]
                exact HA5.out.next HRs.out.1 HRs.out.2 HL1.out HTR.out HS2.out (by rw [HND.out]; exact hown) hgrow hblk (ZqS HO.out)
        · have hkn : k = nt := by omega
          go_wp2
          go_ret2
          refine ⟨_, rfl, ?_⟩
          have h := HA.out.done HOA.out HP.out.sub
          rw [hkn, AT (by have := HNT.out; omega)] at h
          rw [HR.out, HTS.out]
          exact h
open Classical in
noncomputable def ZeS (R:List Zg) (base:List Zc) (q:List Zl):Option (List (List Zi) × Bool):=if Zaz R∧base.length≤1048576∧q.length≤1048576∧(∀x∈q,x.pattern.args.length≤1048576) then ZiV R base q else none
theorem ZiJ {b:List Zg} {a:List Zc} {aL:List Zl} {r0:List (List Zi)} {r1:Bool} (hh:ZeS b a aL=some (r0,r1)) (w:World) (hj:J0 w) (AaRules:Option Addr) (c:Nat) (LaRules:List Nat) (e:(Zw XW).rep w [.slice AaRules b.length c] b LaRules) (AaBase:Option Addr) (d:Nat) (LaBase:List Nat) (i:(Zw Z8).rep w [.slice AaBase a.length d] a LaBase) (AaL:Option Addr) (k:Nat) (LaL:List Nat) (m:(Zw YL).rep w [.slice AaL aL.length k] aL LaL):
  Calls prog 16 #[.slice AaRules b.length c,.slice AaBase a.length d,.slice AaL aL.length k] w (ZlW (Zw Yd) 109 w r0 r1):=by
 unfold ZeS at hh
 split at hh
 ·rename_i hc
  obtain ⟨hR,hb,hq,l⟩:=hc
  obtain ⟨A,ok,h1,h2,h3⟩:=Zip hR a hb aL hq l
  rw [h1] at hh
  obtain ⟨rfl,rfl⟩:A=r0∧ok=r1:=by simpa using hh
  obtain ⟨M,g,g1,g2,g3⟩:=Zkp hR a hb
  have j:=g3.few
  have o:=Zgw aL hq l
  have key:A=ZBe aL M (g&&XY aL)∧ok=(g&&XY aL):=by
   rcases h3 with ⟨rfl,rfl,h⟩ | ⟨rfl,M',h,_,hv,rfl⟩
   ·cases g with
    | false=>exact ⟨rfl,rfl⟩
    | true=>rw [h M (by first | exact g1 | exact g2)];exact ⟨rfl,rfl⟩
   ·have h':some (M',true)=some (M,g):=h.symm.trans (by first | exact g1 | exact g2)
    obtain ⟨rfl,rfl⟩:M'=M∧true=g:=by simpa using h'
    rw [hv]
    exact ⟨rfl,rfl⟩
  exact Zt1 key.1 key.2 (by first | exact g1 | exact g2) o (fun h=>(Zf9 h).2.1) j.len (fun f mf=>Y8 (j.ok f mf)) w hj _ _ _ e _ _ _ i _ _ _ m
 ·cases hh
theorem ZoQ {a:List Zg} {d:List Zc} {aL:List Zl} {r0:List (List Zi)} {r1:Bool} (hh:Zcg a d aL=some (r0,r1)) (w:World) (hj:J0 w) (AaRules:Option Addr) (e:Nat) (LaRules:List Nat) (i:(Zw XW).rep w [.slice AaRules a.length e] a LaRules) (AaBase:Option Addr) (f:Nat) (LaBase:List Nat) (j:(Zw Z8).rep w [.slice AaBase d.length f] d LaBase) (AaL:Option Addr) (k:Nat) (LaL:List Nat) (m:(Zw YL).rep w [.slice AaL aL.length k] aL LaL):
  Calls prog 12 #[.slice AaRules a.length e,.slice AaBase d.length f,.slice AaL aL.length k] w (ZlW (Zw Yd) 109 w r0 r1):=
 Zm.givesSB (c:=(Zw Yd)) (g:=(fun l=>[.sl 162 Yd.size (l.map ZR)])) (ds:=r0) (b:=r1) (Zok hh) (ZeK.slice 162) hj (vs:=[_,_,_]) ⟨Zcs Zu9 _ i,Zcs ZcB _ j,Zcs Zkf _ m,trivial⟩
theorem Zrv {s:ByteArray} (h:Yr s=true):s.size≤9:=by
 unfold Yr at h
 simp only[AG,decide_eq_true_eq] at h
 have h1:=(ZbW h.2).2
 unfold ZuN at h1
 rw [ByteArray.size_extract] at h1
 omega
theorem ZvX {b:List Zi} (h:ZY b=true):ZdD b≤108:=by
 unfold ZY at h
 rw [AG,decide_eq_true_iff] at h
 have hs:∀x∈b,Zd1 x≤17:=fun x mx=>by
  have h1:=(Zpm h.2 x mx).1
  unfold Zfp at h1
  rw [AG] at h1
  have h2:=ZbW h1.2
  have h3:=Zrv h1.1
  unfold Zd1
  omega
 have key:∀l:List Zi,(∀x∈l,Zd1 x≤17)→(l.map Zd1).sum≤17 * l.length:=by
  intro l
  induction l with
  | nil=>simp
  | cons x l ih=>
   intro hl
   have h1:=hl x yG
   have h2:=ih fun y my=>hl y (by simp [my])
   simp only[AJ,AK,AH]
   omega
 have:=key b hs
 unfold ZdD
 omega
theorem Zp5 {l:List (List Zi)} (h:∀b∈l,ZY b=true):Zbc l≤109 * l.length:=by
 unfold Zbc
 induction l with
 | nil=>simp
 | cons x l ih=>
  have h1:=ZvX (h x yG)
  have h2:=ih fun y my=>h y (by simp [my])
  simp only[AJ,AK,AH] at h2 ⊢
  omega
theorem ZsX {q:List Zl} (h:Z3 q≤1048576):q.length≤1048576∧∀x∈q,x.pattern.args.length≤1048576:=by
 unfold Z3 at h
 refine ⟨yE,fun x mx=>?_⟩
 have h1:Ys x≤(q.map Ys).sum:=by
  clear h
  induction q with
  | nil=>simp at mx
  | cons y q ih=>
   simp only[AJ,AK]
   rcases AD.1 mx with rfl | mx
   ·omega
   ·have:=ih mx;omega
 have h2:x.pattern.args.length≤Ys x:=by unfold Ys Z6 XD;omega
 omega
theorem ZnG (c:List Zg) (cz:Yg c≤1048576) (_:(fun ds=>∀d∈ds,ZtX d) c) (a:List Zc) (cf:Yu a≤1048576) (_:(fun ds=>∀d∈ds,Zua d) a) (aL:List Zl) (cl:Z3 aL≤1048576) (_:(fun ds=>∀d∈ds,Zp7 d) aL):∃r b,Zcg c a aL=some (r,b)∧ZeS c a aL=some (r,b)∧(r.length≤1048576∧Zbc r≤1000000000):=by
 have hF:a.length≤1048576:=by unfold Yu at cf;omega
 obtain ⟨hq,e⟩:=ZsX cl
 obtain ⟨A,ok,h1,h2,h3⟩:=Zip (Zla cz) a hF aL hq e
 refine ⟨A,ok,h2,?_,?_⟩
 ·unfold ZeS
  rw [if_pos ⟨Zla cz,hF,hq,e⟩]
  exact h1
 ·rcases h3 with ⟨_,rfl,_⟩ | ⟨_,M,_,f,hv,rfl⟩
  ·exact ⟨yG,by simp [Zbc]⟩
  ·have ha:=ZgQ (Zz aL M)
   have hl:=Q7 M f.len aL (Zf9 hv).2.1
   have hc:=Zp5 (l:=Ye (Zz aL M)) (fun b mb=>by
    obtain ⟨t,mt,rfl⟩:=(ha.2.2 b).1 mb
    exact (Zbw M aL t mt).bind)
   have:=ha.1
   exact ⟨yE,yE⟩
end
section
open Go.RowKit
theorem ZiB (A:Option Addr) (n c:Nat) (ds:List ByteArray) (L:List Nat) (left:Int) (w:World) (hn:n=ds.length) (hm:n≤9223372036854775807) (h0:0≤left) (h1:left≤1048576) (h:Sli Zde w A ds L):
  Calls prog 79 #[.slice A n c,.int .i64 left] w (Zfn (XD ds) left w):=by
 have H:=yS h
 have HN:=yS hn
 clear h hn
 by_cases hlen:(n:Int)≤left
 ·go_enter func79,ntmps79
  go_wp2
  go_loop [1,5] (fun q i=>∃(k:Nat) (l:Int),k≤n∧i=.int .i64 k∧q=.int .i64 l∧0≤l∧l≤left∧Hid (szR ((ds.drop k).map As).sum l=szR (XD ds) left)) (fun _ i=>n - (intOf i).toNat)
  case atStart=>exact ⟨0,left - n,A4 _,rfl,rfl,yE,yE,yS (by
    have e:=HN.out
    exact ZaZ _ _ _ _ yE (by simp [XD];omega))⟩
  case round=>
   obtain ⟨k,l,hk,rfl,rfl,f,hl1,HE⟩:=hrel
   by_cases hlt:k<n
   ·obtain ⟨b,off,cs,Lk,rfl,_,_,a,hc⟩:=H.out.at_ (show k<ds.length by have:=HN.out;omega)
    obtain ⟨rfl,_,g⟩:=Zy5 a
    have d:=hc 0 _ rfl
    clear hc a
    have hd:Hid (ds.drop k=ds[k]'(by have:=HN.out;omega)::ds.drop (k+1)):=A6 _
    generalize ds[k]'(by have:=HN.out;omega)=s at d hd g
    simp only[show Zde.size=1 from rfl,AM,A3] at d
    by_cases hs:(s.size:Int)≤l
    ·go_wp2
     go_round
     case rel=>exact ⟨k+1,l - s.size,yE,by go_num,rfl,yE,yE,yS (by rw [←HE.out,hd.out];exact ZaZ _ _ _ _ yE yG)⟩
     case measure=>simp [intOf];omega
    ·go_wp2
     go_ret
     exact ⟨YK (by rw [←HE.out,hd.out,ZZ (by simp;omega)]),Below.refl _ _⟩
   ·go_wp2
    go_ret
    exact ⟨YK (by rw [←HE.out,A9 (by have:=HN.out;omega)];simp [szR,f]),Below.refl _ _⟩
 ·go_enter func79,ntmps79
  go_wp2
  go_ret
  exact ⟨YK (by rw [ZZ (by have:=HN.out;simp [XD];omega)]),Below.refl _ _⟩
theorem Zl9 (cs:List Value) (x:Zc) (L:List Nat) (left:Int) (w:World) (h0:0≤left) (h1:left≤1048576) (h:Z8.rep w cs x L):
  Calls prog 26 #[.agg cs.toArray,.int .i64 left] w (Zfn (Xx x) left w):=by
 obtain ⟨A1,c1,L1,rfl,_hL,t0,n1,m1,s1⟩:=h
 unfold maxLen at m1
 have S1:=yS s1
 clear s1
 have B0:Hid (Below w.heap.size w (w.alloc (.cells #[.string x.rel,.slice A1 x.args.length c1] 48))):=(Below.refl _ _).alloc (A0 _) _
 have K0:Hid (Blk (w.alloc (.cells #[.string x.rel,.slice A1 x.args.length c1] 48)) w.heap.size 48 #[.string x.rel,.slice A1 x.args.length c1]):=Blk.new _ _ _
 go_enter func26,ntmps26
 by_cases k1:(x.rel.size:Int)≤left
 rotate_left
 ·go_wp2_with fail
  go_ret
  exact ⟨YK (by rw [ZZ (by simp only[Xx];omega)]),B0.out⟩
 go_wp2_with fail
 refine (ZiB A1 _ c1 x.args L1 _ _ rfl yE yE yE (S1.out.below B0.out)).mono ?_
 rintro e w1 ⟨rfl,a⟩
 have B1:=yS (B0.out.trans (a.mono B0.out.size))
 have K1:=yS (K0.out.later a)
 have f0:=K1.out.at (i:=0) rfl
 have f1:=K1.out.at (i:=1) rfl
 clear a
 by_cases k2:((XD x.args:Nat):Int)≤left - x.rel.size
 rotate_left
 ·rw [ZZ k2]
  go_wp2_with fail
  go_ret
  exact ⟨YK (by rw [ZZ (by simp only[Xx];omega)]),B1.out⟩
 rw [Xe k2]
 go_wp2_with fail
 go_ret
 exact ⟨YK (by rw [Xe (by simp only[Xx];omega)]<;>simp only[Xx]<;>omega),B1.out⟩
theorem Zs2 (A:Option Addr) (n c:Nat) (ds:List Zc) (L:List Nat) (left:Int) (w:World) (hn:n=ds.length) (hm:n≤9223372036854775807) (h0:0≤left) (h1:left≤1048576) (h:Sli Z8 w A ds L):
  Calls prog 10 #[.slice A n c,.int .i64 left] w (Zfn (Yu ds) left w):=by
 have H:=yS h
 have HN:=yS hn
 clear h hn
 by_cases hlen:(n:Int)≤left
 ·go_enter func10,ntmps10
  go_wp2
  go_loopw [1,5] (fun q i wr=>∃(k:Nat) (l:Int),k≤n∧i=.int .i64 k∧q=.int .i64 l∧0≤l∧l≤left∧Hid (Below w.heap.size w wr)∧Hid (szR ((ds.drop k).map Xx).sum l=szR (Yu ds) left)) (fun _ i _=>n - (intOf i).toNat)
  case atStart=>exact ⟨0,left - n,A4 _,rfl,rfl,yE,yE,Below.refl _ _,yS (by
    have e:=HN.out
    exact ZaZ _ _ _ _ yE (by simp only[Yu,AY];omega))⟩
  case round=>
   obtain ⟨k,l,hk,rfl,rfl,g,hl1,HB,HE⟩:=hrel
   by_cases hlt:k<n
   ·have j:k<ds.length:=by have:=HN.out;omega
    obtain ⟨b,off,cs,Lk,rfl,o,t,a,hc⟩:=H.out.at_ j
    have f:b<w.heap.size:=H.out.lt b o
    have HR:=yS (Z8.keep a (Zy HB.out (fun y m=>H.out.lt y (t y m))))
    obtain ⟨A1,c1,rfl⟩:=ZcS a
    have q0:wr.cell? ⟨b,off+k * 2,none⟩=_:=(HB.out.cell (p:=⟨b,off+(k * 2+0),none⟩) f).trans (hc 0 _ rfl)
    have q1:wr.cell? ⟨b,off+k * 2+1,none⟩=_:=(HB.out.cell (p:=⟨b,off+(k * 2+1),none⟩) f).trans (hc 1 _ rfl)
    have hd:Hid (ds.drop k=ds[k]::ds.drop (k+1)):=A6 _
    generalize ds[k]=x at *
    clear hc a
    by_cases hs:(Xx x:Int)≤l
    ·go_wp2_with (go_at_call 26;refine (Zl9 _ x Lk _ _ yE yE HR.out).mono ?_;rintro e w1 ⟨rfl,d⟩;rw [Xe hs];have HB1:=yS (HB.out.trans (d.mono HB.out.size));clear d)
     go_roundw
     case rel=>exact ⟨k+1,l - Xx x,yE,by go_num,rfl,yE,yE,HB1.out,yS (by rw [←HE.out,hd.out];exact ZaZ _ _ _ _ yE yG)⟩
     case measure=>simp [intOf];omega
    ·go_wp2_with (go_at_call 26;refine (Zl9 _ x Lk _ _ yE yE HR.out).mono ?_;rintro e w1 ⟨rfl,d⟩;rw [ZZ hs];have HB1:=yS (HB.out.trans (d.mono HB.out.size));clear d)
     go_ret
     exact ⟨YK (by rw [←HE.out,hd.out,ZZ (by simp;omega)]),HB1.out⟩
   ·go_wp2
    go_ret
    exact ⟨YK (by rw [←HE.out,A9 (by have:=HN.out;omega)];simp [szR,g]),HB.out⟩
 ·go_enter func10,ntmps10
  go_wp2
  go_ret
  exact ⟨YK (by rw [ZZ (by have:=HN.out;simp only[Yu];omega)]),Below.refl _ _⟩
theorem Ziv (cs:List Value) (x:Zx) (L:List Nat) (left:Int) (w:World) (h0:0≤left) (h1:left≤1048576) (h:Qq.rep w cs x L):
  Calls prog 119 #[.agg cs.toArray,.int .i64 left] w (Zfn (Z6 x) left w):=by
 obtain ⟨A1,c1,L1,rfl,_hL,t0,n1,m1,s1⟩:=h
 unfold maxLen at m1
 have S1:=yS s1
 clear s1
 have B0:Hid (Below w.heap.size w (w.alloc (.cells #[.string x.rel,.slice A1 x.args.length c1] 101))):=(Below.refl _ _).alloc (A0 _) _
 have K0:Hid (Blk (w.alloc (.cells #[.string x.rel,.slice A1 x.args.length c1] 101)) w.heap.size 101 #[.string x.rel,.slice A1 x.args.length c1]):=Blk.new _ _ _
 go_enter func119,ntmps119
 by_cases k1:(x.rel.size:Int)≤left
 rotate_left
 ·go_wp2_with fail
  go_ret
  exact ⟨YK (by rw [ZZ (by simp only[Z6];omega)]),B0.out⟩
 go_wp2_with fail
 refine (ZiB A1 _ c1 x.args L1 _ _ rfl yE yE yE (S1.out.below B0.out)).mono ?_
 rintro e w1 ⟨rfl,a⟩
 have B1:=yS (B0.out.trans (a.mono B0.out.size))
 have K1:=yS (K0.out.later a)
 have f0:=K1.out.at (i:=0) rfl
 have f1:=K1.out.at (i:=1) rfl
 clear a
 by_cases k2:((XD x.args:Nat):Int)≤left - x.rel.size
 rotate_left
 ·rw [ZZ k2]
  go_wp2_with fail
  go_ret
  exact ⟨YK (by rw [ZZ (by simp only[Z6];omega)]),B1.out⟩
 rw [Xe k2]
 go_wp2_with fail
 go_ret
 exact ⟨YK (by rw [Xe (by simp only[Z6];omega)]<;>simp only[Z6]<;>omega),B1.out⟩
theorem Zml (cs:List Value) (x:Zl) (L:List Nat) (left:Int) (w:World) (h0:0≤left) (h1:left≤1048576) (h:YL.rep w cs x L):
  Calls prog 60 #[.agg cs.toArray,.int .i64 left] w (Zfn (Ys x) left w):=by
 obtain ⟨A1,c1,L1,rfl,_hL,t0,t1,t2,n1,m1,s1⟩:=h
 unfold maxLen at m1
 have S1:=yS s1
 clear s1
 have B0:Hid (Below w.heap.size w (w.alloc (.cells #[.int .i64 x.kind,.string x.pattern.rel,.slice A1 x.pattern.args.length c1,.string x.left,.string x.right] 103))):=(Below.refl _ _).alloc (A0 _) _
 have K0:Hid (Blk (w.alloc (.cells #[.int .i64 x.kind,.string x.pattern.rel,.slice A1 x.pattern.args.length c1,.string x.left,.string x.right] 103)) w.heap.size 103 #[.int .i64 x.kind,.string x.pattern.rel,.slice A1 x.pattern.args.length c1,.string x.left,.string x.right]):=Blk.new _ _ _
 go_enter func60,ntmps60
 go_wp2_with fail
 refine (Ziv [.string x.pattern.rel,.slice A1 x.pattern.args.length c1] x.pattern _ _ _ yE yE ⟨A1,c1,L1,rfl,rfl,t0,n1,(by unfold maxLen;omega),S1.out.below B0.out⟩).mono ?_
 rintro e w1 ⟨rfl,a⟩
 have B1:=yS (B0.out.trans (a.mono B0.out.size))
 have K1:=yS (K0.out.later a)
 have f0:=K1.out.at (i:=0) rfl
 have f1:=K1.out.at (i:=1) rfl
 have f2:=K1.out.at (i:=2) rfl
 have f3:=K1.out.at (i:=3) rfl
 have f4:=K1.out.at (i:=4) rfl
 clear a
 by_cases k1:((Z6 x.pattern:Nat):Int)≤left
 rotate_left
 ·rw [ZZ k1]
  go_wp2_with fail
  go_ret
  exact ⟨YK (by rw [ZZ (by simp only[Ys];omega)]),B1.out⟩
 rw [Xe k1]
 by_cases k2:(x.left.size:Int)≤left - (Z6 x.pattern:Nat)
 rotate_left
 ·go_wp2_with fail
  go_ret
  exact ⟨YK (by rw [ZZ (by simp only[Ys];omega)]),B1.out⟩
 by_cases k3:(x.right.size:Int)≤left - (Z6 x.pattern:Nat) - x.left.size
 rotate_left
 ·go_wp2_with fail
  go_ret
  exact ⟨YK (by rw [ZZ (by simp only[Ys];omega)]),B1.out⟩
 go_wp2_with fail
 go_ret
 exact ⟨YK (by rw [Xe (by simp only[Ys];omega)]<;>simp only[Ys]<;>omega),B1.out⟩
theorem Zlk (A:Option Addr) (n c:Nat) (ds:List Zl) (L:List Nat) (left:Int) (w:World) (hn:n=ds.length) (hm:n≤9223372036854775807) (h0:0≤left) (h1:left≤1048576) (h:Sli YL w A ds L):
  Calls prog 11 #[.slice A n c,.int .i64 left] w (Zfn (Z3 ds) left w):=by
 have H:=yS h
 have HN:=yS hn
 clear h hn
 by_cases hlen:(n:Int)≤left
 ·go_enter func11,ntmps11
  go_wp2
  go_loopw [1,5] (fun q i wr=>∃(k:Nat) (l:Int),k≤n∧i=.int .i64 k∧q=.int .i64 l∧0≤l∧l≤left∧Hid (Below w.heap.size w wr)∧Hid (szR ((ds.drop k).map Ys).sum l=szR (Z3 ds) left)) (fun _ i _=>n - (intOf i).toNat)
  case atStart=>exact ⟨0,left - n,A4 _,rfl,rfl,yE,yE,Below.refl _ _,yS (by
    have e:=HN.out
    exact ZaZ _ _ _ _ yE (by simp only[Z3,AY];omega))⟩
  case round=>
   obtain ⟨k,l,hk,rfl,rfl,g,hl1,HB,HE⟩:=hrel
   by_cases hlt:k<n
   ·have j:k<ds.length:=by have:=HN.out;omega
    obtain ⟨b,off,cs,Lk,rfl,o,t,a,hc⟩:=H.out.at_ j
    have d:b<w.heap.size:=H.out.lt b o
    have HR:=yS (YL.keep a (Zy HB.out (fun y m=>H.out.lt y (t y m))))
    obtain ⟨A1,c1,rfl⟩:=ZcW a
    have q0:wr.cell? ⟨b,off+k * 5,none⟩=_:=(HB.out.cell (p:=⟨b,off+(k * 5+0),none⟩) d).trans (hc 0 _ rfl)
    have q1:wr.cell? ⟨b,off+k * 5+1,none⟩=_:=(HB.out.cell (p:=⟨b,off+(k * 5+1),none⟩) d).trans (hc 1 _ rfl)
    have q2:wr.cell? ⟨b,off+k * 5+2,none⟩=_:=(HB.out.cell (p:=⟨b,off+(k * 5+2),none⟩) d).trans (hc 2 _ rfl)
    have q3:wr.cell? ⟨b,off+k * 5+3,none⟩=_:=(HB.out.cell (p:=⟨b,off+(k * 5+3),none⟩) d).trans (hc 3 _ rfl)
    have q4:wr.cell? ⟨b,off+k * 5+4,none⟩=_:=(HB.out.cell (p:=⟨b,off+(k * 5+4),none⟩) d).trans (hc 4 _ rfl)
    have hd:Hid (ds.drop k=ds[k]::ds.drop (k+1)):=A6 _
    generalize ds[k]=x at *
    clear hc a
    by_cases hs:(Ys x:Int)≤l
    ·go_wp2_with (go_at_call 60;refine (Zml _ x Lk _ _ yE yE HR.out).mono ?_;rintro e w1 ⟨rfl,f⟩;rw [Xe hs];have HB1:=yS (HB.out.trans (f.mono HB.out.size));clear f)
     go_roundw
     case rel=>exact ⟨k+1,l - Ys x,yE,by go_num,rfl,yE,yE,HB1.out,yS (by rw [←HE.out,hd.out];exact ZaZ _ _ _ _ yE yG)⟩
     case measure=>simp [intOf];omega
    ·go_wp2_with (go_at_call 60;refine (Zml _ x Lk _ _ yE yE HR.out).mono ?_;rintro e w1 ⟨rfl,f⟩;rw [ZZ hs];have HB1:=yS (HB.out.trans (f.mono HB.out.size));clear f)
     go_ret
     exact ⟨YK (by rw [←HE.out,hd.out,ZZ (by simp;omega)]),HB1.out⟩
   ·go_wp2
    go_ret
    exact ⟨YK (by rw [←HE.out,A9 (by have:=HN.out;omega)];simp [szR,g]),HB.out⟩
 ·go_enter func11,ntmps11
  go_wp2
  go_ret
  exact ⟨YK (by rw [ZZ (by have:=HN.out;simp only[Z3];omega)]),Below.refl _ _⟩
theorem Zkh (cs:List Value) (x:Zu) (L:List Nat) (left:Int) (w:World) (h0:0≤left) (h1:left≤1048576) (h:Yp.rep w cs x L):
  Calls prog 178 #[.agg cs.toArray,.int .i64 left] w (Zfn (Yt x) left w):=by
 obtain ⟨A1,c1,L1,rfl,_hL,t0,n1,m1,s1⟩:=h
 unfold maxLen at m1
 have S1:=yS s1
 clear s1
 have B0:Hid (Below w.heap.size w (w.alloc (.cells #[.int .i64 x.kind,.string x.pattern.rel,.slice A1 x.pattern.args.length c1] 206))):=(Below.refl _ _).alloc (A0 _) _
 have K0:Hid (Blk (w.alloc (.cells #[.int .i64 x.kind,.string x.pattern.rel,.slice A1 x.pattern.args.length c1] 206)) w.heap.size 206 #[.int .i64 x.kind,.string x.pattern.rel,.slice A1 x.pattern.args.length c1]):=Blk.new _ _ _
 go_enter func178,ntmps178
 go_wp2_with fail
 refine (Ziv [.string x.pattern.rel,.slice A1 x.pattern.args.length c1] x.pattern _ _ _ yE yE ⟨A1,c1,L1,rfl,rfl,t0,n1,(by unfold maxLen;omega),S1.out.below B0.out⟩).mono ?_
 rintro e w1 ⟨rfl,a⟩
 have B1:=yS (B0.out.trans (a.mono B0.out.size))
 have K1:=yS (K0.out.later a)
 have f0:=K1.out.at (i:=0) rfl
 have f1:=K1.out.at (i:=1) rfl
 have f2:=K1.out.at (i:=2) rfl
 clear a
 by_cases k1:((Z6 x.pattern:Nat):Int)≤left
 rotate_left
 ·rw [ZZ k1]
  go_wp2_with fail
  go_ret
  exact ⟨YK (by rw [ZZ (by simp only[Yt];omega)]),B1.out⟩
 rw [Xe k1]
 go_wp2_with fail
 go_ret
 exact ⟨YK (by rw [Xe (by simp only[Yt];omega)]<;>simp only[Yt]<;>omega),B1.out⟩
theorem Zoh (A:Option Addr) (n c:Nat) (ds:List Zu) (L:List Nat) (left:Int) (w:World) (hn:n=ds.length) (hm:n≤9223372036854775807) (h0:0≤left) (h1:left≤1048576) (h:Sli Yp w A ds L):
  Calls prog 118 #[.slice A n c,.int .i64 left] w (Zfn (Ym ds) left w):=by
 have H:=yS h
 have HN:=yS hn
 clear h hn
 by_cases hlen:(n:Int)≤left
 ·go_enter func118,ntmps118
  go_wp2
  go_loopw [1,5] (fun q i wr=>∃(k:Nat) (l:Int),k≤n∧i=.int .i64 k∧q=.int .i64 l∧0≤l∧l≤left∧Hid (Below w.heap.size w wr)∧Hid (szR ((ds.drop k).map Yt).sum l=szR (Ym ds) left)) (fun _ i _=>n - (intOf i).toNat)
  case atStart=>exact ⟨0,left - n,A4 _,rfl,rfl,yE,yE,Below.refl _ _,yS (by
    have e:=HN.out
    exact ZaZ _ _ _ _ yE (by simp only[Ym,AY];omega))⟩
  case round=>
   obtain ⟨k,l,hk,rfl,rfl,g,hl1,HB,HE⟩:=hrel
   by_cases hlt:k<n
   ·have j:k<ds.length:=by have:=HN.out;omega
    obtain ⟨b,off,cs,Lk,rfl,o,t,a,hc⟩:=H.out.at_ j
    have f:b<w.heap.size:=H.out.lt b o
    have HR:=yS (Yp.keep a (Zy HB.out (fun y m=>H.out.lt y (t y m))))
    obtain ⟨A1,c1,rfl⟩:=ZaY a
    have q0:wr.cell? ⟨b,off+k * 3,none⟩=_:=(HB.out.cell (p:=⟨b,off+(k * 3+0),none⟩) f).trans (hc 0 _ rfl)
    have q1:wr.cell? ⟨b,off+k * 3+1,none⟩=_:=(HB.out.cell (p:=⟨b,off+(k * 3+1),none⟩) f).trans (hc 1 _ rfl)
    have q2:wr.cell? ⟨b,off+k * 3+2,none⟩=_:=(HB.out.cell (p:=⟨b,off+(k * 3+2),none⟩) f).trans (hc 2 _ rfl)
    have hd:Hid (ds.drop k=ds[k]::ds.drop (k+1)):=A6 _
    generalize ds[k]=x at *
    clear hc a
    by_cases hs:(Yt x:Int)≤l
    ·go_wp2_with (go_at_call 178;refine (Zkh _ x Lk _ _ yE yE HR.out).mono ?_;rintro e w1 ⟨rfl,d⟩;rw [Xe hs];have HB1:=yS (HB.out.trans (d.mono HB.out.size));clear d)
     go_roundw
     case rel=>exact ⟨k+1,l - Yt x,yE,by go_num,rfl,yE,yE,HB1.out,yS (by rw [←HE.out,hd.out];exact ZaZ _ _ _ _ yE yG)⟩
     case measure=>simp [intOf];omega
    ·go_wp2_with (go_at_call 178;refine (Zkh _ x Lk _ _ yE yE HR.out).mono ?_;rintro e w1 ⟨rfl,d⟩;rw [ZZ hs];have HB1:=yS (HB.out.trans (d.mono HB.out.size));clear d)
     go_ret
     exact ⟨YK (by rw [←HE.out,hd.out,ZZ (by simp;omega)]),HB1.out⟩
   ·go_wp2
    go_ret
    exact ⟨YK (by rw [←HE.out,A9 (by have:=HN.out;omega)];simp [szR,g]),HB.out⟩
 ·go_enter func118,ntmps118
  go_wp2
  go_ret
  exact ⟨YK (by rw [ZZ (by have:=HN.out;simp only[Ym];omega)]),Below.refl _ _⟩
theorem ZnQ (cs:List Value) (x:Zg) (L:List Nat) (left:Int) (w:World) (h0:0≤left) (h1:left≤1048576) (h:XW.rep w cs x L):
  Calls prog 59 #[.agg cs.toArray,.int .i64 left] w (Zfn (Yv x) left w):=by
 obtain ⟨A1,c1,L1,A2,c2,L2,rfl,_hL,t0,n1,m1,s1,n2,m2,s2⟩:=h
 unfold maxLen at m1 m2
 have S1:=yS s1
 clear s1
 have S2:=yS s2
 clear s2
 have B0:Hid (Below w.heap.size w (w.alloc (.cells #[.string x.name,.int .i64 x.priority,.slice A1 x.cond.length c1,.slice A2 x.thn.length c2] 99))):=(Below.refl _ _).alloc (A0 _) _
 have K0:Hid (Blk (w.alloc (.cells #[.string x.name,.int .i64 x.priority,.slice A1 x.cond.length c1,.slice A2 x.thn.length c2] 99)) w.heap.size 99 #[.string x.name,.int .i64 x.priority,.slice A1 x.cond.length c1,.slice A2 x.thn.length c2]):=Blk.new _ _ _
 go_enter func59,ntmps59
 by_cases k1:(x.name.size:Int)≤left
 rotate_left
 ·go_wp2_with fail
  go_ret
  exact ⟨YK (by rw [ZZ (by simp only[Yv];omega)]),B0.out⟩
 go_wp2_with fail
 refine (Zlk A1 _ c1 x.cond L1 _ _ rfl yE yE yE (S1.out.below B0.out)).mono ?_
 rintro e w1 ⟨rfl,a⟩
 have B1:=yS (B0.out.trans (a.mono B0.out.size))
 have K1:=yS (K0.out.later a)
 have f0:=K1.out.at (i:=0) rfl
 have f1:=K1.out.at (i:=1) rfl
 have f2:=K1.out.at (i:=2) rfl
 have f3:=K1.out.at (i:=3) rfl
 clear a
 by_cases k2:((Z3 x.cond:Nat):Int)≤left - x.name.size
 rotate_left
 ·rw [ZZ k2]
  go_wp2_with fail
  go_ret
  exact ⟨YK (by rw [ZZ (by simp only[Yv];omega)]),B1.out⟩
 rw [Xe k2]
 go_wp2_with fail
 refine (Zoh A2 _ c2 x.thn L2 _ _ rfl yE yE yE (S2.out.below B1.out)).mono ?_
 rintro e w2 ⟨rfl,b⟩
 have B2:=yS (B1.out.trans (b.mono B1.out.size))
 have K2:=yS (K1.out.later b)
 clear f0 f1 f2 f3
 have f0:=K2.out.at (i:=0) rfl
 have f1:=K2.out.at (i:=1) rfl
 have f2:=K2.out.at (i:=2) rfl
 have f3:=K2.out.at (i:=3) rfl
 clear b
 by_cases k3:((Ym x.thn:Nat):Int)≤left - x.name.size - (Z3 x.cond:Nat)
 rotate_left
 ·rw [ZZ k3]
  go_wp2_with fail
  go_ret
  exact ⟨YK (by rw [ZZ (by simp only[Yv];omega)]),B2.out⟩
 rw [Xe k3]
 go_wp2_with fail
 go_ret
 exact ⟨YK (by rw [Xe (by simp only[Yv];omega)]<;>simp only[Yv]<;>omega),B2.out⟩
theorem Zsi (A:Option Addr) (n c:Nat) (ds:List Zg) (L:List Nat) (left:Int) (w:World) (hn:n=ds.length) (hm:n≤9223372036854775807) (h0:0≤left) (h1:left≤1048576) (h:Sli XW w A ds L):
  Calls prog 9 #[.slice A n c,.int .i64 left] w (Zfn (Yg ds) left w):=by
 have H:=yS h
 have HN:=yS hn
 clear h hn
 by_cases hlen:(n:Int)≤left
 ·go_enter func9,ntmps9
  go_wp2
  go_loopw [1,5] (fun q i wr=>∃(k:Nat) (l:Int),k≤n∧i=.int .i64 k∧q=.int .i64 l∧0≤l∧l≤left∧Hid (Below w.heap.size w wr)∧Hid (szR ((ds.drop k).map Yv).sum l=szR (Yg ds) left)) (fun _ i _=>n - (intOf i).toNat)
  case atStart=>exact ⟨0,left - n,A4 _,rfl,rfl,yE,yE,Below.refl _ _,yS (by
    have e:=HN.out
    exact ZaZ _ _ _ _ yE (by simp only[Yg,AY];omega))⟩
  case round=>
   obtain ⟨k,l,hk,rfl,rfl,g,hl1,HB,HE⟩:=hrel
   by_cases hlt:k<n
   ·have j:k<ds.length:=by have:=HN.out;omega
    obtain ⟨b,off,cs,Lk,rfl,o,t,a,hc⟩:=H.out.at_ j
    have f:b<w.heap.size:=H.out.lt b o
    have HR:=yS (XW.keep a (Zy HB.out (fun y m=>H.out.lt y (t y m))))
    obtain ⟨A1,c1,A2,c2,rfl⟩:=Zc2 a
    have q0:wr.cell? ⟨b,off+k * 4,none⟩=_:=(HB.out.cell (p:=⟨b,off+(k * 4+0),none⟩) f).trans (hc 0 _ rfl)
    have q1:wr.cell? ⟨b,off+k * 4+1,none⟩=_:=(HB.out.cell (p:=⟨b,off+(k * 4+1),none⟩) f).trans (hc 1 _ rfl)
    have q2:wr.cell? ⟨b,off+k * 4+2,none⟩=_:=(HB.out.cell (p:=⟨b,off+(k * 4+2),none⟩) f).trans (hc 2 _ rfl)
    have q3:wr.cell? ⟨b,off+k * 4+3,none⟩=_:=(HB.out.cell (p:=⟨b,off+(k * 4+3),none⟩) f).trans (hc 3 _ rfl)
    have hd:Hid (ds.drop k=ds[k]::ds.drop (k+1)):=A6 _
    generalize ds[k]=x at *
    clear hc a
    by_cases hs:(Yv x:Int)≤l
    ·go_wp2_with (go_at_call 59;refine (ZnQ _ x Lk _ _ yE yE HR.out).mono ?_;rintro e w1 ⟨rfl,d⟩;rw [Xe hs];have HB1:=yS (HB.out.trans (d.mono HB.out.size));clear d)
     go_roundw
     case rel=>exact ⟨k+1,l - Yv x,yE,by go_num,rfl,yE,yE,HB1.out,yS (by rw [←HE.out,hd.out];exact ZaZ _ _ _ _ yE yG)⟩
     case measure=>simp [intOf];omega
    ·go_wp2_with (go_at_call 59;refine (ZnQ _ x Lk _ _ yE yE HR.out).mono ?_;rintro e w1 ⟨rfl,d⟩;rw [ZZ hs];have HB1:=yS (HB.out.trans (d.mono HB.out.size));clear d)
     go_ret
     exact ⟨YK (by rw [←HE.out,hd.out,ZZ (by simp;omega)]),HB1.out⟩
   ·go_wp2
    go_ret
    exact ⟨YK (by rw [←HE.out,A9 (by have:=HN.out;omega)];simp [szR,g]),HB.out⟩
 ·go_enter func9,ntmps9
  go_wp2
  go_ret
  exact ⟨YK (by rw [ZZ (by have:=HN.out;simp only[Yg];omega)]),Below.refl _ _⟩
end
section
open Go.RowKit
theorem infoString_:(prog.info? 9).map (fun i=>(i.zero,i.size,i.bytes))=some (some (.string ⟨#[]⟩),1,16):=yO
theorem ZiD (A:Option Addr) (n c:Nat) (ds:List ByteArray) (L:List Nat) (w:World) (hn:n=ds.length) (hm:ds.length≤1099511627776) (h:Sli Zde w A ds L):
  Calls prog 83 #[.slice A n c] w (Zi7 Zde 9 w ds):=by
 obtain ⟨i0,hi,g,l,m⟩:=info_parts infoString_
 rw [←hn] at hm
 have H:=yS h
 have HN:=yS hn
 clear h hn
 go_enter func83,ntmps83
 go_wp2_with (at_make;refine wpList_make_full _ rfl _ _ 46 rfl w.heap.size 9 i0 _ 1 underlying46 hi g l .i64 .i64 _ _ n rfl rfl rfl rfl (by rw [m];omega) (by unfold maxLen;omega) (A0 _) ?_;intro w1 a hg)
 have hb:Below w.heap.size w w1:=(Below.refl _ _).grown hg (A0 _) yG
 have HF0:Hid (Yf Zde 9 w n ds 0 w1):=Yf.start a hb
 clear a hg hb
 go_wp2
 go_loopw [4] (fun i wr=>∃(k:Nat),k≤n∧i=.int .i64 k∧Hid (Yf Zde 9 w n ds k wr)) (fun i _=>n - (intOf i).toNat)
 case atStart=>exact ⟨0,A4 _,rfl,HF0⟩
 case round=>
  obtain ⟨k,hk,rfl,HF⟩:=hrel
  by_cases f:k<n
  ·have o:k<ds.length:=by have:=HN.out;omega
   obtain ⟨b,off,cs,Lk,rfl,q,hLk,d,hc⟩:=H.out.at_ o
   have t:b<w.heap.size:=H.out.lt b q
   have e:=d
   obtain ⟨rfl,_,u⟩:=e
   have q0:=(HF.out.below.cell (p:=⟨b,off+(k * Zde.size+0),none⟩) t).trans (hc 0 _ rfl)
   have HS:=yS (HF.out.store (w2:=wr) (x:=ds[k]) (M:=[]) f HN.out (fun _=>rfl) (Below.refl _ _) ⟨⟨rfl,rfl,u⟩,Own.nil _ _⟩)
   obtain ⟨d0,e0⟩:=HF.out.cell f (j:=0) yF
   have z0:=HF.out.frozen k
   simp only[show Zde.size=1 from rfl,AM,A3] at q0 HS e0
   generalize ds[k]=x at *
   clear hc d
   go_wp2_with fail
   go_roundw
   case rel=>exact ⟨k+1,yE,by go_num,HS.out⟩
   case measure=>simp [intOf];omega
  ·obtain rfl:k=n:=by omega
   go_wp2
   go_ret
   exact ⟨_,rfl,HF.out.done HN.out⟩
theorem Ztm (cs:List Value) (x:Zc) (L:List Nat) (w:World) (hz:Xx x≤1048576) (h:Z8.rep w cs x L):
  Calls prog 28 #[.agg cs.toArray] w (Zma Z8 w x):=by
 obtain ⟨A1,c1,L1,rfl,_hL,t0,n1,m1,s1⟩:=h
 unfold maxLen at m1
 have S1:=yS s1
 clear s1
 simp only[Xx] at hz
 go_enter func28,ntmps28
 go_wp2_with fail
 refine (ZiD A1 _ c1 x.args L1 _ rfl (by simp only[XD] at hz;omega) (S1.out.below yI)).mono ?_
 rintro e w1 ⟨v1,rfl,a1⟩
 obtain ⟨c,d,rfl⟩:=a1.shape
 have a:=a1.below
 obtain ⟨M1,g1⟩:=a1.got
 clear a1
 have G1:=yS (g1.mono (show w.heap.size+3≤_ by simp))
 have lt1:=yS g1.lt
 clear g1
 have B1:Hid (Below w.heap.size w w1):=Below.trans yI (a.mono yK)
 have K0:Hid (Blk w1 w.heap.size 48 #[.string x.rel,.slice A1 x.args.length c1]):=Blk.later (Blk.alloc (Blk.alloc (Blk.new _ _ _) _) _) a
 have K1:Hid (Blk w1 (w.heap.size+1) 53 #[.string ⟨#[]⟩,.slice none 0 0]):=Blk.later (Blk.alloc (Blk.new_at yG) _) a
 have K2:Hid (Blk w1 (w.heap.size+1+1) 53 #[.string x.rel,.slice none 0 0]):=Blk.later (Blk.new_at yG) a
 have f0:=K0.out.at (i:=0) rfl
 have r0:=K1.out.at (i:=0) rfl
 have o0:=K2.out.at (i:=0) rfl
 have rz0:=K1.out.frozen 0
 have oz0:=K2.out.frozen 0
 have f1:=K0.out.at (i:=1) rfl
 have r1:=K1.out.at (i:=1) rfl
 have o1:=K2.out.at (i:=1) rfl
 have rz1:=K1.out.frozen 1
 have oz1:=K2.out.frozen 1
 have hz1:w.heap.size+2<w1.heap.size:=by have:=a.size;simp at this;omega
 clear a
 go_wp2_with fail
 refine bodyPost_ret (v:=.agg #[.string x.rel,.slice c x.args.length d]) (by simp [results,results28,go_sem,r0,r1]) rfl ?_
 obtain ⟨f,g,j⟩:=ZH G1.out.rep
 exact ZhH (wr:=w1) (M1) ⟨⟨c,d,M1,rfl,rfl,t0,f,g,j⟩,by have o:=G1.out.own;simpa only [AC] using o⟩ (by intro b hb;repeat rw [Below.heap_setCell _ _ _ _ (by dsimp only;omega)]) (by repeat (first | refine Below.setCell ?_ (by dsimp only;omega) _ | refine Below.alloc ?_ yK _ | exact B1.out))
theorem infoFact:(prog.info? 53).map (fun i=>(i.zero,i.size,i.bytes))=some (some (.agg #[.string ⟨#[]⟩,.slice none 0 0]),2,40):=yO
theorem ZeQ (A:Option Addr) (n c:Nat) (ds:List Zc) (L:List Nat) (w:World) (hn:n=ds.length) (hz:Yu ds≤1048576) (h:Sli Z8 w A ds L):
  Calls prog 14 #[.slice A n c] w (Zi7 Z8 53 w ds):=by
 obtain ⟨i0,hi,u,v,z⟩:=info_parts infoFact
 have H:=yS h
 have HN:=yS hn
 have hm:n≤1048576:=by simp only[Yu] at hz;omega
 have HZ:=yS hz
 clear h hn hz
 go_enter func14,ntmps14
 go_wp2_with (at_make;refine wpList_make_full _ rfl _ _ 33 rfl w.heap.size 53 i0 _ 2 underlying33 hi u v .i64 .i64 _ _ n rfl rfl rfl rfl (by rw [z];omega) (by unfold maxLen;omega) (A0 _) ?_;intro w1 f hg)
 have hb:Below w.heap.size w w1:=(Below.refl _ _).grown hg (A0 _) yG
 have HF0:Hid (Yf Z8 53 w n ds 0 w1):=Yf.start f hb
 clear f hg hb
 go_wp2
 go_loopw [4] (fun i wr=>∃(k:Nat),k≤n∧i=.int .i64 k∧Hid (Yf Z8 53 w n ds k wr)) (fun i _=>n - (intOf i).toNat)
 case atStart=>exact ⟨0,A4 _,rfl,HF0⟩
 case round=>
  obtain ⟨k,hk,rfl,HF⟩:=hrel
  by_cases g:k<n
  ·have o:k<ds.length:=by have:=HN.out;omega
   obtain ⟨b,off,cs,Lk,rfl,B,C,a,hc⟩:=H.out.at_ o
   have q:b<w.heap.size:=H.out.lt b B
   have HR:=yS (Z8.keep a (Zy HF.out.below (fun y m=>H.out.lt y (C y m))))
   obtain ⟨A1,c1,rfl⟩:=ZcS a
   have q0:wr.cell? ⟨b,off+k * 2,none⟩=_:=(HF.out.below.cell (p:=⟨b,off+(k * 2+0),none⟩) q).trans (hc 0 _ rfl)
   have q1:wr.cell? ⟨b,off+k * 2+1,none⟩=_:=(HF.out.below.cell (p:=⟨b,off+(k * 2+1),none⟩) q).trans (hc 1 _ rfl)
   have t:Hid (Xx ds[k]≤1048576):=Zl4 Xx ds k o (by have:=HZ.out;simp only[Yu] at this;omega)
   obtain ⟨x,hx⟩:∃x,x=ds[k]:=⟨_,rfl⟩
   have HX:=yS hx
   rw [←hx] at HR q0 q1 t
   clear hc a hx
   go_wp2_with fail
   refine (Ztm _ x Lk _ t.out HR.out).mono ?_
   rintro e w2 ⟨cs2,M2,rfl,g2,l⟩
   have HF2:=yS (HF.out.later l)
   have HS:=yS (HF.out.store g HN.out (fun _=>HX.out) l g2)
   obtain ⟨vA1,vc1,rfl⟩:=ZcS g2.rep
   clear g2 l
   obtain ⟨d0,e0⟩:∃d,w2.cell? ⟨w.heap.size,k * 2,none⟩=some d:=HF2.out.cell g (j:=0) yF
   have z0:=HF2.out.frozen (k * 2)
   obtain ⟨d1,e1⟩:∃d,w2.cell? ⟨w.heap.size,k * 2+1,none⟩=some d:=HF2.out.cell g (j:=1) yF
   have z1:=HF2.out.frozen (k * 2+1)
   go_wp2_with fail
   go_roundw
   case rel=>exact ⟨k+1,yE,by go_num,HS.out⟩
   case measure=>simp [intOf];omega
  ·obtain rfl:k=n:=by omega
   go_wp2
   go_ret
   exact ⟨_,rfl,HF.out.done HN.out⟩
theorem Zix (cs:List Value) (x:Zx) (L:List Nat) (w:World) (hz:Z6 x≤1048576) (h:Qq.rep w cs x L):
  Calls prog 126 #[.agg cs.toArray] w (Zma Qq w x):=by
 obtain ⟨A1,c1,L1,rfl,_hL,t0,n1,m1,s1⟩:=h
 unfold maxLen at m1
 have S1:=yS s1
 clear s1
 simp only[Z6] at hz
 go_enter func126,ntmps126
 go_wp2_with fail
 refine (ZiD A1 _ c1 x.args L1 _ rfl (by simp only[XD] at hz;omega) (S1.out.below yI)).mono ?_
 rintro e w1 ⟨v1,rfl,a1⟩
 obtain ⟨c,d,rfl⟩:=a1.shape
 have a:=a1.below
 obtain ⟨M1,g1⟩:=a1.got
 clear a1
 have G1:=yS (g1.mono (show w.heap.size+3≤_ by simp))
 have lt1:=yS g1.lt
 clear g1
 have B1:Hid (Below w.heap.size w w1):=Below.trans yI (a.mono yK)
 have K0:Hid (Blk w1 w.heap.size 101 #[.string x.rel,.slice A1 x.args.length c1]):=Blk.later (Blk.alloc (Blk.alloc (Blk.new _ _ _) _) _) a
 have K1:Hid (Blk w1 (w.heap.size+1) 78 #[.string ⟨#[]⟩,.slice none 0 0]):=Blk.later (Blk.alloc (Blk.new_at yG) _) a
 have K2:Hid (Blk w1 (w.heap.size+1+1) 78 #[.string x.rel,.slice none 0 0]):=Blk.later (Blk.new_at yG) a
 have f0:=K0.out.at (i:=0) rfl
 have r0:=K1.out.at (i:=0) rfl
 have o0:=K2.out.at (i:=0) rfl
 have rz0:=K1.out.frozen 0
 have oz0:=K2.out.frozen 0
 have f1:=K0.out.at (i:=1) rfl
 have r1:=K1.out.at (i:=1) rfl
 have o1:=K2.out.at (i:=1) rfl
 have rz1:=K1.out.frozen 1
 have oz1:=K2.out.frozen 1
 have hz1:w.heap.size+2<w1.heap.size:=by have:=a.size;simp at this;omega
 clear a
 go_wp2_with fail
 refine bodyPost_ret (v:=.agg #[.string x.rel,.slice c x.args.length d]) (by simp [results,results126,go_sem,r0,r1]) rfl ?_
 obtain ⟨f,g,j⟩:=ZH G1.out.rep
 exact ZhH (wr:=w1) (M1) ⟨⟨c,d,M1,rfl,rfl,t0,f,g,j⟩,by have o:=G1.out.own;simpa only [AC] using o⟩ (by intro b hb;repeat rw [Below.heap_setCell _ _ _ _ (by dsimp only;omega)]) (by repeat (first | refine Below.setCell ?_ (by dsimp only;omega) _ | refine Below.alloc ?_ yK _ | exact B1.out))
theorem Zuj (cs:List Value) (x:Zl) (L:List Nat) (w:World) (hz:Ys x≤1048576) (h:YL.rep w cs x L):
  Calls prog 67 #[.agg cs.toArray] w (Zma YL w x):=by
 obtain ⟨A1,c1,L1,rfl,_hL,t0,t1,t2,n1,m1,s1⟩:=h
 unfold maxLen at m1
 have S1:=yS s1
 clear s1
 simp only[Ys] at hz
 go_enter func67,ntmps67
 go_wp2_with fail
 refine (Zix [.string x.pattern.rel,.slice A1 x.pattern.args.length c1] x.pattern _ _ yE ⟨A1,c1,L1,rfl,rfl,t0,n1,(by unfold maxLen;omega),S1.out.below yI⟩).mono ?_
 rintro e w1 ⟨cs1,M1,rfl,g1,a⟩
 obtain ⟨c,d,rfl⟩:=ZgK g1.rep
 have G1:=yS (g1.mono (show w.heap.size+3≤_ by simp))
 have lt1:=yS g1.lt
 clear g1
 have B1:Hid (Below w.heap.size w w1):=Below.trans yI (a.mono yK)
 have K0:Hid (Blk w1 w.heap.size 103 #[.int .i64 x.kind,.string x.pattern.rel,.slice A1 x.pattern.args.length c1,.string x.left,.string x.right]):=Blk.later (Blk.alloc (Blk.alloc (Blk.new _ _ _) _) _) a
 have K1:Hid (Blk w1 (w.heap.size+1) 80 #[.int .i64 0,.string ⟨#[]⟩,.slice none 0 0,.string ⟨#[]⟩,.string ⟨#[]⟩]):=Blk.later (Blk.alloc (Blk.new_at yG) _) a
 have K2:Hid (Blk w1 (w.heap.size+1+1) 80 #[.int .i64 x.kind,.string ⟨#[]⟩,.slice none 0 0,.string ⟨#[]⟩,.string ⟨#[]⟩]):=Blk.later (Blk.new_at yG) a
 have f0:=K0.out.at (i:=0) rfl
 have r0:=K1.out.at (i:=0) rfl
 have o0:=K2.out.at (i:=0) rfl
 have rz0:=K1.out.frozen 0
 have oz0:=K2.out.frozen 0
 have f1:=K0.out.at (i:=1) rfl
 have r1:=K1.out.at (i:=1) rfl
 have o1:=K2.out.at (i:=1) rfl
 have rz1:=K1.out.frozen 1
 have oz1:=K2.out.frozen 1
 have f2:=K0.out.at (i:=2) rfl
 have r2:=K1.out.at (i:=2) rfl
 have o2:=K2.out.at (i:=2) rfl
 have rz2:=K1.out.frozen 2
 have oz2:=K2.out.frozen 2
 have f3:=K0.out.at (i:=3) rfl
 have r3:=K1.out.at (i:=3) rfl
 have o3:=K2.out.at (i:=3) rfl
 have rz3:=K1.out.frozen 3
 have oz3:=K2.out.frozen 3
 have f4:=K0.out.at (i:=4) rfl
 have r4:=K1.out.at (i:=4) rfl
 have o4:=K2.out.at (i:=4) rfl
 have rz4:=K1.out.frozen 4
 have oz4:=K2.out.frozen 4
 have hz1:w.heap.size+2<w1.heap.size:=by have:=a.size;simp at this;omega
 clear a
 go_wp2_with fail
 refine bodyPost_ret (v:=.agg #[.int .i64 x.kind,.string x.pattern.rel,.slice c x.pattern.args.length d,.string x.left,.string x.right]) (by simp [results,results67,go_sem,r0,r1,r2,r3,r4]) rfl ?_
 obtain ⟨_,_,N1,f,g,_,j,k,l⟩:=G1.out.rep
 cases f
 subst g
 exact ZhH (wr:=w1) (M1) ⟨⟨c,d,M1,rfl,rfl,t0,t1,t2,j,k,l⟩,by have o:=G1.out.own;simpa only [AC] using o⟩ (by intro b hb;repeat rw [Below.heap_setCell _ _ _ _ (by dsimp only;omega)]) (by repeat (first | refine Below.setCell ?_ (by dsimp only;omega) _ | refine Below.alloc ?_ yK _ | exact B1.out))
theorem infoCond:(prog.info? 80).map (fun i=>(i.zero,i.size,i.bytes))=some (some (.agg #[.int .i64 0,.string ⟨#[]⟩,.slice none 0 0,.string ⟨#[]⟩,.string ⟨#[]⟩]),5,80):=yO
theorem Zc8 (A:Option Addr) (n c:Nat) (ds:List Zl) (L:List Nat) (w:World) (hn:n=ds.length) (hz:Z3 ds≤1048576) (h:Sli YL w A ds L):
  Calls prog 15 #[.slice A n c] w (Zi7 YL 80 w ds):=by
 obtain ⟨i0,hi,u,v,z⟩:=info_parts infoCond
 have H:=yS h
 have HN:=yS hn
 have hm:n≤1048576:=by simp only[Z3] at hz;omega
 have HZ:=yS hz
 clear h hn hz
 go_enter func15,ntmps15
 go_wp2_with (at_make;refine wpList_make_full _ rfl _ _ 35 rfl w.heap.size 80 i0 _ 5 underlying35 hi u v .i64 .i64 _ _ n rfl rfl rfl rfl (by rw [z];omega) (by unfold maxLen;omega) (A0 _) ?_;intro w1 l hg)
 have hb:Below w.heap.size w w1:=(Below.refl _ _).grown hg (A0 _) yG
 have HF0:Hid (Yf YL 80 w n ds 0 w1):=Yf.start l hb
 clear l hg hb
 go_wp2
 go_loopw [4] (fun i wr=>∃(k:Nat),k≤n∧i=.int .i64 k∧Hid (Yf YL 80 w n ds k wr)) (fun i _=>n - (intOf i).toNat)
 case atStart=>exact ⟨0,A4 _,rfl,HF0⟩
 case round=>
  obtain ⟨k,hk,rfl,HF⟩:=hrel
  by_cases a:k<n
  ·have q:k<ds.length:=by have:=HN.out;omega
   obtain ⟨b,off,cs,Lk,rfl,B,C,f,hc⟩:=H.out.at_ q
   have g:b<w.heap.size:=H.out.lt b B
   have HR:=yS (YL.keep f (Zy HF.out.below (fun y m=>H.out.lt y (C y m))))
   obtain ⟨A1,c1,rfl⟩:=ZcW f
   have q0:wr.cell? ⟨b,off+k * 5,none⟩=_:=(HF.out.below.cell (p:=⟨b,off+(k * 5+0),none⟩) g).trans (hc 0 _ rfl)
   have q1:wr.cell? ⟨b,off+k * 5+1,none⟩=_:=(HF.out.below.cell (p:=⟨b,off+(k * 5+1),none⟩) g).trans (hc 1 _ rfl)
   have q2:wr.cell? ⟨b,off+k * 5+2,none⟩=_:=(HF.out.below.cell (p:=⟨b,off+(k * 5+2),none⟩) g).trans (hc 2 _ rfl)
   have q3:wr.cell? ⟨b,off+k * 5+3,none⟩=_:=(HF.out.below.cell (p:=⟨b,off+(k * 5+3),none⟩) g).trans (hc 3 _ rfl)
   have q4:wr.cell? ⟨b,off+k * 5+4,none⟩=_:=(HF.out.below.cell (p:=⟨b,off+(k * 5+4),none⟩) g).trans (hc 4 _ rfl)
   have t:Hid (Ys ds[k]≤1048576):=Zl4 Ys ds k q (by have:=HZ.out;simp only[Z3] at this;omega)
   obtain ⟨x,hx⟩:∃x,x=ds[k]:=⟨_,rfl⟩
   have HX:=yS hx
   rw [←hx] at HR q0 q1 q2 q3 q4 t
   clear hc f hx
   go_wp2_with fail
   refine (Zuj _ x Lk _ t.out HR.out).mono ?_
   rintro e w2 ⟨cs2,M2,rfl,g2,o⟩
   have HF2:=yS (HF.out.later o)
   have HS:=yS (HF.out.store a HN.out (fun _=>HX.out) o g2)
   obtain ⟨vA1,vc1,rfl⟩:=ZcW g2.rep
   clear g2 o
   obtain ⟨d0,e0⟩:∃d,w2.cell? ⟨w.heap.size,k * 5,none⟩=some d:=HF2.out.cell a (j:=0) yF
   have z0:=HF2.out.frozen (k * 5)
   obtain ⟨d1,e1⟩:∃d,w2.cell? ⟨w.heap.size,k * 5+1,none⟩=some d:=HF2.out.cell a (j:=1) yF
   have z1:=HF2.out.frozen (k * 5+1)
   obtain ⟨d2,e2⟩:∃d,w2.cell? ⟨w.heap.size,k * 5+2,none⟩=some d:=HF2.out.cell a (j:=2) yF
   have z2:=HF2.out.frozen (k * 5+2)
   obtain ⟨d3,e3⟩:∃d,w2.cell? ⟨w.heap.size,k * 5+3,none⟩=some d:=HF2.out.cell a (j:=3) yF
   have z3:=HF2.out.frozen (k * 5+3)
   obtain ⟨d4,e4⟩:∃d,w2.cell? ⟨w.heap.size,k * 5+4,none⟩=some d:=HF2.out.cell a (j:=4) yF
   have z4:=HF2.out.frozen (k * 5+4)
   go_wp2_with fail
   go_roundw
   case rel=>exact ⟨k+1,yE,by go_num,HS.out⟩
   case measure=>simp [intOf];omega
  ·obtain rfl:k=n:=by omega
   go_wp2
   go_ret
   exact ⟨_,rfl,HF.out.done HN.out⟩
theorem ZqE (cs:List Value) (x:Zu) (L:List Nat) (w:World) (hz:Yt x≤1048576) (h:Yp.rep w cs x L):
  Calls prog 189 #[.agg cs.toArray] w (Zma Yp w x):=by
 obtain ⟨A1,c1,L1,rfl,_hL,t0,n1,m1,s1⟩:=h
 unfold maxLen at m1
 have S1:=yS s1
 clear s1
 simp only[Yt] at hz
 go_enter func189,ntmps189
 go_wp2_with fail
 refine (Zix [.string x.pattern.rel,.slice A1 x.pattern.args.length c1] x.pattern _ _ yE ⟨A1,c1,L1,rfl,rfl,t0,n1,(by unfold maxLen;omega),S1.out.below yI⟩).mono ?_
 rintro e w1 ⟨cs1,M1,rfl,g1,a⟩
 obtain ⟨c,d,rfl⟩:=ZgK g1.rep
 have G1:=yS (g1.mono (show w.heap.size+3≤_ by simp))
 have lt1:=yS g1.lt
 clear g1
 have B1:Hid (Below w.heap.size w w1):=Below.trans yI (a.mono yK)
 have K0:Hid (Blk w1 w.heap.size 206 #[.int .i64 x.kind,.string x.pattern.rel,.slice A1 x.pattern.args.length c1]):=Blk.later (Blk.alloc (Blk.alloc (Blk.new _ _ _) _) _) a
 have K1:Hid (Blk w1 (w.heap.size+1) 125 #[.int .i64 0,.string ⟨#[]⟩,.slice none 0 0]):=Blk.later (Blk.alloc (Blk.new_at yG) _) a
 have K2:Hid (Blk w1 (w.heap.size+1+1) 125 #[.int .i64 x.kind,.string ⟨#[]⟩,.slice none 0 0]):=Blk.later (Blk.new_at yG) a
 have f0:=K0.out.at (i:=0) rfl
 have r0:=K1.out.at (i:=0) rfl
 have o0:=K2.out.at (i:=0) rfl
 have rz0:=K1.out.frozen 0
 have oz0:=K2.out.frozen 0
 have f1:=K0.out.at (i:=1) rfl
 have r1:=K1.out.at (i:=1) rfl
 have o1:=K2.out.at (i:=1) rfl
 have rz1:=K1.out.frozen 1
 have oz1:=K2.out.frozen 1
 have f2:=K0.out.at (i:=2) rfl
 have r2:=K1.out.at (i:=2) rfl
 have o2:=K2.out.at (i:=2) rfl
 have rz2:=K1.out.frozen 2
 have oz2:=K2.out.frozen 2
 have hz1:w.heap.size+2<w1.heap.size:=by have:=a.size;simp at this;omega
 clear a
 go_wp2_with fail
 refine bodyPost_ret (v:=.agg #[.int .i64 x.kind,.string x.pattern.rel,.slice c x.pattern.args.length d]) (by simp [results,results189,go_sem,r0,r1,r2]) rfl ?_
 obtain ⟨_,_,N1,f,g,_,j,k,l⟩:=G1.out.rep
 cases f
 subst g
 exact ZhH (wr:=w1) (M1) ⟨⟨c,d,M1,rfl,rfl,t0,j,k,l⟩,by have o:=G1.out.own;simpa only [AC] using o⟩ (by intro b hb;repeat rw [Below.heap_setCell _ _ _ _ (by dsimp only;omega)]) (by repeat (first | refine Below.setCell ?_ (by dsimp only;omega) _ | refine Below.alloc ?_ yK _ | exact B1.out))
theorem infoAction:(prog.info? 125).map (fun i=>(i.zero,i.size,i.bytes))=some (some (.agg #[.int .i64 0,.string ⟨#[]⟩,.slice none 0 0]),3,48):=yO
theorem ZoJ (A:Option Addr) (n c:Nat) (ds:List Zu) (L:List Nat) (w:World) (hn:n=ds.length) (hz:Ym ds≤1048576) (h:Sli Yp w A ds L):
  Calls prog 125 #[.slice A n c] w (Zi7 Yp 125 w ds):=by
 obtain ⟨i0,hi,u,v,z⟩:=info_parts infoAction
 have H:=yS h
 have HN:=yS hn
 have hm:n≤1048576:=by simp only[Ym] at hz;omega
 have HZ:=yS hz
 clear h hn hz
 go_enter func125,ntmps125
 go_wp2_with (at_make;refine wpList_make_full _ rfl _ _ 74 rfl w.heap.size 125 i0 _ 3 underlying74 hi u v .i64 .i64 _ _ n rfl rfl rfl rfl (by rw [z];omega) (by unfold maxLen;omega) (A0 _) ?_;intro w1 g hg)
 have hb:Below w.heap.size w w1:=(Below.refl _ _).grown hg (A0 _) yG
 have HF0:Hid (Yf Yp 125 w n ds 0 w1):=Yf.start g hb
 clear g hg hb
 go_wp2
 go_loopw [4] (fun i wr=>∃(k:Nat),k≤n∧i=.int .i64 k∧Hid (Yf Yp 125 w n ds k wr)) (fun i _=>n - (intOf i).toNat)
 case atStart=>exact ⟨0,A4 _,rfl,HF0⟩
 case round=>
  obtain ⟨k,hk,rfl,HF⟩:=hrel
  by_cases f:k<n
  ·have q:k<ds.length:=by have:=HN.out;omega
   obtain ⟨b,off,cs,Lk,rfl,B,C,a,hc⟩:=H.out.at_ q
   have l:b<w.heap.size:=H.out.lt b B
   have HR:=yS (Yp.keep a (Zy HF.out.below (fun y m=>H.out.lt y (C y m))))
   obtain ⟨A1,c1,rfl⟩:=ZaY a
   have q0:wr.cell? ⟨b,off+k * 3,none⟩=_:=(HF.out.below.cell (p:=⟨b,off+(k * 3+0),none⟩) l).trans (hc 0 _ rfl)
   have q1:wr.cell? ⟨b,off+k * 3+1,none⟩=_:=(HF.out.below.cell (p:=⟨b,off+(k * 3+1),none⟩) l).trans (hc 1 _ rfl)
   have q2:wr.cell? ⟨b,off+k * 3+2,none⟩=_:=(HF.out.below.cell (p:=⟨b,off+(k * 3+2),none⟩) l).trans (hc 2 _ rfl)
   have t:Hid (Yt ds[k]≤1048576):=Zl4 Yt ds k q (by have:=HZ.out;simp only[Ym] at this;omega)
   obtain ⟨x,hx⟩:∃x,x=ds[k]:=⟨_,rfl⟩
   have HX:=yS hx
   rw [←hx] at HR q0 q1 q2 t
   clear hc a hx
   go_wp2_with fail
   refine (ZqE _ x Lk _ t.out HR.out).mono ?_
   rintro e w2 ⟨cs2,M2,rfl,g2,o⟩
   have HF2:=yS (HF.out.later o)
   have HS:=yS (HF.out.store f HN.out (fun _=>HX.out) o g2)
   obtain ⟨vA1,vc1,rfl⟩:=ZaY g2.rep
   clear g2 o
   obtain ⟨d0,e0⟩:∃d,w2.cell? ⟨w.heap.size,k * 3,none⟩=some d:=HF2.out.cell f (j:=0) yF
   have z0:=HF2.out.frozen (k * 3)
   obtain ⟨d1,e1⟩:∃d,w2.cell? ⟨w.heap.size,k * 3+1,none⟩=some d:=HF2.out.cell f (j:=1) yF
   have z1:=HF2.out.frozen (k * 3+1)
   obtain ⟨d2,e2⟩:∃d,w2.cell? ⟨w.heap.size,k * 3+2,none⟩=some d:=HF2.out.cell f (j:=2) yF
   have z2:=HF2.out.frozen (k * 3+2)
   go_wp2_with fail
   go_roundw
   case rel=>exact ⟨k+1,yE,by go_num,HS.out⟩
   case measure=>simp [intOf];omega
  ·obtain rfl:k=n:=by omega
   go_wp2
   go_ret
   exact ⟨_,rfl,HF.out.done HN.out⟩
theorem Ztw (cs:List Value) (x:Zg) (L:List Nat) (w:World) (hz:Yv x≤1048576) (h:XW.rep w cs x L):
  Calls prog 66 #[.agg cs.toArray] w (Zma XW w x):=by
 obtain ⟨A1,c1,L1,A2,c2,L2,rfl,_hL,t0,n1,m1,s1,n2,m2,s2⟩:=h
 unfold maxLen at m1 m2
 have S1:=yS s1
 clear s1
 have S2:=yS s2
 clear s2
 simp only[Yv] at hz
 go_enter func66,ntmps66
 go_wp2_with fail
 refine (Zc8 A1 _ c1 x.cond L1 _ rfl yE (S1.out.below yI)).mono ?_
 rintro e w1 ⟨v1,rfl,a1⟩
 obtain ⟨d,f,rfl⟩:=a1.shape
 have c:=a1.below
 obtain ⟨M1,g1⟩:=a1.got
 clear a1
 have G1:=yS (g1.mono (show w.heap.size+3≤_ by simp))
 have z:=yS g1.lt
 clear g1
 have B1:Hid (Below w.heap.size w w1):=Below.trans yI (c.mono yK)
 have K0:Hid (Blk w1 w.heap.size 99 #[.string x.name,.int .i64 x.priority,.slice A1 x.cond.length c1,.slice A2 x.thn.length c2]):=Blk.later (Blk.alloc (Blk.alloc (Blk.new _ _ _) _) _) c
 have K1:Hid (Blk w1 (w.heap.size+1) 76 #[.string ⟨#[]⟩,.int .i64 0,.slice none 0 0,.slice none 0 0]):=Blk.later (Blk.alloc (Blk.new_at yG) _) c
 have K2:Hid (Blk w1 (w.heap.size+1+1) 76 #[.string x.name,.int .i64 x.priority,.slice none 0 0,.slice none 0 0]):=Blk.later (Blk.new_at yG) c
 have f0:=K0.out.at (i:=0) rfl
 have r0:=K1.out.at (i:=0) rfl
 have o0:=K2.out.at (i:=0) rfl
 have g:=K1.out.frozen 0
 have j:=K2.out.frozen 0
 have f1:=K0.out.at (i:=1) rfl
 have r1:=K1.out.at (i:=1) rfl
 have o1:=K2.out.at (i:=1) rfl
 have k:=K1.out.frozen 1
 have l:=K2.out.frozen 1
 have f2:=K0.out.at (i:=2) rfl
 have r2:=K1.out.at (i:=2) rfl
 have o2:=K2.out.at (i:=2) rfl
 have m:=K1.out.frozen 2
 have p:=K2.out.frozen 2
 have f3:=K0.out.at (i:=3) rfl
 have r3:=K1.out.at (i:=3) rfl
 have o3:=K2.out.at (i:=3) rfl
 have q:=K1.out.frozen 3
 have t:=K2.out.frozen 3
 have hz1:w.heap.size+2<w1.heap.size:=by have:=c.size;simp at this;omega
 clear c
 go_wp2_with fail
 refine (ZoJ A2 _ c2 x.thn L2 _ rfl yE (S2.out.below (by repeat (first | refine Below.setCell ?_ (by dsimp only;omega) _ | refine Below.alloc ?_ yK _ | exact B1.out)))).mono ?_
 rintro e w2 ⟨v2,rfl,a2⟩
 obtain ⟨u,y,rfl⟩:=a2.shape
 have a:=a2.below
 obtain ⟨M2,g2⟩:=a2.got
 clear a2
 have G2:=yS (g2.mono (show w1.heap.size≤_ by simp))
 have lt2:=yS g2.lt
 clear g2
 have B2:Hid (Below w.heap.size w w2):=Below.trans (by repeat (first | refine Below.setCell ?_ (by dsimp only;omega) _ | refine Below.alloc ?_ yK _ | exact B1.out)) (a.mono yK)
 have G1:Hid (Got (Zw YL) (w.heap.size+3) [.slice d x.cond.length f] x.cond M1 w2):=Got.later (by repeat (first | refine Got.setCell ?_ (by dsimp only;omega) _ | exact G1.out)) a
 have K0:=yS (Blk.later (Blk.far K0.out (by dsimp only;omega) _) a)
 have K1:=yS (Blk.later (Blk.far K1.out (by dsimp only;omega) _) a)
 have K2:=yS (Blk.later (Blk.set_ K2.out 2 _) a)
 clear f0 r0 o0 g j f1 r1 o1 k l f2 r2 o2 m p f3 r3 o3 q t
 have f0:=K0.out.at (i:=0) rfl
 have r0:=K1.out.at (i:=0) rfl
 have o0:=K2.out.at (i:=0) rfl
 have g:=K1.out.frozen 0
 have j:=K2.out.frozen 0
 have f1:=K0.out.at (i:=1) rfl
 have r1:=K1.out.at (i:=1) rfl
 have o1:=K2.out.at (i:=1) rfl
 have k:=K1.out.frozen 1
 have l:=K2.out.frozen 1
 have f2:=K0.out.at (i:=2) rfl
 have r2:=K1.out.at (i:=2) rfl
 have o2:=K2.out.at (i:=2) rfl
 have m:=K1.out.frozen 2
 have p:=K2.out.frozen 2
 have f3:=K0.out.at (i:=3) rfl
 have r3:=K1.out.at (i:=3) rfl
 have o3:=K2.out.at (i:=3) rfl
 have q:=K1.out.frozen 3
 have t:=K2.out.frozen 3
 have hz2:w.heap.size+2<w2.heap.size:=by have:=a.size;simp at this;omega
 have hy2:w1.heap.size≤w2.heap.size:=by have:=a.size;simp at this;omega
 clear a
 go_wp2_with fail
 refine bodyPost_ret (v:=.agg #[.string x.name,.int .i64 x.priority,.slice d x.cond.length f,.slice u x.thn.length y]) (by simp [results,results66,go_sem,r0,r1,r2,r3]) rfl ?_
 obtain ⟨A,B,C⟩:=ZH G1.out.rep
 obtain ⟨D,E,F⟩:=ZH G2.out.rep
 exact ZhH (wr:=w2) (M1++M2) ⟨⟨d,f,M1,u,y,M2,rfl,rfl,t0,A,B,C,D,E,F⟩,by have o:=(Own.append G1.out.own G2.out.own yE z.out);simpa only [AC] using o⟩ (by intro b hb;repeat rw [Below.heap_setCell _ _ _ _ (by dsimp only;omega)]) (by repeat (first | refine Below.setCell ?_ (by dsimp only;omega) _ | refine Below.alloc ?_ yK _ | exact B2.out))
theorem infoRule:(prog.info? 76).map (fun i=>(i.zero,i.size,i.bytes))=some (some (.agg #[.string ⟨#[]⟩,.int .i64 0,.slice none 0 0,.slice none 0 0]),4,72):=yO
theorem Ze2 (A:Option Addr) (n c:Nat) (ds:List Zg) (L:List Nat) (w:World) (hn:n=ds.length) (hz:Yg ds≤1048576) (h:Sli XW w A ds L):
  Calls prog 13 #[.slice A n c] w (Zi7 XW 76 w ds):=by
 obtain ⟨i0,hi,u,v,z⟩:=info_parts infoRule
 have H:=yS h
 have HN:=yS hn
 have hm:n≤1048576:=by simp only[Yg] at hz;omega
 have HZ:=yS hz
 clear h hn hz
 go_enter func13,ntmps13
 go_wp2_with (at_make;refine wpList_make_full _ rfl _ _ 31 rfl w.heap.size 76 i0 _ 4 underlying31 hi u v .i64 .i64 _ _ n rfl rfl rfl rfl (by rw [z];omega) (by unfold maxLen;omega) (A0 _) ?_;intro w1 l hg)
 have hb:Below w.heap.size w w1:=(Below.refl _ _).grown hg (A0 _) yG
 have HF0:Hid (Yf XW 76 w n ds 0 w1):=Yf.start l hb
 clear l hg hb
 go_wp2
 go_loopw [4] (fun i wr=>∃(k:Nat),k≤n∧i=.int .i64 k∧Hid (Yf XW 76 w n ds k wr)) (fun i _=>n - (intOf i).toNat)
 case atStart=>exact ⟨0,A4 _,rfl,HF0⟩
 case round=>
  obtain ⟨k,hk,rfl,HF⟩:=hrel
  by_cases a:k<n
  ·have q:k<ds.length:=by have:=HN.out;omega
   obtain ⟨b,off,cs,Lk,rfl,B,C,f,hc⟩:=H.out.at_ q
   have g:b<w.heap.size:=H.out.lt b B
   have HR:=yS (XW.keep f (Zy HF.out.below (fun y m=>H.out.lt y (C y m))))
   obtain ⟨A1,c1,A2,c2,rfl⟩:=Zc2 f
   have q0:wr.cell? ⟨b,off+k * 4,none⟩=_:=(HF.out.below.cell (p:=⟨b,off+(k * 4+0),none⟩) g).trans (hc 0 _ rfl)
   have q1:wr.cell? ⟨b,off+k * 4+1,none⟩=_:=(HF.out.below.cell (p:=⟨b,off+(k * 4+1),none⟩) g).trans (hc 1 _ rfl)
   have q2:wr.cell? ⟨b,off+k * 4+2,none⟩=_:=(HF.out.below.cell (p:=⟨b,off+(k * 4+2),none⟩) g).trans (hc 2 _ rfl)
   have q3:wr.cell? ⟨b,off+k * 4+3,none⟩=_:=(HF.out.below.cell (p:=⟨b,off+(k * 4+3),none⟩) g).trans (hc 3 _ rfl)
   have t:Hid (Yv ds[k]≤1048576):=Zl4 Yv ds k q (by have:=HZ.out;simp only[Yg] at this;omega)
   obtain ⟨x,hx⟩:∃x,x=ds[k]:=⟨_,rfl⟩
   have HX:=yS hx
   rw [←hx] at HR q0 q1 q2 q3 t
   clear hc f hx
   go_wp2_with fail
   refine (Ztw _ x Lk _ t.out HR.out).mono ?_
   rintro e w2 ⟨cs2,M2,rfl,g2,o⟩
   have HF2:=yS (HF.out.later o)
   have HS:=yS (HF.out.store a HN.out (fun _=>HX.out) o g2)
   obtain ⟨vA1,vc1,vA2,vc2,rfl⟩:=Zc2 g2.rep
   clear g2 o
   obtain ⟨d0,e0⟩:∃d,w2.cell? ⟨w.heap.size,k * 4,none⟩=some d:=HF2.out.cell a (j:=0) yF
   have z0:=HF2.out.frozen (k * 4)
   obtain ⟨d1,e1⟩:∃d,w2.cell? ⟨w.heap.size,k * 4+1,none⟩=some d:=HF2.out.cell a (j:=1) yF
   have z1:=HF2.out.frozen (k * 4+1)
   obtain ⟨d2,e2⟩:∃d,w2.cell? ⟨w.heap.size,k * 4+2,none⟩=some d:=HF2.out.cell a (j:=2) yF
   have z2:=HF2.out.frozen (k * 4+2)
   obtain ⟨d3,e3⟩:∃d,w2.cell? ⟨w.heap.size,k * 4+3,none⟩=some d:=HF2.out.cell a (j:=3) yF
   have z3:=HF2.out.frozen (k * 4+3)
   go_wp2_with fail
   go_roundw
   case rel=>exact ⟨k+1,yE,by go_num,HS.out⟩
   case measure=>simp [intOf];omega
  ·obtain rfl:k=n:=by omega
   go_wp2
   go_ret
   exact ⟨_,rfl,HF.out.done HN.out⟩
end
section
open Go.RowKit
def Qw (w:World) (e:Ending) (w':World):Prop:=e=.returned (.bool true)∧Below w.heap.size w w'
theorem Zil (A B:Option Addr) (n c d:Nat) (ds:List ByteArray) (L M:List Nat) (w:World) (hn:n=ds.length) (hm:n≤9223372036854775807) (h1:Sli Zde w A ds L) (h2:Sli Zde w B ds M):
  Calls prog 37 #[.slice A n c,.slice B n d] w (Qw w):=by
 have H1:=yS h1
 have H2:=yS h2
 have HN:=yS hn
 clear h1 h2 hn
 have hne:((n:Int) != n)=false:=by simp
 go_enter func37,ntmps37
 go_wp2
 go_loopw [5] (fun i wr=>∃(k:Nat),k≤n∧i=.int .i64 k∧Hid (∃q,wr=w.drewN q)) (fun i _=>n - (intOf i).toNat)
 case atStart=>exact ⟨0,A4 _,rfl,0,rfl⟩
 case round=>
  obtain ⟨k,hk,rfl,hq⟩:=hrel
  obtain ⟨q,rfl⟩:=hq.out
  by_cases hlt:k<n
  ·have e:k<ds.length:=by have:=HN.out;omega
   obtain ⟨b,off,cs,Lk,rfl,_,_,f,hc⟩:=H1.out.at_ e
   obtain ⟨b',off',cs',Mk,rfl,_,_,a,hc'⟩:=H2.out.at_ e
   generalize ds[k]=x at *
   obtain ⟨rfl,_,_⟩:=f
   obtain ⟨rfl,_,_⟩:=a
   have q0:=hc 0 _ rfl
   have p0:=hc' 0 _ rfl
   simp only[show Zde.size=1 from rfl,AM,A3] at q0 p0
   clear hc hc'
   have k0:(0:Int)≤k:=by omega
   have k1:(k:Int)<n:=by omega
   go_wp2_with fail
   go_quiet (fail)
   go_wp2_with fail
   go_roundw
   case rel=>exact ⟨k+1,yE,by go_num,by first | exact Zy2 _ _ _ | exact ZxG _ _⟩
   case measure=>simp [intOf];omega
  ·go_wp2
   go_ret
   exact ⟨rfl,ZmM _ _ _⟩
theorem Ztv (cs ds:List Value) (x:Zc) (L M:List Nat) (w:World) (h1:Z8.rep w cs x L) (h2:Z8.rep w ds x M):
  Calls prog 31 #[.agg cs.toArray,.agg ds.toArray] w (Qw w):=by
 obtain ⟨b,c,k,rfl,_ahL,at0,an1,l,d⟩:=h1
 obtain ⟨f,g,m,rfl,_bhL,bt0,bn1,o,j⟩:=h2
 unfold maxLen at l o
 have SA1:=yS d
 have SB1:=yS j
 clear d j
 go_enter func31,ntmps31
 go_wp2_with fail
 refine (Zil b f _ c g x.args k m _ rfl yE (SA1.out.below yI) (SB1.out.below yI)).mono ?_
 rintro e w1 ⟨rfl,a⟩
 have B1:Hid (Below w.heap.size w w1):=Below.trans yI (a.mono yK)
 have K0:Hid (Blk w1 w.heap.size 53 #[.string x.rel,.slice b x.args.length c]):=Blk.later (Blk.alloc (Blk.new _ _ _) _) a
 have K1:Hid (Blk w1 (w.heap.size+1) 53 #[.string x.rel,.slice f x.args.length g]):=Blk.later (Blk.new_at yG) a
 have f0:=K0.out.at (i:=0) rfl
 have r0:=K1.out.at (i:=0) rfl
 have f1:=K0.out.at (i:=1) rfl
 have r1:=K1.out.at (i:=1) rfl
 clear a
 have hz1:=B1.out.size
 go_wp2_with fail
 go_ret
 exact ⟨rfl,(by repeat (first | refine Below.setCell ?_ (by dsimp only;omega) _ | refine Below.alloc ?_ yK _ | exact B1.out))⟩
theorem Zr2 (A B:Option Addr) (n c d:Nat) (ds:List Zc) (L M:List Nat) (w:World) (hn:n=ds.length) (hm:n≤9223372036854775807) (h1:Sli Z8 w A ds L) (h2:Sli Z8 w B ds M):
  Calls prog 19 #[.slice A n c,.slice B n d] w (Qw w):=by
 have H1:=yS h1
 have H2:=yS h2
 have HN:=yS hn
 clear h1 h2 hn
 have hne:((n:Int) != n)=false:=by simp
 go_enter func19,ntmps19
 go_wp2
 go_loopw [5] (fun i wr=>∃(k:Nat),k≤n∧i=.int .i64 k∧Hid (Below w.heap.size w wr)) (fun i _=>n - (intOf i).toNat)
 case atStart=>exact ⟨0,A4 _,rfl,Below.refl _ _⟩
 case round=>
  obtain ⟨k,hk,rfl,HB⟩:=hrel
  by_cases hlt:k<n
  ·have l:k<ds.length:=by have:=HN.out;omega
   obtain ⟨b,off,cs,Lk,rfl,t,u,g,hc⟩:=H1.out.at_ l
   obtain ⟨b',f,cs',Mk,rfl,v,z,a,hc'⟩:=H2.out.at_ l
   have o:b<w.heap.size:=H1.out.lt b t
   have j:b'<w.heap.size:=H2.out.lt b' v
   have HR:=yS (Z8.keep g (Zy HB.out (fun y m=>H1.out.lt y (u y m))))
   have HR':=yS (Z8.keep a (Zy HB.out (fun y m=>H2.out.lt y (z y m))))
   generalize ds[k]=x at *
   obtain ⟨aA1,ac1,rfl⟩:=ZcS g
   obtain ⟨bA1,bc1,rfl⟩:=ZcS a
   have q0:wr.cell? ⟨b,off+k * 2,none⟩=_:=(HB.out.cell (p:=⟨b,off+(k * 2+0),none⟩) o).trans (hc 0 _ rfl)
   have p0:wr.cell? ⟨b',f+k * 2,none⟩=_:=(HB.out.cell (p:=⟨b',f+(k * 2+0),none⟩) j).trans (hc' 0 _ rfl)
   have q1:wr.cell? ⟨b,off+k * 2+1,none⟩=_:=(HB.out.cell (p:=⟨b,off+(k * 2+1),none⟩) o).trans (hc 1 _ rfl)
   have p1:wr.cell? ⟨b',f+k * 2+1,none⟩=_:=(HB.out.cell (p:=⟨b',f+(k * 2+1),none⟩) j).trans (hc' 1 _ rfl)
   clear hc hc' g a
   have k0:(0:Int)≤k:=by omega
   have k1:(k:Int)<n:=by omega
   go_wp2_with fail
   go_still_tail 8,yO
   change wpList _ _ _ _ _ wr.drew
   go_wp2_with (go_at_call 31;(refine (Ztv _ _ x Lk Mk wr.drew (Z8.keep HR.out (fun _ _=>rfl)) (Z8.keep HR'.out (fun _ _=>rfl))).mono ?_;rintro e w1 ⟨rfl,q⟩;have HB1:=yS (HB.out.drew.trans (q.mono HB.out.size));clear q))
   go_roundw
   case rel=>exact ⟨k+1,yE,by go_num,HB1.out⟩
   case measure=>simp [intOf];omega
  ·go_wp2
   go_ret
   exact ⟨rfl,HB.out⟩
theorem ZiL (cs ds:List Value) (x:Zx) (L M:List Nat) (w:World) (h1:Qq.rep w cs x L) (h2:Qq.rep w ds x M):
  Calls prog 135 #[.agg cs.toArray,.agg ds.toArray] w (Qw w):=by
 obtain ⟨b,c,k,rfl,_ahL,at0,an1,l,d⟩:=h1
 obtain ⟨f,g,m,rfl,_bhL,bt0,bn1,o,j⟩:=h2
 unfold maxLen at l o
 have SA1:=yS d
 have SB1:=yS j
 clear d j
 go_enter func135,ntmps135
 go_wp2_with fail
 refine (Zil b f _ c g x.args k m _ rfl yE (SA1.out.below yI) (SB1.out.below yI)).mono ?_
 rintro e w1 ⟨rfl,a⟩
 have B1:Hid (Below w.heap.size w w1):=Below.trans yI (a.mono yK)
 have K0:Hid (Blk w1 w.heap.size 78 #[.string x.rel,.slice b x.args.length c]):=Blk.later (Blk.alloc (Blk.new _ _ _) _) a
 have K1:Hid (Blk w1 (w.heap.size+1) 78 #[.string x.rel,.slice f x.args.length g]):=Blk.later (Blk.new_at yG) a
 have f0:=K0.out.at (i:=0) rfl
 have r0:=K1.out.at (i:=0) rfl
 have f1:=K0.out.at (i:=1) rfl
 have r1:=K1.out.at (i:=1) rfl
 clear a
 have hz1:=B1.out.size
 go_wp2_with fail
 go_ret
 exact ⟨rfl,(by repeat (first | refine Below.setCell ?_ (by dsimp only;omega) _ | refine Below.alloc ?_ yK _ | exact B1.out))⟩
theorem ZtQ (cs ds:List Value) (x:Zi) (L M:List Nat) (w:World) (h1:Yd.rep w cs x L) (h2:Yd.rep w ds x M):
  Calls prog 133 #[.agg cs.toArray,.agg ds.toArray] w (Qw w):=by
 obtain ⟨rfl,_ahL,at0,at1⟩:=h1
 obtain ⟨rfl,_bhL,bt0,bt1⟩:=h2
 go_enter func133,ntmps133
 go_wp2_with fail
 go_ret
 exact ⟨rfl,yI⟩
theorem ZsP (A B:Option Addr) (n c d:Nat) (ds:List Zi) (L M:List Nat) (w:World) (hn:n=ds.length) (hm:n≤9223372036854775807) (h1:Sli Yd w A ds L) (h2:Sli Yd w B ds M):
  Calls prog 72 #[.slice A n c,.slice B n d] w (Qw w):=by
 have H1:=yS h1
 have H2:=yS h2
 have HN:=yS hn
 clear h1 h2 hn
 have hne:((n:Int) != n)=false:=by simp
 go_enter func72,ntmps72
 go_wp2
 go_loopw [5] (fun i wr=>∃(k:Nat),k≤n∧i=.int .i64 k∧Hid (Below w.heap.size w wr)) (fun i _=>n - (intOf i).toNat)
 case atStart=>exact ⟨0,A4 _,rfl,Below.refl _ _⟩
 case round=>
  obtain ⟨k,hk,rfl,HB⟩:=hrel
  by_cases hlt:k<n
  ·have l:k<ds.length:=by have:=HN.out;omega
   obtain ⟨b,off,cs,Lk,rfl,t,u,g,hc⟩:=H1.out.at_ l
   obtain ⟨b',f,cs',Mk,rfl,v,z,a,hc'⟩:=H2.out.at_ l
   have o:b<w.heap.size:=H1.out.lt b t
   have j:b'<w.heap.size:=H2.out.lt b' v
   have HR:=yS (Yd.keep g (Zy HB.out (fun y m=>H1.out.lt y (u y m))))
   have HR':=yS (Yd.keep a (Zy HB.out (fun y m=>H2.out.lt y (z y m))))
   generalize ds[k]=x at *
   obtain rfl:=Zlj g
   obtain rfl:=Zlj a
   have q0:wr.cell? ⟨b,off+k * 2,none⟩=_:=(HB.out.cell (p:=⟨b,off+(k * 2+0),none⟩) o).trans (hc 0 _ rfl)
   have p0:wr.cell? ⟨b',f+k * 2,none⟩=_:=(HB.out.cell (p:=⟨b',f+(k * 2+0),none⟩) j).trans (hc' 0 _ rfl)
   have q1:wr.cell? ⟨b,off+k * 2+1,none⟩=_:=(HB.out.cell (p:=⟨b,off+(k * 2+1),none⟩) o).trans (hc 1 _ rfl)
   have p1:wr.cell? ⟨b',f+k * 2+1,none⟩=_:=(HB.out.cell (p:=⟨b',f+(k * 2+1),none⟩) j).trans (hc' 1 _ rfl)
   clear hc hc' g a
   have k0:(0:Int)≤k:=by omega
   have k1:(k:Int)<n:=by omega
   go_wp2_with fail
   go_still_tail 8,yO
   change wpList _ _ _ _ _ wr.drew
   go_wp2_with (go_at_call 133;(refine (ZtQ _ _ x Lk Mk wr.drew (Yd.keep HR.out (fun _ _=>rfl)) (Yd.keep HR'.out (fun _ _=>rfl))).mono ?_;rintro e w1 ⟨rfl,q⟩;have HB1:=yS (HB.out.drew.trans (q.mono HB.out.size));clear q))
   go_roundw
   case rel=>exact ⟨k+1,yE,by go_num,HB1.out⟩
   case measure=>simp [intOf];omega
  ·go_wp2
   go_ret
   exact ⟨rfl,HB.out⟩
theorem Zty (cs ds:List Value) (x:Zl) (L M:List Nat) (w:World) (h1:YL.rep w cs x L) (h2:YL.rep w ds x M):
  Calls prog 74 #[.agg cs.toArray,.agg ds.toArray] w (Qw w):=by
 obtain ⟨b,c,k,rfl,_ahL,l,at1,at2,m,o,g⟩:=h1
 obtain ⟨d,f,p,rfl,_bhL,q,bt1,bt2,t,u,j⟩:=h2
 unfold maxLen at o u
 have SA1:=yS g
 have SB1:=yS j
 clear g j
 go_enter func74,ntmps74
 go_wp2_with fail
 refine (ZiL [.string x.pattern.rel,.slice b x.pattern.args.length c] [.string x.pattern.rel,.slice d x.pattern.args.length f] x.pattern _ _ _ ⟨b,c,k,rfl,rfl,l,m,(by unfold maxLen;omega),SA1.out.below yI⟩ ⟨d,f,p,rfl,rfl,q,t,(by unfold maxLen;omega),SB1.out.below yI⟩).mono ?_
 rintro e w1 ⟨rfl,a⟩
 have B1:Hid (Below w.heap.size w w1):=Below.trans yI (a.mono yK)
 have K0:Hid (Blk w1 w.heap.size 80 #[.int .i64 x.kind,.string x.pattern.rel,.slice b x.pattern.args.length c,.string x.left,.string x.right]):=Blk.later (Blk.alloc (Blk.new _ _ _) _) a
 have K1:Hid (Blk w1 (w.heap.size+1) 80 #[.int .i64 x.kind,.string x.pattern.rel,.slice d x.pattern.args.length f,.string x.left,.string x.right]):=Blk.later (Blk.new_at yG) a
 have f0:=K0.out.at (i:=0) rfl
 have r0:=K1.out.at (i:=0) rfl
 have f1:=K0.out.at (i:=1) rfl
 have r1:=K1.out.at (i:=1) rfl
 have f2:=K0.out.at (i:=2) rfl
 have r2:=K1.out.at (i:=2) rfl
 have f3:=K0.out.at (i:=3) rfl
 have r3:=K1.out.at (i:=3) rfl
 have f4:=K0.out.at (i:=4) rfl
 have r4:=K1.out.at (i:=4) rfl
 clear a
 have hz1:=B1.out.size
 go_wp2_with fail
 go_ret
 exact ⟨rfl,(by repeat (first | refine Below.setCell ?_ (by dsimp only;omega) _ | refine Below.alloc ?_ yK _ | exact B1.out))⟩
theorem Zls (A B:Option Addr) (n c d:Nat) (ds:List Zl) (L M:List Nat) (w:World) (hn:n=ds.length) (hm:n≤9223372036854775807) (h1:Sli YL w A ds L) (h2:Sli YL w B ds M):
  Calls prog 20 #[.slice A n c,.slice B n d] w (Qw w):=by
 have H1:=yS h1
 have H2:=yS h2
 have HN:=yS hn
 clear h1 h2 hn
 have hne:((n:Int) != n)=false:=by simp
 go_enter func20,ntmps20
 go_wp2
 go_loopw [5] (fun i wr=>∃(k:Nat),k≤n∧i=.int .i64 k∧Hid (Below w.heap.size w wr)) (fun i _=>n - (intOf i).toNat)
 case atStart=>exact ⟨0,A4 _,rfl,Below.refl _ _⟩
 case round=>
  obtain ⟨k,hk,rfl,HB⟩:=hrel
  by_cases hlt:k<n
  ·have o:k<ds.length:=by have:=HN.out;omega
   obtain ⟨b,off,cs,Lk,rfl,t,u,j,hc⟩:=H1.out.at_ o
   obtain ⟨b',a,cs',Mk,rfl,v,z,g,hc'⟩:=H2.out.at_ o
   have l:b<w.heap.size:=H1.out.lt b t
   have f:b'<w.heap.size:=H2.out.lt b' v
   have HR:=yS (YL.keep j (Zy HB.out (fun y m=>H1.out.lt y (u y m))))
   have HR':=yS (YL.keep g (Zy HB.out (fun y m=>H2.out.lt y (z y m))))
   generalize ds[k]=x at *
   obtain ⟨aA1,ac1,rfl⟩:=ZcW j
   obtain ⟨bA1,bc1,rfl⟩:=ZcW g
   have q0:wr.cell? ⟨b,off+k * 5,none⟩=_:=(HB.out.cell (p:=⟨b,off+(k * 5+0),none⟩) l).trans (hc 0 _ rfl)
   have p0:wr.cell? ⟨b',a+k * 5,none⟩=_:=(HB.out.cell (p:=⟨b',a+(k * 5+0),none⟩) f).trans (hc' 0 _ rfl)
   have q1:wr.cell? ⟨b,off+k * 5+1,none⟩=_:=(HB.out.cell (p:=⟨b,off+(k * 5+1),none⟩) l).trans (hc 1 _ rfl)
   have p1:wr.cell? ⟨b',a+k * 5+1,none⟩=_:=(HB.out.cell (p:=⟨b',a+(k * 5+1),none⟩) f).trans (hc' 1 _ rfl)
   have q2:wr.cell? ⟨b,off+k * 5+2,none⟩=_:=(HB.out.cell (p:=⟨b,off+(k * 5+2),none⟩) l).trans (hc 2 _ rfl)
   have p2:wr.cell? ⟨b',a+k * 5+2,none⟩=_:=(HB.out.cell (p:=⟨b',a+(k * 5+2),none⟩) f).trans (hc' 2 _ rfl)
   have q3:wr.cell? ⟨b,off+k * 5+3,none⟩=_:=(HB.out.cell (p:=⟨b,off+(k * 5+3),none⟩) l).trans (hc 3 _ rfl)
   have p3:wr.cell? ⟨b',a+k * 5+3,none⟩=_:=(HB.out.cell (p:=⟨b',a+(k * 5+3),none⟩) f).trans (hc' 3 _ rfl)
   have q4:wr.cell? ⟨b,off+k * 5+4,none⟩=_:=(HB.out.cell (p:=⟨b,off+(k * 5+4),none⟩) l).trans (hc 4 _ rfl)
   have p4:wr.cell? ⟨b',a+k * 5+4,none⟩=_:=(HB.out.cell (p:=⟨b',a+(k * 5+4),none⟩) f).trans (hc' 4 _ rfl)
   clear hc hc' j g
   have k0:(0:Int)≤k:=by omega
   have k1:(k:Int)<n:=by omega
   go_wp2_with fail
   go_still_tail 8,yO
   change wpList _ _ _ _ _ wr.drew
   go_wp2_with (go_at_call 74;(refine (Zty _ _ x Lk Mk wr.drew (YL.keep HR.out (fun _ _=>rfl)) (YL.keep HR'.out (fun _ _=>rfl))).mono ?_;rintro e w1 ⟨rfl,q⟩;have HB1:=yS (HB.out.drew.trans (q.mono HB.out.size));clear q))
   go_roundw
   case rel=>exact ⟨k+1,yE,by go_num,HB1.out⟩
   case measure=>simp [intOf];omega
  ·go_wp2
   go_ret
   exact ⟨rfl,HB.out⟩
theorem ZqP (cs ds:List Value) (x:Zu) (L M:List Nat) (w:World) (h1:Yp.rep w cs x L) (h2:Yp.rep w ds x M):
  Calls prog 200 #[.agg cs.toArray,.agg ds.toArray] w (Qw w):=by
 obtain ⟨b,c,k,rfl,_ahL,l,m,o,g⟩:=h1
 obtain ⟨d,f,p,rfl,_bhL,q,t,u,j⟩:=h2
 unfold maxLen at o u
 have SA1:=yS g
 have SB1:=yS j
 clear g j
 go_enter func200,ntmps200
 go_wp2_with fail
 refine (ZiL [.string x.pattern.rel,.slice b x.pattern.args.length c] [.string x.pattern.rel,.slice d x.pattern.args.length f] x.pattern _ _ _ ⟨b,c,k,rfl,rfl,l,m,(by unfold maxLen;omega),SA1.out.below yI⟩ ⟨d,f,p,rfl,rfl,q,t,(by unfold maxLen;omega),SB1.out.below yI⟩).mono ?_
 rintro e w1 ⟨rfl,a⟩
 have B1:Hid (Below w.heap.size w w1):=Below.trans yI (a.mono yK)
 have K0:Hid (Blk w1 w.heap.size 125 #[.int .i64 x.kind,.string x.pattern.rel,.slice b x.pattern.args.length c]):=Blk.later (Blk.alloc (Blk.new _ _ _) _) a
 have K1:Hid (Blk w1 (w.heap.size+1) 125 #[.int .i64 x.kind,.string x.pattern.rel,.slice d x.pattern.args.length f]):=Blk.later (Blk.new_at yG) a
 have f0:=K0.out.at (i:=0) rfl
 have r0:=K1.out.at (i:=0) rfl
 have f1:=K0.out.at (i:=1) rfl
 have r1:=K1.out.at (i:=1) rfl
 have f2:=K0.out.at (i:=2) rfl
 have r2:=K1.out.at (i:=2) rfl
 clear a
 have hz1:=B1.out.size
 go_wp2_with fail
 go_ret
 exact ⟨rfl,(by repeat (first | refine Below.setCell ?_ (by dsimp only;omega) _ | refine Below.alloc ?_ yK _ | exact B1.out))⟩
theorem Zn7 (A B:Option Addr) (n c d:Nat) (ds:List Zu) (L M:List Nat) (w:World) (hn:n=ds.length) (hm:n≤9223372036854775807) (h1:Sli Yp w A ds L) (h2:Sli Yp w B ds M):
  Calls prog 134 #[.slice A n c,.slice B n d] w (Qw w):=by
 have H1:=yS h1
 have H2:=yS h2
 have HN:=yS hn
 clear h1 h2 hn
 have hne:((n:Int) != n)=false:=by simp
 go_enter func134,ntmps134
 go_wp2
 go_loopw [5] (fun i wr=>∃(k:Nat),k≤n∧i=.int .i64 k∧Hid (Below w.heap.size w wr)) (fun i _=>n - (intOf i).toNat)
 case atStart=>exact ⟨0,A4 _,rfl,Below.refl _ _⟩
 case round=>
  obtain ⟨k,hk,rfl,HB⟩:=hrel
  by_cases hlt:k<n
  ·have o:k<ds.length:=by have:=HN.out;omega
   obtain ⟨b,off,cs,Lk,rfl,t,u,g,hc⟩:=H1.out.at_ o
   obtain ⟨b',a,cs',Mk,rfl,v,z,f,hc'⟩:=H2.out.at_ o
   have l:b<w.heap.size:=H1.out.lt b t
   have j:b'<w.heap.size:=H2.out.lt b' v
   have HR:=yS (Yp.keep g (Zy HB.out (fun y m=>H1.out.lt y (u y m))))
   have HR':=yS (Yp.keep f (Zy HB.out (fun y m=>H2.out.lt y (z y m))))
   generalize ds[k]=x at *
   obtain ⟨aA1,ac1,rfl⟩:=ZaY g
   obtain ⟨bA1,bc1,rfl⟩:=ZaY f
   have q0:wr.cell? ⟨b,off+k * 3,none⟩=_:=(HB.out.cell (p:=⟨b,off+(k * 3+0),none⟩) l).trans (hc 0 _ rfl)
   have p0:wr.cell? ⟨b',a+k * 3,none⟩=_:=(HB.out.cell (p:=⟨b',a+(k * 3+0),none⟩) j).trans (hc' 0 _ rfl)
   have q1:wr.cell? ⟨b,off+k * 3+1,none⟩=_:=(HB.out.cell (p:=⟨b,off+(k * 3+1),none⟩) l).trans (hc 1 _ rfl)
   have p1:wr.cell? ⟨b',a+k * 3+1,none⟩=_:=(HB.out.cell (p:=⟨b',a+(k * 3+1),none⟩) j).trans (hc' 1 _ rfl)
   have q2:wr.cell? ⟨b,off+k * 3+2,none⟩=_:=(HB.out.cell (p:=⟨b,off+(k * 3+2),none⟩) l).trans (hc 2 _ rfl)
   have p2:wr.cell? ⟨b',a+k * 3+2,none⟩=_:=(HB.out.cell (p:=⟨b',a+(k * 3+2),none⟩) j).trans (hc' 2 _ rfl)
   clear hc hc' g f
   have k0:(0:Int)≤k:=by omega
   have k1:(k:Int)<n:=by omega
   go_wp2_with fail
   go_still_tail 8,yO
   change wpList _ _ _ _ _ wr.drew
   go_wp2_with (go_at_call 200;(refine (ZqP _ _ x Lk Mk wr.drew (Yp.keep HR.out (fun _ _=>rfl)) (Yp.keep HR'.out (fun _ _=>rfl))).mono ?_;rintro e w1 ⟨rfl,q⟩;have HB1:=yS (HB.out.drew.trans (q.mono HB.out.size));clear q))
   go_roundw
   case rel=>exact ⟨k+1,yE,by go_num,HB1.out⟩
   case measure=>simp [intOf];omega
  ·go_wp2
   go_ret
   exact ⟨rfl,HB.out⟩
theorem Ztn (cs ds:List Value) (x:Zg) (L M:List Nat) (w:World) (h1:XW.rep w cs x L) (h2:XW.rep w ds x M):
  Calls prog 73 #[.agg cs.toArray,.agg ds.toArray] w (Qw w):=by
 obtain ⟨c,d,u,f,g,v,rfl,_ahL,at0,an1,y,j,an2,z,k⟩:=h1
 obtain ⟨l,m,A,o,p,B,rfl,_bhL,bt0,bn1,C,q,bn2,D,t⟩:=h2
 unfold maxLen at y C z D
 have SA1:=yS j
 have SB1:=yS q
 clear j q
 have SA2:=yS k
 have SB2:=yS t
 clear k t
 go_enter func73,ntmps73
 go_wp2_with fail
 refine (Zls c l _ d m x.cond u A _ rfl yE (SA1.out.below yI) (SB1.out.below yI)).mono ?_
 rintro e w1 ⟨rfl,a⟩
 have B1:Hid (Below w.heap.size w w1):=Below.trans yI (a.mono yK)
 have K0:Hid (Blk w1 w.heap.size 76 #[.string x.name,.int .i64 x.priority,.slice c x.cond.length d,.slice f x.thn.length g]):=Blk.later (Blk.alloc (Blk.new _ _ _) _) a
 have K1:Hid (Blk w1 (w.heap.size+1) 76 #[.string x.name,.int .i64 x.priority,.slice l x.cond.length m,.slice o x.thn.length p]):=Blk.later (Blk.new_at yG) a
 have f0:=K0.out.at (i:=0) rfl
 have r0:=K1.out.at (i:=0) rfl
 have f1:=K0.out.at (i:=1) rfl
 have r1:=K1.out.at (i:=1) rfl
 have f2:=K0.out.at (i:=2) rfl
 have r2:=K1.out.at (i:=2) rfl
 have f3:=K0.out.at (i:=3) rfl
 have r3:=K1.out.at (i:=3) rfl
 clear a
 have hz1:=B1.out.size
 go_wp2_with fail
 refine (Zn7 f o _ g p x.thn v B _ rfl yE (SA2.out.below (by repeat (first | refine Below.setCell ?_ (by dsimp only;omega) _ | refine Below.alloc ?_ yK _ | exact B1.out))) (SB2.out.below (by repeat (first | refine Below.setCell ?_ (by dsimp only;omega) _ | refine Below.alloc ?_ yK _ | exact B1.out)))).mono ?_
 rintro e w2 ⟨rfl,b⟩
 have B2:Hid (Below w.heap.size w w2):=Below.trans (by repeat (first | refine Below.setCell ?_ (by dsimp only;omega) _ | refine Below.alloc ?_ yK _ | exact B1.out)) (b.mono yK)
 have K0:=yS (K0.out.later b)
 have K1:=yS (K1.out.later b)
 clear f0 r0 f1 r1 f2 r2 f3 r3
 have f0:=K0.out.at (i:=0) rfl
 have r0:=K1.out.at (i:=0) rfl
 have f1:=K0.out.at (i:=1) rfl
 have r1:=K1.out.at (i:=1) rfl
 have f2:=K0.out.at (i:=2) rfl
 have r2:=K1.out.at (i:=2) rfl
 have f3:=K0.out.at (i:=3) rfl
 have r3:=K1.out.at (i:=3) rfl
 clear b
 have hz2:=B2.out.size
 go_wp2_with fail
 go_ret
 exact ⟨rfl,(by repeat (first | refine Below.setCell ?_ (by dsimp only;omega) _ | refine Below.alloc ?_ yK _ | exact B2.out))⟩
theorem Zss (A B:Option Addr) (n c d:Nat) (ds:List Zg) (L M:List Nat) (w:World) (hn:n=ds.length) (hm:n≤9223372036854775807) (h1:Sli XW w A ds L) (h2:Sli XW w B ds M):
  Calls prog 18 #[.slice A n c,.slice B n d] w (Qw w):=by
 have H1:=yS h1
 have H2:=yS h2
 have HN:=yS hn
 clear h1 h2 hn
 have hne:((n:Int) != n)=false:=by simp
 go_enter func18,ntmps18
 go_wp2
 go_loopw [5] (fun i wr=>∃(k:Nat),k≤n∧i=.int .i64 k∧Hid (Below w.heap.size w wr)) (fun i _=>n - (intOf i).toNat)
 case atStart=>exact ⟨0,A4 _,rfl,Below.refl _ _⟩
 case round=>
  obtain ⟨k,hk,rfl,HB⟩:=hrel
  by_cases hlt:k<n
  ·have o:k<ds.length:=by have:=HN.out;omega
   obtain ⟨b,off,cs,Lk,rfl,t,u,j,hc⟩:=H1.out.at_ o
   obtain ⟨b',a,cs',Mk,rfl,v,z,f,hc'⟩:=H2.out.at_ o
   have l:b<w.heap.size:=H1.out.lt b t
   have g:b'<w.heap.size:=H2.out.lt b' v
   have HR:=yS (XW.keep j (Zy HB.out (fun y m=>H1.out.lt y (u y m))))
   have HR':=yS (XW.keep f (Zy HB.out (fun y m=>H2.out.lt y (z y m))))
   generalize ds[k]=x at *
   obtain ⟨aA1,ac1,aA2,ac2,rfl⟩:=Zc2 j
   obtain ⟨bA1,bc1,bA2,bc2,rfl⟩:=Zc2 f
   have q0:wr.cell? ⟨b,off+k * 4,none⟩=_:=(HB.out.cell (p:=⟨b,off+(k * 4+0),none⟩) l).trans (hc 0 _ rfl)
   have p0:wr.cell? ⟨b',a+k * 4,none⟩=_:=(HB.out.cell (p:=⟨b',a+(k * 4+0),none⟩) g).trans (hc' 0 _ rfl)
   have q1:wr.cell? ⟨b,off+k * 4+1,none⟩=_:=(HB.out.cell (p:=⟨b,off+(k * 4+1),none⟩) l).trans (hc 1 _ rfl)
   have p1:wr.cell? ⟨b',a+k * 4+1,none⟩=_:=(HB.out.cell (p:=⟨b',a+(k * 4+1),none⟩) g).trans (hc' 1 _ rfl)
   have q2:wr.cell? ⟨b,off+k * 4+2,none⟩=_:=(HB.out.cell (p:=⟨b,off+(k * 4+2),none⟩) l).trans (hc 2 _ rfl)
   have p2:wr.cell? ⟨b',a+k * 4+2,none⟩=_:=(HB.out.cell (p:=⟨b',a+(k * 4+2),none⟩) g).trans (hc' 2 _ rfl)
   have q3:wr.cell? ⟨b,off+k * 4+3,none⟩=_:=(HB.out.cell (p:=⟨b,off+(k * 4+3),none⟩) l).trans (hc 3 _ rfl)
   have p3:wr.cell? ⟨b',a+k * 4+3,none⟩=_:=(HB.out.cell (p:=⟨b',a+(k * 4+3),none⟩) g).trans (hc' 3 _ rfl)
   clear hc hc' j f
   have k0:(0:Int)≤k:=by omega
   have k1:(k:Int)<n:=by omega
   go_wp2_with fail
   go_still_tail 8,yO
   change wpList _ _ _ _ _ wr.drew
   go_wp2_with (go_at_call 73;(refine (Ztn _ _ x Lk Mk wr.drew (XW.keep HR.out (fun _ _=>rfl)) (XW.keep HR'.out (fun _ _=>rfl))).mono ?_;rintro e w1 ⟨rfl,q⟩;have HB1:=yS (HB.out.drew.trans (q.mono HB.out.size));clear q))
   go_roundw
   case rel=>exact ⟨k+1,yE,by go_num,HB1.out⟩
   case measure=>simp [intOf];omega
  ·go_wp2
   go_ret
   exact ⟨rfl,HB.out⟩
theorem Zgi (A B:Option Addr) (n c d:Nat) (ds:List (List Zi)) (L M:List Nat) (w:World) (hn:n=ds.length) (hm:n≤9223372036854775807) (h1:Sli (Zw Yd) w A ds L) (h2:Sli (Zw Yd) w B ds M):
  Calls prog 17 #[.slice A n c,.slice B n d] w (Qw w):=by
 have H1:=yS h1
 have H2:=yS h2
 have HN:=yS hn
 clear h1 h2 hn
 have hne:((n:Int) != n)=false:=by simp
 go_enter func17,ntmps17
 go_wp2
 go_loopw [5] (fun i wr=>∃(k:Nat),k≤n∧i=.int .i64 k∧Hid (Below w.heap.size w wr)) (fun i _=>n - (intOf i).toNat)
 case atStart=>exact ⟨0,A4 _,rfl,Below.refl _ _⟩
 case round=>
  obtain ⟨k,hk,rfl,HB⟩:=hrel
  by_cases hlt:k<n
  ·have f:k<ds.length:=by have:=HN.out;omega
   obtain ⟨b,off,cs,Lk,rfl,z,C,g,hc⟩:=H1.out.at_ f
   obtain ⟨b',j,cs',Mk,rfl,D,E,a,hc'⟩:=H2.out.at_ f
   have F:b<w.heap.size:=H1.out.lt b z
   have l:b'<w.heap.size:=H2.out.lt b' D
   generalize ds[k]=x at *
   obtain ⟨o,G,rfl,an1,H,q⟩:=g
   obtain ⟨t,I,rfl,bn1,J,u⟩:=a
   unfold maxLen at H J
   have HR:Hid (Sli Yd wr o x Lk):=q.keep (Zy HB.out (fun y m=>H1.out.lt y (C y m)))
   have HR':Hid (Sli Yd wr t x Mk):=u.keep (Zy HB.out (fun y m=>H2.out.lt y (E y m)))
   have q0:=(HB.out.cell (p:=⟨b,off+(k * 1+0),none⟩) F).trans (hc 0 _ rfl)
   have p0:=(HB.out.cell (p:=⟨b',j+(k * 1+0),none⟩) l).trans (hc' 0 _ rfl)
   simp only[AM,A3] at q0 p0
   clear hc hc' q u
   have k0:(0:Int)≤k:=by omega
   have k1:(k:Int)<n:=by omega
   go_wp2_with fail
   go_still_tail 8,yO
   change wpList _ _ _ _ _ wr.drew
   go_wp2_with (go_at_call 72;(refine (ZsP o t _ G I x Lk Mk wr.drew rfl yE (HR.out.keep (fun _ _=>rfl)) (HR'.out.keep (fun _ _=>rfl))).mono ?_;rintro e w1 ⟨rfl,v⟩;have HB1:=yS (HB.out.drew.trans (v.mono HB.out.size));clear v))
   go_roundw
   case rel=>exact ⟨k+1,yE,by go_num,HB1.out⟩
   case measure=>simp [intOf];omega
  ·go_wp2
   go_ret
   exact ⟨rfl,HB.out⟩
end
section
open Go.RowKit
theorem Zdb (A:Option Addr) (n c:Nat) (ds:List ByteArray) (L:List Nat) (base:Nat) (k:Int) (w:World) (hn:n=ds.length) (C:1≤k) (l:Z5 k ds≤4611686018427387904) (h:Got (Zw Zde) base [.slice A n c] ds L w):
  Calls prog 38 #[.slice A n c,.int .i64 k] w fun e w'=>e=.returned (.int .i64 (Z5 k ds))∧Got (Zw Zde) base [.slice A n c] (Xh k ds) L w'∧XB L w w':=by
 have H:=yS h
 have HN:=yS hn
 have hk1':k+n≤4611686018427387904:=by simp only[Z5] at l;omega
 clear h hn l
 go_enter func38,ntmps38
 go_wp2
 go_loopw [1,5] (fun q j wr=>∃(i:Nat) (kk:Int) (D:List ByteArray),i≤n∧j=.int .i64 i∧q=.int .i64 kk∧1≤kk∧kk+(n - i:Nat)≤4611686018427387904∧Hid (kk=k+i∧D.length=i∧D++Xh kk (ds.drop i)=Xh k ds)∧Hid (Got (Zw Zde) base [.slice A n c] (D++ds.drop i) L wr)∧Hid (XB L w wr)) (fun _ j _=>n - (intOf j).toNat)
 case atStart=>exact ⟨0,k,[],A4 _,rfl,rfl,C,yE,⟨yE,rfl,rfl⟩,H.out,XB.refl _ _⟩
 case round=>
  obtain ⟨i,kk,D,hi,rfl,rfl,h1,h2,HD,HG,HO⟩:=hrel
  by_cases hlt:i<n
  ·have hil:i<ds.length:=by have:=HN.out;omega
   obtain ⟨E,o,p⟩:=HD.out
   have F:i<(D++ds.drop i).length:=by simp;omega
   obtain ⟨b,off,cs,Lk,rfl,G,t,d,u,a,g⟩:=HG.out.focus F
   obtain ⟨rfl,v,_⟩:=u
   have HEl:=yS (Zcl.start (m:=1) a rfl d)
   have f:Hid (ds.drop i=ds[i]::ds.drop (i+1)):=A6 _
   have HPut:=yS g
   have HOwn:=yS d
   have HLk:=yS t
   have HLe:=yS v
   have HDn:Hid (kk+1=k+(i+1:Nat)∧(D++[mTx kk]).length=i+1∧(D++[mTx kk])++Xh (kk+1) (ds.drop (i+1))=Xh k ds):=by
    refine ⟨yE,by simp [o],?_⟩
    rw [←p,f.out];simp [Xh]
   have x:Hid ((D++ds.drop i).set i (mTx kk)=(D++[mTx kk])++ds.drop (i+1)):=by
    rw [Hid,AN _ _ yE,show i - D.length=0 by omega,f.out,AO];simp
   clear g d t a E o p v
   simp only[show Zde.size=1 from rfl,AM] at HEl HPut
   go_wp2_with (go_at_call 75;refine (YR _ _ yE yE).mono ?_;rintro e w1 ⟨rfl,z⟩;have E1:=yS (HEl.out.later z);have q1:=E1.out.at (j:=0) rfl;have z1:=E1.out.frozen (off+i);clear z;simp only[A3] at q1)
   have E2:=yS (E1.out.set 0 yE (.string (mTx kk)))
   have B:=yS (X2 HOwn.out E2.out.plain E2.out.only (by rw [HLe.out];simp))
   have HGn:=yS (HPut.out _ _ (mTx kk) E2.out.only E2.out.cells E2.out.rest (by rw [HLe.out];exact ⟨rfl,rfl,ZbR _ yE⟩) B.out)
   have HOn:=yS (HO.out.trans (E2.out.only.mono (fun y m=>by rcases AD.1 m with rfl | m;exact G;exact HLk.out y m)))
   rw [x.out] at HGn
   simp only[A3] at HGn HOn
   clear E2 B HPut
   go_wp2_with fail
   go_roundw
   case rel=>exact ⟨i+1,kk+1,_,yE,by go_num,rfl,yE,yE,HDn,HGn,HOn⟩
   case measure=>simp [intOf];omega
  ·obtain rfl:i=n:=by omega
   have hf:Hid (Z5 k ds=kk∧D=Xh k ds):=by
    obtain ⟨h1,h2,h3⟩:=HD.out
    have e:ds.drop i=[]:=A9 (by have:=HN.out;omega)
    rw [e] at h3
    simp [Xh] at h3
    exact ⟨by have:=HN.out;simp only[Z5];omega,h3⟩
   have e:Hid (ds.drop i=[]):=A9 (by have:=HN.out;omega)
   rw [e.out,AF] at HG
   go_wp2
   go_ret
   exact ⟨YK hf.out.1.symm,by rw [←hf.out.2];exact HG.out,HO.out⟩
theorem Zod (A:Option Addr) (n c:Nat) (ds:List Zc) (L:List Nat) (base:Nat) (k:Int) (w:World) (hn:n=ds.length) (hm:n≤9223372036854775807) (P:1≤k) (v:YG k ds≤4611686018427387904) (h:Got (Zw Z8) base [.slice A n c] ds L w):
  Calls prog 22 #[.slice A n c,.int .i64 k] w fun e w'=>e=.returned (.int .i64 (YG k ds))∧Got (Zw Z8) base [.slice A n c] (Zdr k ds) L w'∧XB L w w':=by
 have H:=yS h
 have HN:=yS hn
 have HK:=yS v
 clear h hn v
 go_enter func22,ntmps22
 go_wp2
 go_loopw [1,5] (fun q j wr=>∃(i:Nat) (kk:Int) (D:List Zc),i≤n∧j=.int .i64 i∧q=.int .i64 kk∧1≤kk∧Hid (YG kk (ds.drop i)=YG k ds∧D.length=i∧D++Zdr kk (ds.drop i)=Zdr k ds)∧Hid (Got (Zw Z8) base [.slice A n c] (D++ds.drop i) L wr)∧Hid (XB L w wr)) (fun _ j _=>n - (intOf j).toNat)
 case atStart=>exact ⟨0,k,[],A4 _,rfl,rfl,P,⟨rfl,rfl,rfl⟩,H.out,XB.refl _ _⟩
 case round=>
  obtain ⟨i,kk,D,hi,rfl,rfl,h1,HD,HG,HO⟩:=hrel
  by_cases hlt:i<n
  ·have hil:i<ds.length:=by have:=HN.out;omega
   obtain ⟨l,t,z⟩:=HD.out
   have Q:i<(D++ds.drop i).length:=by simp;omega
   obtain ⟨b,off,cs,Lk,rfl,R,B,d,g,f,o⟩:=HG.out.focus Q
   have a:Hid (ds.drop i=ds[i]::ds.drop (i+1)):=A6 _
   have C:(D++ds.drop i)[i]=ds[i]:=by
    rw [AQ yE];simp [t]
   rw [C] at g
   clear C
   generalize ds[i]=x at g a
   have S:Hid (X1 kk x≤4611686018427387904):=by
    have:=Zkc (X1 kk x) (ds.drop (i+1))
    rw [a.out] at l
    have hk:=HK.out
    rw [←l] at hk
    exact AB this hk
   have E:=S.out
   have F:=Zlt kk x
   unfold X1 at E F
   have HDn:Hid (YG (X1 kk x) (ds.drop (i+1))=YG k ds∧(D++[Zi3 kk x]).length=i+1∧(D++[Zi3 kk x])++Zdr (X1 kk x) (ds.drop (i+1))=Zdr k ds):=by
    refine ⟨by rw [←l,a.out];rfl,by simp [t],?_⟩
    rw [←z,a.out];simp [Zdr]
   have G:Hid ((D++ds.drop i).set i (Zi3 kk x)=(D++[Zi3 kk x])++ds.drop (i+1)):=by
    rw [Hid,AN _ _ yE,show i - D.length=0 by omega,a.out,AO];simp
   obtain ⟨A1,c1,L1,rfl,hLL,t0,n1,m1,s1⟩:=g
   unfold maxLen at m1
   subst Lk
   have HEl:=yS (Zcl.start (m:=2) f rfl d)
   have hbn:=yS d.head
   have G1:Hid (Got (Zw Zde) base [.slice A1 x.args.length c1] x.args L1 wr):=⟨⟨A1,c1,rfl,n1,(by unfold maxLen;omega),s1⟩,d.tail⟩
   have I:Hid (b∉L1):=fun m=>d.head (by simp [m])
   have T:Hid (∀y∈L1,y∈L1):=fun y m=>by simp [m]
   clear s1
   have HPut:=yS o
   have HOwn:=yS d
   have HLk:=yS B
   clear o d B f l t z
   simp only[show Z8.size=2 from rfl] at HEl HPut
   have q0:=HEl.out.at (j:=0) rfl
   have z0:=HEl.out.frozen (off+i * 2)
   have q1:=HEl.out.at (j:=1) rfl
   have z1:=HEl.out.frozen (off+i * 2+1)
   simp only[A3] at q0
   have gm0:(0:Int)≤0:=by omega
   have mono_x_args:=Qm (kk+1) x.args
   go_wp2_with fail
   refine (YR _ _ yE yE).mono ?_
   rintro e w1 ⟨rfl,u⟩
   have HEl:=yS (HEl.out.later u)
   have G1:=yS (G1.out.later u)
   clear u
   clear q0 z0 q1 z1
   have q0:=HEl.out.at (j:=0) rfl
   have z0:=HEl.out.frozen (off+i * 2)
   have q1:=HEl.out.at (j:=1) rfl
   have z1:=HEl.out.frozen (off+i * 2+1)
   simp only[A3] at q0
   go_wp2_with fail
   have G1:=yS (G1.out.setFar (p:=⟨b,off+i * 2+0,none⟩) I.out (.string (mTx (kk))))
   refine (Zdb A1 _ c1 x.args L1 base _ _ rfl yE yE G1.out).mono ?_
   rintro e w2 ⟨rfl,g2,J⟩
   have HEl:=yS ((HEl.out.set 0 yE (.string (mTx (kk)))).marked J T.out I.out)
   have G1:=yS g2
   clear g2 J
   clear q0 z0 q1 z1
   have q0:=HEl.out.at (j:=0) rfl
   have z0:=HEl.out.frozen (off+i * 2)
   have q1:=HEl.out.at (j:=1) rfl
   have z1:=HEl.out.frozen (off+i * 2+1)
   simp only[A3] at q0
   obtain ⟨K,M,N⟩:=ZH G1.out.rep
   have O:=yS (X2 HOwn.out HEl.out.plain HEl.out.only (fun y m=>by (try simp only[A5] at m)<;>(exact G1.out.own.plain y m)))
   have HGn:=yS (HPut.out _ _ (Zi3 kk x) HEl.out.only HEl.out.cells HEl.out.rest ⟨A1,c1,L1,by simp [Zi3,Zff],rfl,ZbR _ yE,K,M,N⟩ O.out)
   have HOn:=yS (HO.out.trans (HEl.out.only.mono (fun y m=>by rcases AD.1 m with rfl | m;exact R;exact HLk.out y m)))
   rw [G.out] at HGn
   try simp only[A3] at HGn HOn
   clear HEl O HPut G1 K M N
   go_wp2_with fail
   go_roundw
   case rel=>exact ⟨i+1,X1 kk x,_,yE,by go_num,rfl,by unfold X1;omega,HDn,HGn,HOn⟩
   case measure=>simp [intOf];omega
  ·obtain rfl:i=n:=by omega
   have e:Hid (ds.drop i=[]):=A9 (by have:=HN.out;omega)
   have hf:Hid (YG k ds=kk∧D=Zdr k ds):=by
    obtain ⟨h1,h2,h3⟩:=HD.out
    rw [e.out] at h3 h1
    simp [Zdr] at h3
    exact ⟨h1.symm,h3⟩
   rw [e.out,AF] at HG
   go_wp2
   go_ret
   exact ⟨YK hf.out.1.symm,by rw [←hf.out.2];exact HG.out,HO.out⟩
theorem ZoF (A:Option Addr) (n c:Nat) (ds:List Zi) (L:List Nat) (base:Nat) (k:Int) (w:World) (hn:n=ds.length) (hm:n≤9223372036854775807) (J:1≤k) (t:ZN k ds≤4611686018427387904) (h:Got (Zw Yd) base [.slice A n c] ds L w):
  Calls prog 77 #[.slice A n c,.int .i64 k] w fun e w'=>e=.returned (.int .i64 (ZN k ds))∧Got (Zw Yd) base [.slice A n c] (Yz k ds) L w'∧XB L w w':=by
 have H:=yS h
 have HN:=yS hn
 have HK:=yS t
 clear h hn t
 go_enter func77,ntmps77
 go_wp2
 go_loopw [1,5] (fun q j wr=>∃(i:Nat) (kk:Int) (D:List Zi),i≤n∧j=.int .i64 i∧q=.int .i64 kk∧1≤kk∧Hid (ZN kk (ds.drop i)=ZN k ds∧D.length=i∧D++Yz kk (ds.drop i)=Yz k ds)∧Hid (Got (Zw Yd) base [.slice A n c] (D++ds.drop i) L wr)∧Hid (XB L w wr)) (fun _ j _=>n - (intOf j).toNat)
 case atStart=>exact ⟨0,k,[],A4 _,rfl,rfl,J,⟨rfl,rfl,rfl⟩,H.out,XB.refl _ _⟩
 case round=>
  obtain ⟨i,kk,D,hi,rfl,rfl,h1,HD,HG,HO⟩:=hrel
  by_cases hlt:i<n
  ·have hil:i<ds.length:=by have:=HN.out;omega
   obtain ⟨l,p,u⟩:=HD.out
   have K:i<(D++ds.drop i).length:=by simp;omega
   obtain ⟨b,off,cs,Lk,rfl,M,v,d,g,f,o⟩:=HG.out.focus K
   have a:Hid (ds.drop i=ds[i]::ds.drop (i+1)):=A6 _
   have z:(D++ds.drop i)[i]=ds[i]:=by
    rw [AQ yE];simp [p]
   rw [z] at g
   clear z
   generalize ds[i]=x at g a
   have N:Hid (Yx kk x≤4611686018427387904):=by
    have:=QK (Yx kk x) (ds.drop (i+1))
    rw [a.out] at l
    have hk:=HK.out
    rw [←l] at hk
    exact AB this hk
   have B:=N.out
   have C:=ZgU kk x
   unfold Yx at B C
   have HDn:Hid (ZN (Yx kk x) (ds.drop (i+1))=ZN k ds∧(D++[Zi8 kk x]).length=i+1∧(D++[Zi8 kk x])++Yz (Yx kk x) (ds.drop (i+1))=Yz k ds):=by
    refine ⟨by rw [←l,a.out];rfl,by simp [p],?_⟩
    rw [←u,a.out];simp [Yz]
   have E:Hid ((D++ds.drop i).set i (Zi8 kk x)=(D++[Zi8 kk x])++ds.drop (i+1)):=by
    rw [Hid,AN _ _ yE,show i - D.length=0 by omega,a.out,AO];simp
   obtain ⟨rfl,O,t0,t1⟩:=g
   subst O
   have HEl:=yS (Zcl.start (m:=2) f rfl d)
   have hbn:=yS d.head
   have HPut:=yS o
   have HOwn:=yS d
   have HLk:=yS v
   clear o d v f l p u
   simp only[show Yd.size=2 from rfl] at HEl HPut
   have q0:=HEl.out.at (j:=0) rfl
   have z0:=HEl.out.frozen (off+i * 2)
   have q1:=HEl.out.at (j:=1) rfl
   have z1:=HEl.out.frozen (off+i * 2+1)
   simp only[A3] at q0
   have gm0:(0:Int)≤0:=by omega
   go_wp2_with fail
   refine (YR _ _ yE yE).mono ?_
   rintro e w1 ⟨rfl,F⟩
   have HEl:=yS (HEl.out.later F)
   clear F
   clear q0 z0 q1 z1
   have q0:=HEl.out.at (j:=0) rfl
   have z0:=HEl.out.frozen (off+i * 2)
   have q1:=HEl.out.at (j:=1) rfl
   have z1:=HEl.out.frozen (off+i * 2+1)
   simp only[A3] at q0
   go_wp2_with fail
   refine (YR _ _ yE yE).mono ?_
   rintro e w2 ⟨rfl,G⟩
   have HEl:=yS ((HEl.out.set 0 yE (.string (mTx (kk)))).later G)
   clear G
   clear q0 z0 q1 z1
   have q0:=HEl.out.at (j:=0) rfl
   have z0:=HEl.out.frozen (off+i * 2)
   have q1:=HEl.out.at (j:=1) rfl
   have z1:=HEl.out.frozen (off+i * 2+1)
   simp only[A3] at q0
   have HEl:=yS (HEl.out.set 1 yE (.string (mTx (kk+1))))
   have I:=yS (X2 HOwn.out HEl.out.plain HEl.out.only (fun y m=>by (try simp only[A5,AW] at m)<;>(exact m.elim)))
   have HGn:=yS (HPut.out _ _ (Zi8 kk x) HEl.out.only HEl.out.cells HEl.out.rest ⟨by simp [Zi8],rfl,ZbR _ yE,ZbR _ yE⟩ I.out)
   have HOn:=yS (HO.out.trans (HEl.out.only.mono (fun y m=>by rcases AD.1 m with rfl | m;exact M;exact HLk.out y m)))
   rw [E.out] at HGn
   try simp only[A3] at HGn HOn
   clear HEl I HPut
   go_wp2_with fail
   go_roundw
   case rel=>exact ⟨i+1,Yx kk x,_,yE,by go_num,rfl,by unfold Yx;omega,HDn,HGn,HOn⟩
   case measure=>simp [intOf];omega
  ·obtain rfl:i=n:=by omega
   have e:Hid (ds.drop i=[]):=A9 (by have:=HN.out;omega)
   have hf:Hid (ZN k ds=kk∧D=Yz k ds):=by
    obtain ⟨h1,h2,h3⟩:=HD.out
    rw [e.out] at h3 h1
    simp [Yz] at h3
    exact ⟨h1.symm,h3⟩
   rw [e.out,AF] at HG
   go_wp2
   go_ret
   exact ⟨YK hf.out.1.symm,by rw [←hf.out.2];exact HG.out,HO.out⟩
theorem Zik (A:Option Addr) (n c:Nat) (ds:List Zl) (L:List Nat) (base:Nat) (k:Int) (w:World) (hn:n=ds.length) (hm:n≤9223372036854775807) (R:1≤k) (C:Yq k ds≤4611686018427387904) (h:Got (Zw YL) base [.slice A n c] ds L w):
  Calls prog 23 #[.slice A n c,.int .i64 k] w fun e w'=>e=.returned (.int .i64 (Yq k ds))∧Got (Zw YL) base [.slice A n c] (Za2 k ds) L w'∧XB L w w':=by
 have H:=yS h
 have HN:=yS hn
 have HK:=yS C
 clear h hn C
 go_enter func23,ntmps23
 go_wp2
 go_loopw [1,5] (fun q j wr=>∃(i:Nat) (kk:Int) (D:List Zl),i≤n∧j=.int .i64 i∧q=.int .i64 kk∧1≤kk∧Hid (Yq kk (ds.drop i)=Yq k ds∧D.length=i∧D++Za2 kk (ds.drop i)=Za2 k ds)∧Hid (Got (Zw YL) base [.slice A n c] (D++ds.drop i) L wr)∧Hid (XB L w wr)) (fun _ j _=>n - (intOf j).toNat)
 case atStart=>exact ⟨0,k,[],A4 _,rfl,rfl,R,⟨rfl,rfl,rfl⟩,H.out,XB.refl _ _⟩
 case round=>
  obtain ⟨i,kk,D,hi,rfl,rfl,h1,HD,HG,HO⟩:=hrel
  by_cases hlt:i<n
  ·have hil:i<ds.length:=by have:=HN.out;omega
   obtain ⟨o,u,E⟩:=HD.out
   have S:i<(D++ds.drop i).length:=by simp;omega
   obtain ⟨b,off,cs,Lk,rfl,T,F,d,g,f,t⟩:=HG.out.focus S
   have a:Hid (ds.drop i=ds[i]::ds.drop (i+1)):=A6 _
   have G:(D++ds.drop i)[i]=ds[i]:=by
    rw [AQ yE];simp [u]
   rw [G] at g
   clear G
   generalize ds[i]=x at g a
   have U:Hid (X0 kk x≤4611686018427387904):=by
    have:=Zdv (X0 kk x) (ds.drop (i+1))
    rw [a.out] at o
    have hk:=HK.out
    rw [←o] at hk
    exact AB this hk
   have I:=U.out
   have J:=Zlq kk x
   unfold X0 at I J
   have HDn:Hid (Yq (X0 kk x) (ds.drop (i+1))=Yq k ds∧(D++[Zjg kk x]).length=i+1∧(D++[Zjg kk x])++Za2 (X0 kk x) (ds.drop (i+1))=Za2 k ds):=by
    refine ⟨by rw [←o,a.out];rfl,by simp [u],?_⟩
    rw [←E,a.out];simp [Za2]
   have K:Hid ((D++ds.drop i).set i (Zjg kk x)=(D++[Zjg kk x])++ds.drop (i+1)):=by
    rw [Hid,AN _ _ yE,show i - D.length=0 by omega,a.out,AO];simp
   obtain ⟨A1,c1,L1,rfl,hLL,t0,t1,t2,n1,m1,s1⟩:=g
   unfold maxLen at m1
   subst Lk
   have HEl:=yS (Zcl.start (m:=5) f rfl d)
   have hbn:=yS d.head
   have G1:Hid (Got (Zw Zde) base [.slice A1 x.pattern.args.length c1] x.pattern.args L1 wr):=⟨⟨A1,c1,rfl,n1,(by unfold maxLen;omega),s1⟩,d.tail⟩
   have l:Hid (b∉L1):=fun m=>d.head (by simp [m])
   have V:Hid (∀y∈L1,y∈L1):=fun y m=>by simp [m]
   clear s1
   have HPut:=yS t
   have HOwn:=yS d
   have HLk:=yS F
   clear t d F f o u E
   simp only[show YL.size=5 from rfl] at HEl HPut
   have q0:=HEl.out.at (j:=0) rfl
   have z0:=HEl.out.frozen (off+i * 5)
   have q1:=HEl.out.at (j:=1) rfl
   have z1:=HEl.out.frozen (off+i * 5+1)
   have q2:=HEl.out.at (j:=2) rfl
   have z2:=HEl.out.frozen (off+i * 5+2)
   have q3:=HEl.out.at (j:=3) rfl
   have z3:=HEl.out.frozen (off+i * 5+3)
   have q4:=HEl.out.at (j:=4) rfl
   have z4:=HEl.out.frozen (off+i * 5+4)
   simp only[A3] at q0
   have gm0:(0:Int)≤0:=by omega
   have mono_x_pattern_args:=Qm (kk+1+1) x.pattern.args
   go_wp2_with fail
   refine (YR _ _ yE yE).mono ?_
   rintro e w1 ⟨rfl,v⟩
   have HEl:=yS ((HEl.out.set 0 yE (.int .i64 (kk))).later v)
   have G1:=yS ((G1.out.setFar (p:=⟨b,off+i * 5+0,none⟩) l.out (.int .i64 (kk))).later v)
   clear v
   clear q0 z0 q1 z1 q2 z2 q3 z3 q4 z4
   have q0:=HEl.out.at (j:=0) rfl
   have z0:=HEl.out.frozen (off+i * 5)
   have q1:=HEl.out.at (j:=1) rfl
   have z1:=HEl.out.frozen (off+i * 5+1)
   have q2:=HEl.out.at (j:=2) rfl
   have z2:=HEl.out.frozen (off+i * 5+2)
   have q3:=HEl.out.at (j:=3) rfl
   have z3:=HEl.out.frozen (off+i * 5+3)
   have q4:=HEl.out.at (j:=4) rfl
   have z4:=HEl.out.frozen (off+i * 5+4)
   simp only[A3] at q0
   go_wp2_with fail
   have G1:=yS (G1.out.setFar (p:=⟨b,off+i * 5+1,none⟩) l.out (.string (mTx (kk+1))))
   refine (Zdb A1 _ c1 x.pattern.args L1 base _ _ rfl yE yE G1.out).mono ?_
   rintro e w2 ⟨rfl,g2,M⟩
   have HEl:=yS ((HEl.out.set 1 yE (.string (mTx (kk+1)))).marked M V.out l.out)
   have G1:=yS g2
   clear g2 M
   clear q0 z0 q1 z1 q2 z2 q3 z3 q4 z4
   have q0:=HEl.out.at (j:=0) rfl
   have z0:=HEl.out.frozen (off+i * 5)
   have q1:=HEl.out.at (j:=1) rfl
   have z1:=HEl.out.frozen (off+i * 5+1)
   have q2:=HEl.out.at (j:=2) rfl
   have z2:=HEl.out.frozen (off+i * 5+2)
   have q3:=HEl.out.at (j:=3) rfl
   have z3:=HEl.out.frozen (off+i * 5+3)
   have q4:=HEl.out.at (j:=4) rfl
   have z4:=HEl.out.frozen (off+i * 5+4)
   simp only[A3] at q0
   go_wp2_with fail
   refine (YR _ _ yE yE).mono ?_
   rintro e w3 ⟨rfl,z⟩
   have HEl:=yS (HEl.out.later z)
   have G1:=yS (G1.out.later z)
   clear z
   clear q0 z0 q1 z1 q2 z2 q3 z3 q4 z4
   have q0:=HEl.out.at (j:=0) rfl
   have z0:=HEl.out.frozen (off+i * 5)
   have q1:=HEl.out.at (j:=1) rfl
   have z1:=HEl.out.frozen (off+i * 5+1)
   have q2:=HEl.out.at (j:=2) rfl
   have z2:=HEl.out.frozen (off+i * 5+2)
   have q3:=HEl.out.at (j:=3) rfl
   have z3:=HEl.out.frozen (off+i * 5+3)
   have q4:=HEl.out.at (j:=4) rfl
   have z4:=HEl.out.frozen (off+i * 5+4)
   simp only[A3] at q0
   go_wp2_with fail
   refine (YR _ _ yE yE).mono ?_
   rintro e w4 ⟨rfl,B⟩
   have HEl:=yS ((HEl.out.set 3 yE (.string (mTx (Z5 (kk+1+1) x.pattern.args)))).later B)
   have G1:=yS ((G1.out.setFar (p:=⟨b,off+i * 5+3,none⟩) l.out (.string (mTx (Z5 (kk+1+1) x.pattern.args)))).later B)
   clear B
   clear q0 z0 q1 z1 q2 z2 q3 z3 q4 z4
   have q0:=HEl.out.at (j:=0) rfl
   have z0:=HEl.out.frozen (off+i * 5)
   have q1:=HEl.out.at (j:=1) rfl
   have z1:=HEl.out.frozen (off+i * 5+1)
   have q2:=HEl.out.at (j:=2) rfl
   have z2:=HEl.out.frozen (off+i * 5+2)
   have q3:=HEl.out.at (j:=3) rfl
   have z3:=HEl.out.frozen (off+i * 5+3)
   have q4:=HEl.out.at (j:=4) rfl
   have z4:=HEl.out.frozen (off+i * 5+4)
   simp only[A3] at q0
   have HEl:=yS (HEl.out.set 4 yE (.string (mTx (Z5 (kk+1+1) x.pattern.args+1))))
   have G1:=yS (G1.out.setFar (p:=⟨b,off+i * 5+4,none⟩) l.out (.string (mTx (Z5 (kk+1+1) x.pattern.args+1))))
   obtain ⟨N,O,P⟩:=ZH G1.out.rep
   have Q:=yS (X2 HOwn.out HEl.out.plain HEl.out.only (fun y m=>by (try simp only[A5] at m)<;>(exact G1.out.own.plain y m)))
   have HGn:=yS (HPut.out _ _ (Zjg kk x) HEl.out.only HEl.out.cells HEl.out.rest ⟨A1,c1,L1,by simp [Zjg,Zff],rfl,ZbR _ yE,ZbR _ yE,ZbR _ yE,N,O,P⟩ Q.out)
   have HOn:=yS (HO.out.trans (HEl.out.only.mono (fun y m=>by rcases AD.1 m with rfl | m;exact T;exact HLk.out y m)))
   rw [K.out] at HGn
   try simp only[A3] at HGn HOn
   clear HEl Q HPut G1 N O P
   go_wp2_with fail
   go_roundw
   case rel=>exact ⟨i+1,X0 kk x,_,yE,by go_num,rfl,by unfold X0;omega,HDn,HGn,HOn⟩
   case measure=>simp [intOf];omega
  ·obtain rfl:i=n:=by omega
   have e:Hid (ds.drop i=[]):=A9 (by have:=HN.out;omega)
   have hf:Hid (Yq k ds=kk∧D=Za2 k ds):=by
    obtain ⟨h1,h2,h3⟩:=HD.out
    rw [e.out] at h3 h1
    simp [Za2] at h3
    exact ⟨h1.symm,h3⟩
   rw [e.out,AF] at HG
   go_wp2
   go_ret
   exact ⟨YK hf.out.1.symm,by rw [←hf.out.2];exact HG.out,HO.out⟩
theorem ZlM (A:Option Addr) (n c:Nat) (ds:List Zu) (L:List Nat) (base:Nat) (k:Int) (w:World) (hn:n=ds.length) (hm:n≤9223372036854775807) (P:1≤k) (z:YH k ds≤4611686018427387904) (h:Got (Zw Yp) base [.slice A n c] ds L w):
  Calls prog 76 #[.slice A n c,.int .i64 k] w fun e w'=>e=.returned (.int .i64 (YH k ds))∧Got (Zw Yp) base [.slice A n c] (XN k ds) L w'∧XB L w w':=by
 have H:=yS h
 have HN:=yS hn
 have HK:=yS z
 clear h hn z
 go_enter func76,ntmps76
 go_wp2
 go_loopw [1,5] (fun q j wr=>∃(i:Nat) (kk:Int) (D:List Zu),i≤n∧j=.int .i64 i∧q=.int .i64 kk∧1≤kk∧Hid (YH kk (ds.drop i)=YH k ds∧D.length=i∧D++XN kk (ds.drop i)=XN k ds)∧Hid (Got (Zw Yp) base [.slice A n c] (D++ds.drop i) L wr)∧Hid (XB L w wr)) (fun _ j _=>n - (intOf j).toNat)
 case atStart=>exact ⟨0,k,[],A4 _,rfl,rfl,P,⟨rfl,rfl,rfl⟩,H.out,XB.refl _ _⟩
 case round=>
  obtain ⟨i,kk,D,hi,rfl,rfl,h1,HD,HG,HO⟩:=hrel
  by_cases hlt:i<n
  ·have hil:i<ds.length:=by have:=HN.out;omega
   obtain ⟨l,t,B⟩:=HD.out
   have Q:i<(D++ds.drop i).length:=by simp;omega
   obtain ⟨b,off,cs,Lk,rfl,R,C,d,g,f,o⟩:=HG.out.focus Q
   have a:Hid (ds.drop i=ds[i]::ds.drop (i+1)):=A6 _
   have E:(D++ds.drop i)[i]=ds[i]:=by
    rw [AQ yE];simp [t]
   rw [E] at g
   clear E
   generalize ds[i]=x at g a
   have S:Hid (YS kk x≤4611686018427387904):=by
    have:=ZdJ (YS kk x) (ds.drop (i+1))
    rw [a.out] at l
    have hk:=HK.out
    rw [←l] at hk
    exact AB this hk
   have F:=S.out
   have G:=Ziq kk x
   unfold YS at F G
   have HDn:Hid (YH (YS kk x) (ds.drop (i+1))=YH k ds∧(D++[ZdL kk x]).length=i+1∧(D++[ZdL kk x])++XN (YS kk x) (ds.drop (i+1))=XN k ds):=by
    refine ⟨by rw [←l,a.out];rfl,by simp [t],?_⟩
    rw [←B,a.out];simp [XN]
   have I:Hid ((D++ds.drop i).set i (ZdL kk x)=(D++[ZdL kk x])++ds.drop (i+1)):=by
    rw [Hid,AN _ _ yE,show i - D.length=0 by omega,a.out,AO];simp
   obtain ⟨A1,c1,L1,rfl,hLL,t0,n1,m1,s1⟩:=g
   unfold maxLen at m1
   subst Lk
   have HEl:=yS (Zcl.start (m:=3) f rfl d)
   have hbn:=yS d.head
   have G1:Hid (Got (Zw Zde) base [.slice A1 x.pattern.args.length c1] x.pattern.args L1 wr):=⟨⟨A1,c1,rfl,n1,(by unfold maxLen;omega),s1⟩,d.tail⟩
   have u:Hid (b∉L1):=fun m=>d.head (by simp [m])
   have T:Hid (∀y∈L1,y∈L1):=fun y m=>by simp [m]
   clear s1
   have HPut:=yS o
   have HOwn:=yS d
   have HLk:=yS C
   clear o d C f l t B
   simp only[show Yp.size=3 from rfl] at HEl HPut
   have q0:=HEl.out.at (j:=0) rfl
   have z0:=HEl.out.frozen (off+i * 3)
   have q1:=HEl.out.at (j:=1) rfl
   have z1:=HEl.out.frozen (off+i * 3+1)
   have q2:=HEl.out.at (j:=2) rfl
   have z2:=HEl.out.frozen (off+i * 3+2)
   simp only[A3] at q0
   have gm0:(0:Int)≤0:=by omega
   have mono_x_pattern_args:=Qm (kk+1+1) x.pattern.args
   go_wp2_with fail
   refine (YR _ _ yE yE).mono ?_
   rintro e w1 ⟨rfl,v⟩
   have HEl:=yS ((HEl.out.set 0 yE (.int .i64 (kk))).later v)
   have G1:=yS ((G1.out.setFar (p:=⟨b,off+i * 3+0,none⟩) u.out (.int .i64 (kk))).later v)
   clear v
   clear q0 z0 q1 z1 q2 z2
   have q0:=HEl.out.at (j:=0) rfl
   have z0:=HEl.out.frozen (off+i * 3)
   have q1:=HEl.out.at (j:=1) rfl
   have z1:=HEl.out.frozen (off+i * 3+1)
   have q2:=HEl.out.at (j:=2) rfl
   have z2:=HEl.out.frozen (off+i * 3+2)
   simp only[A3] at q0
   go_wp2_with fail
   have G1:=yS (G1.out.setFar (p:=⟨b,off+i * 3+1,none⟩) u.out (.string (mTx (kk+1))))
   refine (Zdb A1 _ c1 x.pattern.args L1 base _ _ rfl yE yE G1.out).mono ?_
   rintro e w2 ⟨rfl,g2,J⟩
   have HEl:=yS ((HEl.out.set 1 yE (.string (mTx (kk+1)))).marked J T.out u.out)
   have G1:=yS g2
   clear g2 J
   clear q0 z0 q1 z1 q2 z2
   have q0:=HEl.out.at (j:=0) rfl
   have z0:=HEl.out.frozen (off+i * 3)
   have q1:=HEl.out.at (j:=1) rfl
   have z1:=HEl.out.frozen (off+i * 3+1)
   have q2:=HEl.out.at (j:=2) rfl
   have z2:=HEl.out.frozen (off+i * 3+2)
   simp only[A3] at q0
   obtain ⟨K,M,N⟩:=ZH G1.out.rep
   have O:=yS (X2 HOwn.out HEl.out.plain HEl.out.only (fun y m=>by (try simp only[A5] at m)<;>(exact G1.out.own.plain y m)))
   have HGn:=yS (HPut.out _ _ (ZdL kk x) HEl.out.only HEl.out.cells HEl.out.rest ⟨A1,c1,L1,by simp [ZdL,Zff],rfl,ZbR _ yE,K,M,N⟩ O.out)
   have HOn:=yS (HO.out.trans (HEl.out.only.mono (fun y m=>by rcases AD.1 m with rfl | m;exact R;exact HLk.out y m)))
   rw [I.out] at HGn
   try simp only[A3] at HGn HOn
   clear HEl O HPut G1 K M N
   go_wp2_with fail
   go_roundw
   case rel=>exact ⟨i+1,YS kk x,_,yE,by go_num,rfl,by unfold YS;omega,HDn,HGn,HOn⟩
   case measure=>simp [intOf];omega
  ·obtain rfl:i=n:=by omega
   have e:Hid (ds.drop i=[]):=A9 (by have:=HN.out;omega)
   have hf:Hid (YH k ds=kk∧D=XN k ds):=by
    obtain ⟨h1,h2,h3⟩:=HD.out
    rw [e.out] at h3 h1
    simp [XN] at h3
    exact ⟨h1.symm,h3⟩
   rw [e.out,AF] at HG
   go_wp2
   go_ret
   exact ⟨YK hf.out.1.symm,by rw [←hf.out.2];exact HG.out,HO.out⟩
theorem ZoI (A:Option Addr) (n c:Nat) (ds:List Zg) (L:List Nat) (base:Nat) (k:Int) (w:World) (hn:n=ds.length) (hm:n≤9223372036854775807) (W:1≤k) (G:Yi k ds≤4611686018427387904) (h:Got (Zw XW) base [.slice A n c] ds L w):
  Calls prog 21 #[.slice A n c,.int .i64 k] w fun e w'=>e=.returned (.int .i64 (Yi k ds))∧Got (Zw XW) base [.slice A n c] (Zdn k ds) L w'∧XB L w w':=by
 have H:=yS h
 have HN:=yS hn
 have HK:=yS G
 clear h hn G
 go_enter func21,ntmps21
 go_wp2
 go_loopw [1,5] (fun q j wr=>∃(i:Nat) (kk:Int) (D:List Zg),i≤n∧j=.int .i64 i∧q=.int .i64 kk∧1≤kk∧Hid (Yi kk (ds.drop i)=Yi k ds∧D.length=i∧D++Zdn kk (ds.drop i)=Zdn k ds)∧Hid (Got (Zw XW) base [.slice A n c] (D++ds.drop i) L wr)∧Hid (XB L w wr)) (fun _ j _=>n - (intOf j).toNat)
 case atStart=>exact ⟨0,k,[],A4 _,rfl,rfl,W,⟨rfl,rfl,rfl⟩,H.out,XB.refl _ _⟩
 case round=>
  obtain ⟨i,kk,D,hi,rfl,rfl,h1,HD,HG,HO⟩:=hrel
  by_cases hlt:i<n
  ·have hil:i<ds.length:=by have:=HN.out;omega
   obtain ⟨o,v,I⟩:=HD.out
   have X:i<(D++ds.drop i).length:=by simp;omega
   obtain ⟨b,off,cs,Lk,rfl,Y,J,a,g,f,u⟩:=HG.out.focus X
   have d:Hid (ds.drop i=ds[i]::ds.drop (i+1)):=A6 _
   have K:(D++ds.drop i)[i]=ds[i]:=by
    rw [AQ yE];simp [v]
   rw [K] at g
   clear K
   generalize ds[i]=x at g d
   have Z:Hid (XV kk x≤4611686018427387904):=by
    have:=Zjy (XV kk x) (ds.drop (i+1))
    rw [d.out] at o
    have hk:=HK.out
    rw [←o] at hk
    exact AB this hk
   have M:=Z.out
   have N:=Zk3 kk x
   unfold XV at M N
   have HDn:Hid (Yi (XV kk x) (ds.drop (i+1))=Yi k ds∧(D++[Zja kk x]).length=i+1∧(D++[Zja kk x])++Zdn (XV kk x) (ds.drop (i+1))=Zdn k ds):=by
    refine ⟨by rw [←o,d.out];rfl,by simp [v],?_⟩
    rw [←I,d.out];simp [Zdn]
   have O:Hid ((D++ds.drop i).set i (Zja kk x)=(D++[Zja kk x])++ds.drop (i+1)):=by
    rw [Hid,AN _ _ yE,show i - D.length=0 by omega,d.out,AO];simp
   obtain ⟨A1,c1,L1,A2,c2,L2,rfl,aa,t0,n1,m1,s1,n2,m2,s2⟩:=g
   unfold maxLen at m1 m2
   subst aa
   have HEl:=yS (Zcl.start (m:=4) f rfl a)
   have hbn:=yS a.head
   have G1:Hid (Got (Zw YL) base [.slice A1 x.cond.length c1] x.cond L1 wr):=⟨⟨A1,c1,rfl,n1,(by unfold maxLen;omega),s1⟩,a.tail.left⟩
   have z:Hid (b∉L1):=fun m=>a.head (by simp [m])
   have ab:Hid (∀y∈L1,y∈L1++L2):=fun y m=>by simp [m]
   have l:Hid (∀y∈L1,y∉L2):=fun y m m'=>a.tail.apart y m (by simp [m'])
   have B:Hid (∀y∈L2,y∉L1):=fun y m m'=>l.out y m' m
   have G2:Hid (Got (Zw Yp) base [.slice A2 x.thn.length c2] x.thn L2 wr):=⟨⟨A2,c2,rfl,n2,(by unfold maxLen;omega),s2⟩,a.tail.right⟩
   have C:Hid (b∉L2):=fun m=>a.head (by simp [m])
   have ac:Hid (∀y∈L2,y∈L1++L2):=fun y m=>by simp [m]
   clear s1
   clear s2
   have HPut:=yS u
   have HOwn:=yS a
   have HLk:=yS J
   clear u a J f o v I
   simp only[show XW.size=4 from rfl] at HEl HPut
   have q0:=HEl.out.at (j:=0) rfl
   have z0:=HEl.out.frozen (off+i * 4)
   have q1:=HEl.out.at (j:=1) rfl
   have z1:=HEl.out.frozen (off+i * 4+1)
   have q2:=HEl.out.at (j:=2) rfl
   have z2:=HEl.out.frozen (off+i * 4+2)
   have q3:=HEl.out.at (j:=3) rfl
   have z3:=HEl.out.frozen (off+i * 4+3)
   simp only[A3] at q0
   have gm0:(0:Int)≤0:=by omega
   have mono_x_cond:=Zdv (kk+1+1) x.cond
   have mono_x_thn:=ZdJ (Yq (kk+1+1) x.cond) x.thn
   go_wp2_with fail
   refine (YR _ _ yE yE).mono ?_
   rintro e w1 ⟨rfl,t⟩
   have HEl:=yS (HEl.out.later t)
   have G1:=yS (G1.out.later t)
   have G2:=yS (G2.out.later t)
   clear t
   clear q0 z0 q1 z1 q2 z2 q3 z3
   have q0:=HEl.out.at (j:=0) rfl
   have z0:=HEl.out.frozen (off+i * 4)
   have q1:=HEl.out.at (j:=1) rfl
   have z1:=HEl.out.frozen (off+i * 4+1)
   have q2:=HEl.out.at (j:=2) rfl
   have z2:=HEl.out.frozen (off+i * 4+2)
   have q3:=HEl.out.at (j:=3) rfl
   have z3:=HEl.out.frozen (off+i * 4+3)
   simp only[A3] at q0
   go_wp2_with fail
   have G1:=yS ((G1.out.setFar (p:=⟨b,off+i * 4+0,none⟩) z.out (.string (mTx (kk)))).setFar (p:=⟨b,off+i * 4+1,none⟩) z.out (.int .i64 (kk+1)))
   refine (Zik A1 _ c1 x.cond L1 base _ _ rfl yE yE yE G1.out).mono ?_
   rintro e w2 ⟨rfl,g2,E⟩
   have HEl:=yS (((HEl.out.set 0 yE (.string (mTx (kk)))).set 1 yE (.int .i64 (kk+1))).marked E ab.out z.out)
   have G1:=yS g2
   have G2:=yS (((G2.out.setFar (p:=⟨b,off+i * 4+0,none⟩) C.out (.string (mTx (kk)))).setFar (p:=⟨b,off+i * 4+1,none⟩) C.out (.int .i64 (kk+1))).only E B.out)
   clear g2 E
   clear q0 z0 q1 z1 q2 z2 q3 z3
   have q0:=HEl.out.at (j:=0) rfl
   have z0:=HEl.out.frozen (off+i * 4)
   have q1:=HEl.out.at (j:=1) rfl
   have z1:=HEl.out.frozen (off+i * 4+1)
   have q2:=HEl.out.at (j:=2) rfl
   have z2:=HEl.out.frozen (off+i * 4+2)
   have q3:=HEl.out.at (j:=3) rfl
   have z3:=HEl.out.frozen (off+i * 4+3)
   simp only[A3] at q0
   go_wp2_with fail
   refine (ZlM A2 _ c2 x.thn L2 base _ _ rfl yE yE yE G2.out).mono ?_
   rintro e w3 ⟨rfl,g3,F⟩
   have HEl:=yS (HEl.out.marked F ac.out C.out)
   have G1:=yS (G1.out.only F l.out)
   have G2:=yS g3
   clear g3 F
   clear q0 z0 q1 z1 q2 z2 q3 z3
   have q0:=HEl.out.at (j:=0) rfl
   have z0:=HEl.out.frozen (off+i * 4)
   have q1:=HEl.out.at (j:=1) rfl
   have z1:=HEl.out.frozen (off+i * 4+1)
   have q2:=HEl.out.at (j:=2) rfl
   have z2:=HEl.out.frozen (off+i * 4+2)
   have q3:=HEl.out.at (j:=3) rfl
   have z3:=HEl.out.frozen (off+i * 4+3)
   simp only[A3] at q0
   obtain ⟨P,Q,R⟩:=ZH G1.out.rep
   obtain ⟨S,T,U⟩:=ZH G2.out.rep
   have V:=yS (X2 HOwn.out HEl.out.plain HEl.out.only (fun y m=>by (try simp only[A5] at m)<;>(rcases m with m | m<;>first | exact G1.out.own.plain y m | exact G2.out.own.plain y m)))
   have HGn:=yS (HPut.out _ _ (Zja kk x) HEl.out.only HEl.out.cells HEl.out.rest ⟨A1,c1,L1,A2,c2,L2,by simp [Zja,Zsg,Zoe],rfl,ZbR _ yE,P,Q,R,S,T,U⟩ V.out)
   have HOn:=yS (HO.out.trans (HEl.out.only.mono (fun y m=>by rcases AD.1 m with rfl | m;exact Y;exact HLk.out y m)))
   rw [O.out] at HGn
   try simp only[A3] at HGn HOn
   clear HEl V HPut G1 G2 P S Q T R U
   go_wp2_with fail
   go_roundw
   case rel=>exact ⟨i+1,XV kk x,_,yE,by go_num,rfl,by unfold XV;omega,HDn,HGn,HOn⟩
   case measure=>simp [intOf];omega
  ·obtain rfl:i=n:=by omega
   have e:Hid (ds.drop i=[]):=A9 (by have:=HN.out;omega)
   have hf:Hid (Yi k ds=kk∧D=Zdn k ds):=by
    obtain ⟨h1,h2,h3⟩:=HD.out
    rw [e.out] at h3 h1
    simp [Zdn] at h3
    exact ⟨h1.symm,h3⟩
   rw [e.out,AF] at HG
   go_wp2
   go_ret
   exact ⟨YK hf.out.1.symm,by rw [←hf.out.2];exact HG.out,HO.out⟩
theorem Zm4 (A:Option Addr) (n c:Nat) (ds:List (List Zi)) (L:List Nat) (base:Nat) (k:Int) (w:World) (hn:n=ds.length) (hm:n≤9223372036854775807) (J:1≤k) (t:ZS k ds≤4611686018427387904) (h:Got (Zw (Zw Yd)) base [.slice A n c] ds L w):
  Calls prog 24 #[.slice A n c,.int .i64 k] w fun e w'=>e=.returned (.int .i64 (ZS k ds))∧Got (Zw (Zw Yd)) base [.slice A n c] (Y6 k ds) L w'∧XB L w w':=by
 have H:=yS h
 have HN:=yS hn
 have HK:=yS t
 clear h hn t
 go_enter func24,ntmps24
 go_wp2
 go_loopw [1,5] (fun q j wr=>∃(i:Nat) (kk:Int) (D:List (List Zi)),i≤n∧j=.int .i64 i∧q=.int .i64 kk∧1≤kk∧Hid (ZS kk (ds.drop i)=ZS k ds∧D.length=i∧D++Y6 kk (ds.drop i)=Y6 k ds)∧Hid (Got (Zw (Zw Yd)) base [.slice A n c] (D++ds.drop i) L wr)∧Hid (XB L w wr)) (fun _ j _=>n - (intOf j).toNat)
 case atStart=>exact ⟨0,k,[],A4 _,rfl,rfl,J,⟨rfl,rfl,rfl⟩,H.out,XB.refl _ _⟩
 case round=>
  obtain ⟨i,kk,D,hi,rfl,rfl,h1,HD,HG,HO⟩:=hrel
  by_cases hlt:i<n
  ·have hil:i<ds.length:=by have:=HN.out;omega
   obtain ⟨l,p,u⟩:=HD.out
   have K:i<(D++ds.drop i).length:=by simp;omega
   obtain ⟨b,off,cs,Lk,rfl,M,v,d,g,f,o⟩:=HG.out.focus K
   have a:Hid (ds.drop i=ds[i]::ds.drop (i+1)):=A6 _
   have z:(D++ds.drop i)[i]=ds[i]:=by
    rw [AQ yE];simp [p]
   rw [z] at g
   clear z
   generalize ds[i]=x at g a
   have N:Hid (ZN kk x≤4611686018427387904):=by
    have:=Zfs (ZN kk x) (ds.drop (i+1))
    rw [a.out] at l
    have hk:=HK.out
    rw [←l] at hk
    exact AB this hk
   have hnb1:=N.out
   have hnb2:=QK kk x
   have HDn:Hid (ZS (ZN kk x) (ds.drop (i+1))=ZS k ds∧(D++[Yz kk x]).length=i+1∧(D++[Yz kk x])++Y6 (ZN kk x) (ds.drop (i+1))=Y6 k ds):=by
    refine ⟨by rw [←l,a.out];rfl,by simp [p],?_⟩
    rw [←u,a.out];simp [Y6]
   have B:Hid ((D++ds.drop i).set i (Yz kk x)=(D++[Yz kk x])++ds.drop (i+1)):=by
    rw [Hid,AN _ _ yE,show i - D.length=0 by omega,a.out,AO];simp
   obtain ⟨A1,c1,rfl,n1,m1,s1⟩:=g
   unfold maxLen at m1
   have HEl:=yS (Zcl.start (m:=1) f rfl d)
   have hbn:=yS d.head
   have G1:Hid (Got (Zw Yd) base [.slice A1 x.length c1] x Lk wr):=⟨⟨A1,c1,rfl,n1,(by unfold maxLen;omega),s1⟩,d.tail⟩
   have O:Hid (b∉Lk):=fun m=>d.head (by simp [m])
   have P:Hid (∀y∈Lk,y∈Lk):=fun y m=>by simp [m]
   clear s1
   have HPut:=yS o
   have HOwn:=yS d
   have HLk:=yS v
   clear o d v f l p u
   simp only[show (Zw Yd).size=1 from rfl,AM] at HEl HPut
   have q0:=HEl.out.at (j:=0) rfl
   have z0:=HEl.out.frozen (off+i)
   simp only[A3] at q0
   have gm0:(0:Int)≤0:=by omega
   have mono_x:=QK (kk) x
   go_wp2_with fail
   refine (ZoF A1 _ c1 x Lk base _ _ rfl yE yE yE G1.out).mono ?_
   rintro e w1 ⟨rfl,g1,C⟩
   have HEl:=yS (HEl.out.marked C P.out O.out)
   have G1:=yS g1
   clear g1 C
   clear q0 z0
   have q0:=HEl.out.at (j:=0) rfl
   have z0:=HEl.out.frozen (off+i)
   simp only[A3] at q0
   obtain ⟨E,F,G⟩:=ZH G1.out.rep
   have I:=yS (X2 HOwn.out HEl.out.plain HEl.out.only (fun y m=>by (try simp only[A5] at m)<;>(exact G1.out.own.plain y m)))
   have HGn:=yS (HPut.out _ _ (Yz kk x) HEl.out.only HEl.out.cells HEl.out.rest ⟨A1,c1,by simp [ZgJ],E,F,G⟩ I.out)
   have HOn:=yS (HO.out.trans (HEl.out.only.mono (fun y m=>by rcases AD.1 m with rfl | m;exact M;exact HLk.out y m)))
   rw [B.out] at HGn
   try simp only[A3] at HGn HOn
   clear HEl I HPut G1 E F G
   go_wp2_with fail
   go_roundw
   case rel=>exact ⟨i+1,ZN kk x,_,yE,by go_num,rfl,yE,HDn,HGn,HOn⟩
   case measure=>simp [intOf];omega
  ·obtain rfl:i=n:=by omega
   have e:Hid (ds.drop i=[]):=A9 (by have:=HN.out;omega)
   have hf:Hid (ZS k ds=kk∧D=Y6 k ds):=by
    obtain ⟨h1,h2,h3⟩:=HD.out
    rw [e.out] at h3 h1
    simp [Y6] at h3
    exact ⟨h1.symm,h3⟩
   rw [e.out,AF] at HG
   go_wp2
   go_ret
   exact ⟨YK hf.out.1.symm,by rw [←hf.out.2];exact HG.out,HO.out⟩
end
section
open Go.RowKit
theorem ZiC {w w1:World} {B:Nat} (h:Below w.drew.heap.size w.drew w1) (hB:B≤w.heap.size):Below B w w1:=⟨h.os,h.tape,h.output,h.size,fun k hk=>h.block k (AE hk hB)⟩
theorem Zot (A:Option Addr) (n c:Nat) (ds:List Zi) (L:List Nat) (k:Int) (w:World) (hn:n=ds.length) (hm:n≤9223372036854775807) (C:1≤k) (t:ZN k ds≤4611686018427387904) (h:Sli Yd w A (Yz k ds) L):
  Calls prog 78 #[.slice A n c,.int .i64 k] w fun e w'=>e=.returned (.int .i64 (ZN k ds))∧Below w.heap.size w w':=by
 have H:=yS h
 have HN:=yS hn
 have HK:=yS t
 clear h hn t
 go_enter func78,ntmps78
 go_wp2
 go_loopw [1,5] (fun q j wr=>∃(i:Nat) (kk:Int),i≤n∧j=.int .i64 i∧q=.int .i64 kk∧1≤kk∧Hid (ZN kk (ds.drop i)=ZN k ds∧(Yz k ds).drop i=Yz kk (ds.drop i))∧Hid (Below w.heap.size w wr)) (fun _ j _=>n - (intOf j).toNat)
 case atStart=>exact ⟨0,k,A4 _,rfl,rfl,C,⟨rfl,rfl⟩,Below.refl _ _⟩
 case round=>
  obtain ⟨i,kk,hi,rfl,rfl,h1,HD,HB⟩:=hrel
  by_cases hlt:i<n
  ·have u:i<ds.length:=by have:=HN.out;omega
   obtain ⟨d,v⟩:=HD.out
   have y:i<(Yz k ds).length:=by rw [ZgJ];exact u
   obtain ⟨b,off,cs,Lk,rfl,D,hLk,f,hc⟩:=H.out.at_ y
   rw [A6 y,A6 u,Yz] at v
   injection v with e1 e2
   rw [e1] at f
   clear e1
   have g:ds.drop i=ds[i]::ds.drop (i+1):=A6 _
   rw [g] at d
   clear g
   generalize ds[i]=x at f d e2
   have E:Hid (Yx kk x≤4611686018427387904):=by
    have:=QK (Yx kk x) (ds.drop (i+1))
    have hk:=HK.out
    rw [←d] at hk
    exact AB this hk
   have z:=E.out
   have B:=ZgU kk x
   unfold Yx at z B
   have HDn:Hid (ZN (Yx kk x) (ds.drop (i+1))=ZN k ds∧(Yz k ds).drop (i+1)=Yz (Yx kk x) (ds.drop (i+1))):=⟨d,e2⟩
   have a:b<w.heap.size:=H.out.lt b D
   clear d e2
   obtain ⟨rfl,hLL,t0,t1⟩:=f
   have Q0:=yS (hc 0 _ rfl)
   have Q1:=yS (hc 1 _ rfl)
   clear hc
   have i0:(0:Int)≤i:=by omega
   have i1:(i:Int)<n:=by omega
   have q0:wr.cell? ⟨b,off+i * 2,none⟩=some (.string (mTx (kk))):=(HB.out.cell (p:=⟨b,off+(i * 2+0),none⟩) a).trans Q0.out
   have q1:wr.cell? ⟨b,off+i * 2+1,none⟩=some (.string (mTx (kk+1))):=(HB.out.cell (p:=⟨b,off+(i * 2+1),none⟩) a).trans Q1.out
   have l:b<wr.heap.size:=AE a HB.out.size
   go_wp2_with fail
   go_region_held3 (fun w'=>w'.cell? ⟨b,off+i * 2,none⟩=some (.string (mTx (kk)))) (first | go_keep | exact (m.cell (p:=⟨b,off+i * 2,none⟩) l).trans q0) (first | (go_at_call 75;refine (YR _ _ yE yE).mono ?_;rintro e w1 ⟨rfl,m⟩))
   have HB:=yS (HB.out.trans (ZiC m HB.out.size))
   clear m
   clear q0 q1
   have q0:w1.cell? ⟨b,off+i * 2,none⟩=some (.string (mTx (kk))):=(HB.out.cell (p:=⟨b,off+(i * 2+0),none⟩) a).trans Q0.out
   have q1:w1.cell? ⟨b,off+i * 2+1,none⟩=some (.string (mTx (kk+1))):=(HB.out.cell (p:=⟨b,off+(i * 2+1),none⟩) a).trans Q1.out
   replace l:b<w1.heap.size:=AE a HB.out.size
   go_wp2_with fail
   go_region_held3 (fun w'=>w'.cell? ⟨b,off+i * 2+1,none⟩=some (.string (mTx (kk+1)))) (first | go_keep | exact (o.cell (p:=⟨b,off+i * 2+1,none⟩) l).trans q1) (first | (go_at_call 75;refine (YR _ _ yE yE).mono ?_;rintro e w2 ⟨rfl,o⟩))
   have HB:=yS (HB.out.trans (ZiC o HB.out.size))
   clear o
   clear q0 q1
   have q0:w2.cell? ⟨b,off+i * 2,none⟩=some (.string (mTx (kk))):=(HB.out.cell (p:=⟨b,off+(i * 2+0),none⟩) a).trans Q0.out
   have q1:w2.cell? ⟨b,off+i * 2+1,none⟩=some (.string (mTx (kk+1))):=(HB.out.cell (p:=⟨b,off+(i * 2+1),none⟩) a).trans Q1.out
   replace l:b<w2.heap.size:=AE a HB.out.size
   go_wp2_with fail
   go_roundw
   case rel=>exact ⟨i+1,Yx kk x,yE,by go_num,rfl,by unfold Yx;omega,HDn,HB⟩
   case measure=>simp [intOf];omega
  ·obtain rfl:i=n:=by omega
   have hf:Hid (ZN k ds=kk):=by
    obtain ⟨h1,_⟩:=HD.out
    rw [Hid,←h1,A9 (by have:=HN.out;omega)];rfl
   go_wp2
   go_ret
   exact ⟨YK hf.out.symm,HB.out⟩
theorem Zg8 (A:Option Addr) (n c:Nat) (ds:List (List Zi)) (L:List Nat) (k:Int) (w:World) (hn:n=ds.length) (hm:n≤9223372036854775807) (B:1≤k) (l:ZS k ds≤4611686018427387904) (h:Sli (Zw Yd) w A (Y6 k ds) L):
  Calls prog 25 #[.slice A n c,.int .i64 k] w fun e w'=>e=.returned (.int .i64 (ZS k ds))∧Below w.heap.size w w':=by
 have H:=yS h
 have HN:=yS hn
 have HK:=yS l
 clear h hn l
 go_enter func25,ntmps25
 go_wp2
 go_loopw [1,5] (fun q j wr=>∃(i:Nat) (kk:Int),i≤n∧j=.int .i64 i∧q=.int .i64 kk∧1≤kk∧Hid (ZS kk (ds.drop i)=ZS k ds∧(Y6 k ds).drop i=Y6 kk (ds.drop i))∧Hid (Below w.heap.size w wr)) (fun _ j _=>n - (intOf j).toNat)
 case atStart=>exact ⟨0,k,A4 _,rfl,rfl,B,⟨rfl,rfl⟩,Below.refl _ _⟩
 case round=>
  obtain ⟨i,kk,hi,rfl,rfl,h1,HD,HB⟩:=hrel
  by_cases hlt:i<n
  ·have o:i<ds.length:=by have:=HN.out;omega
   obtain ⟨a,t⟩:=HD.out
   have u:i<(Y6 k ds).length:=by rw [Zqq];exact o
   obtain ⟨b,off,cs,Lk,rfl,C,D,d,hc⟩:=H.out.at_ u
   rw [A6 u,A6 o,Y6] at t
   injection t with e1 e2
   rw [e1] at d
   clear e1
   have f:ds.drop i=ds[i]::ds.drop (i+1):=A6 _
   rw [f] at a
   clear f
   generalize ds[i]=x at d a e2
   have E:Hid (ZN kk x≤4611686018427387904):=by
    have:=Zfs (ZN kk x) (ds.drop (i+1))
    have hk:=HK.out
    rw [←a] at hk
    exact AB this hk
   have hnb1:=E.out
   have hnb2:=QK kk x
   have HDn:Hid (ZS (ZN kk x) (ds.drop (i+1))=ZS k ds∧(Y6 k ds).drop (i+1)=Y6 (ZN kk x) (ds.drop (i+1))):=⟨a,e2⟩
   have g:b<w.heap.size:=H.out.lt b C
   clear a e2
   obtain ⟨A1,c1,rfl,n1,m1,s1⟩:=d
   have S1:=yS s1
   have F:Hid (∀y∈Lk,y<w.heap.size):=fun y m=>H.out.lt y (D y m)
   have v:(Yz kk x).length=x.length:=ZgJ _ _
   clear s1
   have Q0:=yS (hc 0 _ rfl)
   unfold maxLen at m1
   rw [v] at Q0 n1
   clear hc v
   have i0:(0:Int)≤i:=by omega
   have i1:(i:Int)<n:=by omega
   have mono_x:=QK (kk) x
   have q0:wr.cell? ⟨b,off+i,none⟩=some (.slice A1 x.length c1):=by have hq:=(HB.out.cell (p:=⟨b,off+(i * 1+0),none⟩) g).trans Q0.out;simpa only [AM,A3] using hq
   have G:b<wr.heap.size:=AE g HB.out.size
   go_wp2_with fail
   refine (Zot A1 _ c1 x Lk _ _ rfl yE yE yE (S1.out.keep (Zy HB.out F.out))).mono ?_
   rintro e w1 ⟨rfl,z⟩
   have HB:=yS (HB.out.trans (z.mono HB.out.size))
   clear z
   clear q0
   have q0:w1.cell? ⟨b,off+i,none⟩=some (.slice A1 x.length c1):=by have hq:=(HB.out.cell (p:=⟨b,off+(i * 1+0),none⟩) g).trans Q0.out;simpa only [AM,A3] using hq
   replace G:b<w1.heap.size:=AE g HB.out.size
   have ge1:¬(ZN (kk) x<0):=by omega
   go_wp2_with fail
   go_roundw
   case rel=>exact ⟨i+1,ZN kk x,yE,by go_num,rfl,yE,HDn,HB⟩
   case measure=>simp [intOf];omega
  ·obtain rfl:i=n:=by omega
   have hf:Hid (ZS k ds=kk):=by
    obtain ⟨h1,_⟩:=HD.out
    rw [Hid,←h1,A9 (by have:=HN.out;omega)];rfl
   go_wp2
   go_ret
   exact ⟨YK hf.out.symm,HB.out⟩
end
section
open Go.RowKit Go.Deep
def ZjE {α:Type} (P:Program) (t:TypeId) (c:Yh α) (wf:α→Prop):Prop:=
 ∀{H:Type} {enc:TypeId × Value→H} {w:World} {base:Nat} {spare:Nat→Bool} {held:Bool} {fuel:Nat} {cs:List Value} {x:DataW H × List MemPlace},
  DataW.trod enc P w base spare held fuel t cs=some x→∃d L,c.rep w cs d L∧wf d
theorem ZkD {P:Program} {t:TypeId} (ht:P.underlying t=some (.int .i64)):ZjE P t ZGg Zlp:=by
 intro H enc w base spare held fuel cs x h
 obtain ⟨n,rfl,_,hw⟩:=DataW.trod_int ht h
 refine ⟨n,[],⟨rfl,rfl⟩,?_⟩
 simp [Lit.wf,IntKind.min,IntKind.max,IntKind.signed,IntKind.bits] at hw
 exact ⟨yE,yE⟩
theorem QQ {P:Program} {t:TypeId} (ht:P.underlying t=some .string):ZjE P t Zde (fun _=>True):=by
 intro H enc w base spare held fuel cs x h
 obtain ⟨s,rfl,_,hs⟩:=DataW.trod_string ht h
 exact ⟨s,[],⟨rfl,rfl,by unfold maxLen at hs;omega⟩,trivial⟩
theorem Zal {α:Type} {c:Yh α} {wf:α→Prop} {P:Program} {t e:TypeId} (ht:P.underlying t=some (.slice e)) (hc:P.cellsOf e=c.size) (ho:ZjE P e c wf):ZjE P t (Zw c) (fun ds=>∀d∈ds,wf d):=by
 intro H enc w base spare held fuel cs x h
 rcases open_slice ht h with ⟨rfl,_⟩ | ⟨a,len,cap,m,n,D,Pl,rfl,hb,hl,hm,l,_,hx⟩
 ·exact ⟨[],[],⟨none,0,rfl,A0 _,A4 _,Sli.nil _ _⟩,yG⟩
 ·have hlm:len≤m:=by rw [l];split<;>omega
  have key:∀q,q≤len→∃(xs:List Value) (ds:List α) (L:List Nat),ds.length=q∧(∀j u,xs[j]?=some u→w.cell? (a.add j)=some u)∧c.reps w xs ds L∧∀d∈ds,wf d:=by
   intro q
   induction q with
   | zero=>exact fun _=>⟨[],[],[],rfl,yG,⟨rfl,rfl⟩,yG⟩
   | succ q ih=>
    intro hq
    obtain ⟨xs,ds,L,hd,f,hr,i⟩:=ih yE
    obtain ⟨o,h1,h2⟩:=hx q yE
    obtain ⟨d,Lq,k,p⟩:=ho h2
    obtain ⟨_,hlen,v⟩:=World.cells?_some h1
    refine ⟨xs++o,ds++[d],L++Lq,by simp [hd],fun j u hu=>?_,Zbv hr (ZcK k),?_⟩
    ·have g:xs.length=q * c.size:=by rw [ZhJ hr,hd]
     rw [List.getElem?_append] at hu
     split at hu
     ·exact f j u hu
     ·rename_i hj
      have hj2:=(AU.1 hu).1
      have:=v (j - xs.length) yE
      rw [←hu,←this,Go.Deep.add_add,hc,←g]
      congr 2
      omega
    ·intro y hy
     rcases A5.1 hy with hy | hy
     ·exact i y hy
     ·simp at hy;subst hy;exact p
  obtain ⟨xs,ds,L,hd,f,hr,i⟩:=key len (A0 _)
  have g:=ZhJ hr
  rcases Nat.eq_zero_or_pos len with h0 | h0
  ·have:ds=[]:=Aq yE
   subst this
   refine ⟨[],[],⟨some a,cap,by simp at hd;rw [←hd];rfl,yG,hm,Sli.nil _ _⟩,yG⟩
  ·obtain ⟨b,off,sp⟩:=a
   have hp:0<xs.length:=by rw [g,hd];exact Nat.mul_pos h0 c.pos
   have z:sp=none:=by
    have h1:=f 0 _ (AA hp)
    have e:(⟨b,off,sp⟩:Addr).add 0=⟨b,off,sp⟩:=by simp [Addr.add]
    rw [e] at h1
    cases sp with
    | none=>rfl
    | some q=>
     simp only[World.cell?] at h1
     split at h1<;>simp at h1
   subst z
   refine ⟨ds,[b]++L,⟨some ⟨b,off,none⟩,cap,by rw [hd],yE,hm,xs,[b],L,rfl,⟨by rw [g],.inr ⟨yE,b,off,rfl,rfl,fun j u hu=>?_⟩⟩,hr⟩,i⟩
   have:=f j u hu
   rwa [ZbY] at this
end
section
open Go.RowKit
theorem Zg0 (w:World) (hJ:J0 w) (q:Option Addr) (z:Nat) (a:List Zg) (A:List Nat) (aq:a.length≤9223372036854775807) (P:Sli XW w q a A) (C:Option Addr) (E:Nat) (g:List Zc) (F:List Nat) (az:g.length≤9223372036854775807) (ab:Sli Z8 w C g F) (M:Option Addr) (Q:Nat) (aL:List Zl) (R:List Nat) (bq:aL.length≤9223372036854775807) (bp:Sli YL w M aL R) (ar:(fun ds=>∀d∈ds,ZtX d) a) (a0:(fun ds=>∀d∈ds,Zua d) g) (br:(fun ds=>∀d∈ds,Zp7 d) aL):
  Calls prog 3 #[.slice q a.length z,.slice C g.length E,.slice M aL.length Q] w fun e w'=>e=.returned (.bool true)∧Below w.heap.size w w':=by
 have HJ:=yS hJ
 clear hJ
 have G:=yS P
 clear P
 have H:=yS ab
 clear ab
 have ac:=yS bp
 clear bp
 go_enter func3,ntmps3
 go_wp2_with fail
 refine (Zsi q _ z a A _ _ rfl aq yE yE (G.out.below (Below.refl w.heap.size w))).mono ?_
 rintro e w1 ⟨rfl,hb⟩
 have B1:=yS ((Below.refl w.heap.size w).trans (hb.mono (Below.refl w.heap.size w).size))
 have sz1:=hb.size
 clear hb
 by_cases N:((Yg a:Nat):Int)≤1048576
 rotate_left
 ·rw [ZZ N]
  go_wp2
  go_ret
  exact ⟨rfl,B1.out⟩
 rw [Xe N]
 have t:Yg a≤1048576:=by omega
 have cl_aRules:a.length≤1048576:=by have:=t;simp only[Yg] at this;omega
 have nn_aRules:¬(1048576 - ((Yg a:Nat):Int)<0):=by omega
 go_wp2_with fail
 refine (Zs2 C _ E g F _ _ rfl az yE yE (H.out.below B1.out)).mono ?_
 rintro e w2 ⟨rfl,hb⟩
 have B2:=yS (B1.out.trans (hb.mono B1.out.size))
 have sz2:=hb.size
 clear B1
 clear hb
 by_cases S:((Yu g:Nat):Int)≤1048576 - ((Yg a:Nat):Int)
 rotate_left
 ·rw [ZZ S]
  go_wp2
  go_ret
  exact ⟨rfl,B2.out⟩
 rw [Xe S]
 have B:Yu g≤1048576:=by omega
 have cl_aBase:g.length≤1048576:=by have:=B;simp only[Yu] at this;omega
 have nn_aBase:¬(1048576 - ((Yg a:Nat):Int) - ((Yu g:Nat):Int)<0):=by omega
 go_wp2_with fail
 refine (Zlk M _ Q aL R _ _ rfl bq yE yE (ac.out.below B2.out)).mono ?_
 rintro e w3 ⟨rfl,hb⟩
 have B3:=yS (B2.out.trans (hb.mono B2.out.size))
 have sz3:=hb.size
 clear B2
 clear hb
 by_cases a1:((Z3 aL:Nat):Int)≤1048576 - ((Yg a:Nat):Int) - ((Yu g:Nat):Int)
 rotate_left
 ·rw [ZZ a1]
  go_wp2
  go_ret
  exact ⟨rfl,B3.out⟩
 rw [Xe a1]
 have K:Z3 aL≤1048576:=by omega
 have cl_aL:aL.length≤1048576:=by have:=K;simp only[Z3] at this;omega
 have nn_aL:¬(1048576 - ((Yg a:Nat):Int) - ((Yu g:Nat):Int) - ((Z3 aL:Nat):Int)<0):=by omega
 obtain ⟨R0,R1,bx,bt,rl⟩:=ZnG a t ar g B a0 aL K br
 go_wp2_with fail
 refine (Ze2 q _ z a A _ rfl t (G.out.below B3.out)).mono ?_
 rintro e w4 ⟨v,rfl,b⟩
 obtain ⟨ad,ae,rfl⟩:=b.shape
 have hb:=b.below
 obtain ⟨af,gt⟩:=b.got
 have B4:=yS (B3.out.trans (hb.mono B3.out.size))
 have sz4:=hb.size
 clear B3
 have j:=yS gt
 have ge_t3aRules:=yS gt.own.ge
 have lt_t3aRules:=yS gt.lt
 clear gt hb b
 go_wp2_with fail
 refine (ZeQ C _ E g F _ rfl B (H.out.below B4.out)).mono ?_
 rintro e w5 ⟨v,rfl,b⟩
 obtain ⟨au,av,rfl⟩:=b.shape
 have hb:=b.below
 obtain ⟨aw,gt⟩:=b.got
 have B5:=yS (B4.out.trans (hb.mono B4.out.size))
 have sz5:=hb.size
 have j:=yS (j.out.later hb)
 clear B4
 have u:=yS gt
 have ge_t4aBase:=yS gt.own.ge
 have lt_t4aBase:=yS gt.lt
 clear gt hb b
 go_wp2_with fail
 refine (Zc8 M _ Q aL R _ rfl K (ac.out.below B5.out)).mono ?_
 rintro e w6 ⟨v,rfl,b⟩
 obtain ⟨bm,bn,rfl⟩:=b.shape
 have hb:=b.below
 obtain ⟨bo,gt⟩:=b.got
 have B6:=yS (B5.out.trans (hb.mono B5.out.size))
 have sz6:=hb.size
 have j:=yS (j.out.later hb)
 have u:=yS (u.out.later hb)
 clear B5
 have L:=yS gt
 have ge_t5aL:=yS gt.own.ge
 have lt_t5aL:=yS gt.lt
 clear gt hb b
 go_wp2_with fail
 refine (ZoQ bx _ (Qt hJ0 HJ.out B6.out) ad ae af j.out.rep au av aw u.out.rep bm bn bo L.out.rep).mono ?_
 rintro e w7 ⟨v,rfl,b⟩
 obtain ⟨a2,a3,rfl⟩:=b.shape
 have hb:=b.below
 obtain ⟨a4,gt⟩:=b.got
 have B7:=yS (B6.out.trans (hb.mono B6.out.size))
 have sz7:=hb.size
 have j:=yS (j.out.later hb)
 have u:=yS (u.out.later hb)
 have L:=yS (L.out.later hb)
 clear B6
 have c:=yS gt
 have ge_w0:=yS gt.own.ge
 have T:=yS gt.lt
 clear gt hb b
 clear j
 clear u
 clear L
 go_wp2_with fail
 refine (Ze2 q _ z a A _ rfl t (G.out.below B7.out)).mono ?_
 rintro e w8 ⟨v,rfl,b⟩
 obtain ⟨a5,a6,rfl⟩:=b.shape
 have hb:=b.below
 obtain ⟨a7,gt⟩:=b.got
 have B8:=yS (B7.out.trans (hb.mono B7.out.size))
 have sz8:=hb.size
 have c:=yS (c.out.later hb)
 clear B7
 have k:=yS gt
 have a8:=yS gt.own.ge
 have ax:=yS gt.lt
 clear gt hb b
 go_wp2_with fail
 refine (ZeQ C _ E g F _ rfl B (H.out.below B8.out)).mono ?_
 rintro e w9 ⟨v,rfl,b⟩
 obtain ⟨a9,ba,rfl⟩:=b.shape
 have hb:=b.below
 obtain ⟨bb,gt⟩:=b.got
 have B9:=yS (B8.out.trans (hb.mono B8.out.size))
 have sz9:=hb.size
 have c:=yS (c.out.later hb)
 have k:=yS (k.out.later hb)
 clear B8
 have l:=yS gt
 have ay:=yS gt.own.ge
 have bc:=yS gt.lt
 clear gt hb b
 go_wp2_with fail
 refine (Zc8 M _ Q aL R _ rfl K (ac.out.below B9.out)).mono ?_
 rintro e w10 ⟨v,rfl,b⟩
 obtain ⟨bd,be,rfl⟩:=b.shape
 have hb:=b.below
 obtain ⟨bf,gt⟩:=b.got
 have B10:=yS (B9.out.trans (hb.mono B9.out.size))
 have sz10:=hb.size
 have c:=yS (c.out.later hb)
 have k:=yS (k.out.later hb)
 have l:=yS (l.out.later hb)
 clear B9
 have o:=yS gt
 have U:=yS gt.own.ge
 have bs:=yS gt.lt
 clear gt hb b
 go_wp2_with fail
 refine (ZiJ bt _ (Qt hJ0 HJ.out B10.out) a5 a6 a7 k.out.rep a9 ba bb l.out.rep bd be bf o.out.rep).mono ?_
 rintro e w11 ⟨v,rfl,b⟩
 obtain ⟨ag,ah,rfl⟩:=b.shape
 have hb:=b.below
 obtain ⟨ai,gt⟩:=b.got
 have B11:=yS (B10.out.trans (hb.mono B10.out.size))
 have sz11:=hb.size
 have c:=yS (c.out.later hb)
 have k:=yS (k.out.later hb)
 have l:=yS (l.out.later hb)
 have o:=yS (o.out.later hb)
 clear B10
 have f:=yS gt
 have O:=yS gt.own.ge
 have lt_g0:=yS gt.lt
 clear gt hb b
 go_wp2_with fail
 refine (Zgi ag a2 _ ah a3 _ ai a4 _ rfl yE (ZH f.out.rep).2.2 (ZH c.out.rep).2.2).mono ?_
 rintro e w12 ⟨rfl,hb⟩
 have B12:=yS (B11.out.trans (hb.mono B11.out.size))
 have sz12:=hb.size
 have c:=yS (c.out.later hb)
 have k:=yS (k.out.later hb)
 have l:=yS (l.out.later hb)
 have o:=yS (o.out.later hb)
 have f:=yS (f.out.later hb)
 clear B11
 clear hb
 go_wp2_with fail
 refine (Ze2 q _ z a A _ rfl t (G.out.below B12.out)).mono ?_
 rintro e w13 ⟨v,rfl,b⟩
 obtain ⟨V,W,rfl⟩:=b.shape
 have hb:=b.below
 obtain ⟨X,gt⟩:=b.got
 have B13:=yS (B12.out.trans (hb.mono B12.out.size))
 have sz13:=hb.size
 have c:=yS (c.out.later hb)
 have k:=yS (k.out.later hb)
 have l:=yS (l.out.later hb)
 have o:=yS (o.out.later hb)
 have f:=yS (f.out.later hb)
 clear B12
 have x:=yS gt
 have ge_t12aRules:=yS gt.own.ge
 have lt_t12aRules:=yS gt.lt
 clear gt hb b
 go_wp2_with fail
 refine (Zss a5 V _ a6 W _ a7 X _ rfl yE (ZH k.out.rep).2.2 (ZH x.out.rep).2.2).mono ?_
 rintro e w14 ⟨rfl,hb⟩
 have B14:=yS (B13.out.trans (hb.mono B13.out.size))
 have sz14:=hb.size
 have c:=yS (c.out.later hb)
 have k:=yS (k.out.later hb)
 have l:=yS (l.out.later hb)
 have o:=yS (o.out.later hb)
 have f:=yS (f.out.later hb)
 have x:=yS (x.out.later hb)
 clear B13
 clear hb
 clear x
 go_wp2_with fail
 refine (ZeQ C _ E g F _ rfl B (H.out.below B14.out)).mono ?_
 rintro e w15 ⟨v,rfl,b⟩
 obtain ⟨aj,ak,rfl⟩:=b.shape
 have hb:=b.below
 obtain ⟨al,gt⟩:=b.got
 have B15:=yS (B14.out.trans (hb.mono B14.out.size))
 have sz15:=hb.size
 have c:=yS (c.out.later hb)
 have k:=yS (k.out.later hb)
 have l:=yS (l.out.later hb)
 have o:=yS (o.out.later hb)
 have f:=yS (f.out.later hb)
 clear B14
 have D:=yS gt
 have ge_t14aBase:=yS gt.own.ge
 have lt_t14aBase:=yS gt.lt
 clear gt hb b
 go_wp2_with fail
 refine (Zr2 a9 aj _ ba ak _ bb al _ rfl yE (ZH l.out.rep).2.2 (ZH D.out.rep).2.2).mono ?_
 rintro e w16 ⟨rfl,hb⟩
 have B16:=yS (B15.out.trans (hb.mono B15.out.size))
 have sz16:=hb.size
 have c:=yS (c.out.later hb)
 have k:=yS (k.out.later hb)
 have l:=yS (l.out.later hb)
 have o:=yS (o.out.later hb)
 have f:=yS (f.out.later hb)
 have D:=yS (D.out.later hb)
 clear B15
 clear hb
 clear D
 go_wp2_with fail
 refine (Zc8 M _ Q aL R _ rfl K (ac.out.below B16.out)).mono ?_
 rintro e w17 ⟨v,rfl,b⟩
 obtain ⟨bg,bh,rfl⟩:=b.shape
 have hb:=b.below
 obtain ⟨bi,gt⟩:=b.got
 have B17:=yS (B16.out.trans (hb.mono B16.out.size))
 have sz17:=hb.size
 have c:=yS (c.out.later hb)
 have k:=yS (k.out.later hb)
 have l:=yS (l.out.later hb)
 have o:=yS (o.out.later hb)
 have f:=yS (f.out.later hb)
 clear B16
 have I:=yS gt
 have ge_t16aL:=yS gt.own.ge
 have lt_t16aL:=yS gt.lt
 clear gt hb b
 go_wp2_with fail
 refine (Zls bd bg _ be bh _ bf bi _ rfl yE (ZH o.out.rep).2.2 (ZH I.out.rep).2.2).mono ?_
 rintro e w18 ⟨rfl,hb⟩
 have B18:=yS (B17.out.trans (hb.mono B17.out.size))
 have sz18:=hb.size
 have c:=yS (c.out.later hb)
 have k:=yS (k.out.later hb)
 have l:=yS (l.out.later hb)
 have o:=yS (o.out.later hb)
 have f:=yS (f.out.later hb)
 have I:=yS (I.out.later hb)
 clear B17
 clear hb
 clear I
 have nl_x0_18:=Zqh ((1:Int)) a
 have nb_x0_18:Yi ((1:Int)) a≤4611686018427387904:=by omega
 have ng_x0_18:=Zjy ((1:Int)) a
 go_wp2_with fail
 refine (ZoI a5 _ a6 a a7 _ _ _ rfl yE yE yE k.out).mono ?_
 rintro e w19 ⟨rfl,gm,on⟩
 have B19:=yS (B18.out.trans (on.below B18.out.size (fun y m=>by have:=a8.out y m;omega)))
 have sz19:=on.size
 have c:=yS (c.out.only on (fun y m m'=>by have:=T.out y m;have:=a8.out y m';omega))
 have l:=yS (l.out.only on (fun y m m'=>by have:=ay.out y m;have:=ax.out y m';omega))
 have o:=yS (o.out.only on (fun y m m'=>by have:=U.out y m;have:=ax.out y m';omega))
 have f:=yS (f.out.only on (fun y m m'=>by have:=O.out y m;have:=ax.out y m';omega))
 clear B18
 have k:=yS gm
 clear gm on
 clear k
 have nl_x1_19:=Zqo (Yi ((1:Int)) a) g
 have nb_x1_19:YG (Yi ((1:Int)) a) g≤4611686018427387904:=by omega
 have ng_x1_19:=Zkc (Yi ((1:Int)) a) g
 go_wp2_with fail
 refine (Zod a9 _ ba g bb _ _ _ rfl yE yE yE l.out).mono ?_
 rintro e w20 ⟨rfl,gm,on⟩
 have B20:=yS (B19.out.trans (on.below B19.out.size (fun y m=>by have:=ay.out y m;omega)))
 have sz20:=on.size
 have c:=yS (c.out.only on (fun y m m'=>by have:=T.out y m;have:=ay.out y m';omega))
 have o:=yS (o.out.only on (fun y m m'=>by have:=U.out y m;have:=bc.out y m';omega))
 have f:=yS (f.out.only on (fun y m m'=>by have:=O.out y m;have:=bc.out y m';omega))
 clear B19
 have l:=yS gm
 clear gm on
 clear l
 have nl_x2_20:=Zkl (YG (Yi ((1:Int)) a) g) aL
 have nb_x2_20:Yq (YG (Yi ((1:Int)) a) g) aL≤4611686018427387904:=by omega
 have ng_x2_20:=Zdv (YG (Yi ((1:Int)) a) g) aL
 go_wp2_with fail
 refine (Zik bd _ be aL bf _ _ _ rfl yE yE yE o.out).mono ?_
 rintro e w21 ⟨rfl,gm,on⟩
 have B21:=yS (B20.out.trans (on.below B20.out.size (fun y m=>by have:=U.out y m;omega)))
 have sz21:=on.size
 have c:=yS (c.out.only on (fun y m m'=>by have:=T.out y m;have:=U.out y m';omega))
 have f:=yS (f.out.only on (fun y m m'=>by have:=O.out y m;have:=bs.out y m';omega))
 clear B20
 have o:=yS gm
 clear gm on
 clear o
 have kn:¬(Yq (YG (Yi ((1:Int)) a) g) aL<0):=by omega
 go_wp2_with fail
 refine (Zgi ag a2 _ ah a3 _ ai a4 _ rfl yE (ZH f.out.rep).2.2 (ZH c.out.rep).2.2).mono ?_
 rintro e w22 ⟨rfl,hb⟩
 have B22:=yS (B21.out.trans (hb.mono B21.out.size))
 have sz22:=hb.size
 have c:=yS (c.out.later hb)
 have f:=yS (f.out.later hb)
 clear B21
 clear hb
 have nl_g0_22:=Zoi ((1:Int)) R0
 have nb_g0_22:ZS ((1:Int)) R0≤4611686018427387904:=by omega
 have ng_g0_22:=Zfs ((1:Int)) R0
 go_wp2_with fail
 refine (Zm4 ag _ ah R0 ai _ _ _ rfl yE yE yE f.out).mono ?_
 rintro e w23 ⟨rfl,gm,on⟩
 have B23:=yS (B22.out.trans (on.below B22.out.size (fun y m=>by have:=O.out y m;omega)))
 have sz23:=on.size
 have c:=yS (c.out.only on (fun y m m'=>by have:=T.out y m;have:=O.out y m';omega))
 clear B22
 have f:=yS gm
 clear gm on
 go_wp2_with fail
 refine (Zg8 ag _ ah R0 ai _ _ rfl yE yE yE (ZH f.out.rep).2.2).mono ?_
 rintro e w24 ⟨rfl,hb⟩
 have B24:=yS (B23.out.trans (hb.mono B23.out.size))
 have sz24:=hb.size
 have c:=yS (c.out.later hb)
 have f:=yS (f.out.later hb)
 clear B23
 clear hb
 have qn24:¬(ZS ((1:Int)) R0<0):=by omega
 have qm24:((ZS ((1:Int)) R0) != (ZS ((1:Int)) R0))=false:=by simp
 go_wp2_with fail
 refine (Ze2 q _ z a A _ rfl t (G.out.below B24.out)).mono ?_
 rintro e w25 ⟨v,rfl,b⟩
 obtain ⟨Y,Z,rfl⟩:=b.shape
 have hb:=b.below
 obtain ⟨aa,gt⟩:=b.got
 have B25:=yS (B24.out.trans (hb.mono B24.out.size))
 have sz25:=hb.size
 have c:=yS (c.out.later hb)
 have f:=yS (f.out.later hb)
 clear B24
 have i:=yS gt
 have ge_t24aRules:=yS gt.own.ge
 have lt_t24aRules:=yS gt.lt
 clear gt hb b
 go_wp2_with fail
 refine (ZeQ C _ E g F _ rfl B (H.out.below B25.out)).mono ?_
 rintro e w26 ⟨v,rfl,b⟩
 obtain ⟨am,an,rfl⟩:=b.shape
 have hb:=b.below
 obtain ⟨ao,gt⟩:=b.got
 have B26:=yS (B25.out.trans (hb.mono B25.out.size))
 have sz26:=hb.size
 have c:=yS (c.out.later hb)
 have f:=yS (f.out.later hb)
 have i:=yS (i.out.later hb)
 clear B25
 have p:=yS gt
 have ge_t25aBase:=yS gt.own.ge
 have lt_t25aBase:=yS gt.lt
 clear gt hb b
 go_wp2_with fail
 refine (Zc8 M _ Q aL R _ rfl K (ac.out.below B26.out)).mono ?_
 rintro e w27 ⟨v,rfl,b⟩
 obtain ⟨bj,bk,rfl⟩:=b.shape
 have hb:=b.below
 obtain ⟨bl,gt⟩:=b.got
 have B27:=yS (B26.out.trans (hb.mono B26.out.size))
 have sz27:=hb.size
 have c:=yS (c.out.later hb)
 have f:=yS (f.out.later hb)
 have i:=yS (i.out.later hb)
 have p:=yS (p.out.later hb)
 clear B26
 have J:=yS gt
 have ge_t26aL:=yS gt.own.ge
 have lt_t26aL:=yS gt.lt
 clear gt hb b
 go_wp2_with fail
 refine (ZiJ bt _ (Qt hJ0 HJ.out B27.out) Y Z aa i.out.rep am an ao p.out.rep bj bk bl J.out.rep).mono ?_
 rintro e w28 ⟨v,rfl,b⟩
 obtain ⟨bu,bv,rfl⟩:=b.shape
 have hb:=b.below
 obtain ⟨bw,gt⟩:=b.got
 have B28:=yS (B27.out.trans (hb.mono B27.out.size))
 have sz28:=hb.size
 have c:=yS (c.out.later hb)
 have f:=yS (f.out.later hb)
 have i:=yS (i.out.later hb)
 have p:=yS (p.out.later hb)
 have J:=yS (J.out.later hb)
 clear B27
 have ap:=yS gt
 have ge_h0:=yS gt.own.ge
 have lt_h0:=yS gt.lt
 clear gt hb b
 clear i
 clear p
 clear J
 go_wp2_with fail
 refine (Zgi bu a2 _ bv a3 _ bw a4 _ rfl yE (ZH ap.out.rep).2.2 (ZH c.out.rep).2.2).mono ?_
 rintro e w29 ⟨rfl,hb⟩
 have B29:=yS (B28.out.trans (hb.mono B28.out.size))
 have sz29:=hb.size
 have c:=yS (c.out.later hb)
 have f:=yS (f.out.later hb)
 have ap:=yS (ap.out.later hb)
 clear B28
 clear hb
 go_wp2_with fail
 refine (Zg8 ag _ ah R0 ai _ _ rfl yE yE yE (ZH f.out.rep).2.2).mono ?_
 rintro e w30 ⟨rfl,hb⟩
 have B30:=yS (B29.out.trans (hb.mono B29.out.size))
 have sz30:=hb.size
 have c:=yS (c.out.later hb)
 have f:=yS (f.out.later hb)
 have ap:=yS (ap.out.later hb)
 clear B29
 clear hb
 have qn30:¬(ZS ((1:Int)) R0<0):=by omega
 have qm30:((ZS ((1:Int)) R0) != (ZS ((1:Int)) R0))=false:=by simp
 go_wp2_with fail
 go_ret
 exact ⟨rfl,B30.out⟩
end
end Go.Proofs.YtlpkbfjcdaanmaaGreatDoor
