/- Texts of this proof, joined: ExactWithdrawFact, Opens. What each holds is said at its theorems. -/
import Derived.Test.YtojnhepgnbhaaaaGreatDoorWithdrawFactQ3
import Derived.Test.YtojnhepgnbhaaaaGreatDoorWithdrawFactQ7
import Derived.Outline
import Derived.WalkSpells
import Derived.StillTailTactics
import Derived.Deep.RegionHeld3
import Derived.Test.YtojnhepgnbhaaaaGreatDoorProg
import Derived.Test.YtojnhepgnbhaaaaGreatDoorWithdrawFactQ1
set_option linter.unusedSimpArgs false
set_option linter.unusedVariables false
namespace Go.Proofs.YtojnhepgnbhaaaaGreatDoor
open Go.RowKit
theorem ZEz {w w1:World} {B:Nat} (h:Below w.drew.heap.size w.drew w1) (hB:B≤w.heap.size):Below B w w1:=⟨h.os,h.tape,h.output,h.size,fun k hk=>h.block k (Nat.lt_of_lt_of_le hk hB)⟩
theorem ZE4 {aRules:List Zf} {aBase:List Zc} {aF:Zc} {r0:List Zc} {r1:Bool} (hh:ZEP aRules aBase aF=some (r0,r1)) (w:World) (hj:J0 w) (AaRules:Option Addr) (caRules:Nat) (LaRules:List Nat) (haRules:(ZY XU).rep w [.slice AaRules aRules.length caRules] aRules LaRules) (AaBase:Option Addr) (caBase:Nat) (LaBase:List Nat) (haBase:(ZY Y4).rep w [.slice AaBase aBase.length caBase] aBase LaBase) (qaF:List Value) (LaF:List Nat) (haF:Y4.rep w qaF aF LaF):
  Calls Tryz.prog 32 #[.slice AaRules aRules.length caRules,.slice AaBase aBase.length caBase,.agg qaF.toArray] w (ZCj Y4 57 w r0 r1):=
 Zn.givesSB (c:=Y4) (g:=Zq) (ds:=r0) (b:=r1) (ZE3 hh) ZjV hj (vs:=[_,_,_]) ⟨Znw ZqW _ haRules,Znw ZjV _ haBase,ZEN ZjV haF,trivial⟩
theorem ZEX {aRules:List Zf} {aBase:List Zc} {aF:Zc} {r0:List Zc} {r1:Bool} (hh:ZEO aRules aBase aF=some (r0,r1)) (w:World) (hj:J0 w) (AaRules:Option Addr) (caRules:Nat) (LaRules:List Nat) (haRules:(ZY XU).rep w [.slice AaRules aRules.length caRules] aRules LaRules) (AaBase:Option Addr) (caBase:Nat) (LaBase:List Nat) (haBase:(ZY Y4).rep w [.slice AaBase aBase.length caBase] aBase LaBase) (qaF:List Value) (LaF:List Nat) (haF:Y4.rep w qaF aF LaF):
  Calls Tryz.prog 34 #[.slice AaRules aRules.length caRules,.slice AaBase aBase.length caBase,.agg qaF.toArray] w (ZCj Y4 57 w r0 r1):=
 Zn.givesSB (c:=Y4) (g:=Zq) (ds:=r0) (b:=r1) (ZE6 hh) ZjV hj (vs:=[_,_,_]) ⟨Znw ZqW _ haRules,Znw ZjV _ haBase,ZEN ZjV haF,trivial⟩
set_option maxRecDepth 100000 in
set_option maxHeartbeats 8000000 in
theorem ZEY (w:World) (hJ:J0 w) (A_aRules:Option Addr) (c_aRules:Nat) (aRules:List Zf) (L_aRules:List Nat) (ln_aRules:aRules.length≤9223372036854775807) (h_aRules:Sli XU w A_aRules aRules L_aRules) (A_aBase:Option Addr) (c_aBase:Nat) (aBase:List Zc) (L_aBase:List Nat) (ln_aBase:aBase.length≤9223372036854775807) (h_aBase:Sli Y4 w A_aBase aBase L_aBase) (cs_aF:List Value) (aF:Zc) (L_aF:List Nat) (h_aF:Y4.rep w cs_aF aF L_aF) (wf_aRules:(fun ds=>∀d∈ds,ZpL d) aRules) (wf_aBase:(fun ds=>∀d∈ds,ZpO d) aBase) (wf_aF:ZpO aF):
  Calls Tryz.prog 6 #[.slice A_aRules aRules.length c_aRules,.slice A_aBase aBase.length c_aBase,.agg cs_aF.toArray] w fun e w'=>e=.returned (.bool true)∧Below w.heap.size w w':=by
 have HJ:=Lib.hid hJ
 clear hJ
 have H_aRules:=Lib.hid h_aRules
 clear h_aRules
 have H_aBase:=Lib.hid h_aBase
 clear h_aBase
 have H_aF:=Lib.hid h_aF
 clear h_aF
 obtain ⟨aF_A1,aF_c1,rfl⟩:=Zcc H_aF.out
 have B0:Hid (Below w.heap.size w (w.alloc (.cells #[.string aF.rel,.slice aF_A1 aF.args.length aF_c1] 54))):=(Below.alloc (Below.refl _ _) (Nat.le_refl _) _)
 have sz0:w.heap.size+1≤((w.alloc (.cells #[.string aF.rel,.slice aF_A1 aF.args.length aF_c1] 54))).heap.size:=Nat.le_of_eq (by simp only [World.alloc,Array.size_push])
 have K_aF:Hid (Blk (w.alloc (.cells #[.string aF.rel,.slice aF_A1 aF.args.length aF_c1] 54)) (w.heap.size) 54 #[.string aF.rel,.slice aF_A1 aF.args.length aF_c1]):=(Blk.new _ _ _)
 go_enter Tryz.func6,Tryz.ntmps6
 go_wp2_with fail
 refine (Zn6 A_aRules _ c_aRules aRules L_aRules _ _ rfl ln_aRules (by omega) (by omega) (H_aRules.out.below B0.out)).mono ?_
 rintro e w1 ⟨rfl,hb⟩
 have B1:=Lib.hid (B0.out.trans (hb.mono B0.out.size))
 have sz1:=hb.size
 have K_aF:=Lib.hid (K_aF.out.later hb)
 have f_aF_0:=K_aF.out.at (i:=0) rfl
 have f_aF_1:=K_aF.out.at (i:=1) rfl
 clear hb
 by_cases cc_aRules:((Yj aRules:Nat):Int)≤1048576
 rotate_left
 ·rw [ZX cc_aRules]
  go_wp2
  go_ret
  exact ⟨rfl,B1.out⟩
 rw [Y8 cc_aRules]
 have cz_aRules:Yj aRules≤1048576:=by omega
 have cl_aRules:aRules.length≤1048576:=by have:=cz_aRules;simp only [Yj] at this;omega
 have nn_aRules:¬(1048576 - ((Yj aRules:Nat):Int)<0):=by omega
 go_wp2_with fail
 refine (Zpq A_aBase _ c_aBase aBase L_aBase _ _ rfl ln_aBase (by omega) (by omega) (H_aBase.out.below B1.out)).mono ?_
 rintro e w2 ⟨rfl,hb⟩
 have B2:=Lib.hid (B1.out.trans (hb.mono B1.out.size))
 have sz2:=hb.size
 have K_aF:=Lib.hid (K_aF.out.later hb)
 clear f_aF_0 f_aF_1
 have f_aF_0:=K_aF.out.at (i:=0) rfl
 have f_aF_1:=K_aF.out.at (i:=1) rfl
 clear B1
 clear hb
 by_cases cc_aBase:((Yd aBase:Nat):Int)≤1048576 - ((Yj aRules:Nat):Int)
 rotate_left
 ·rw [ZX cc_aBase]
  go_wp2
  go_ret
  exact ⟨rfl,B2.out⟩
 rw [Y8 cc_aBase]
 have cz_aBase:Yd aBase≤1048576:=by omega
 have cl_aBase:aBase.length≤1048576:=by have:=cz_aBase;simp only [Yd] at this;omega
 have nn_aBase:¬(1048576 - ((Yj aRules:Nat):Int) - ((Yd aBase:Nat):Int)<0):=by omega
 go_wp2_with fail
 refine (Zk1 [.string aF.rel,.slice aF_A1 aF.args.length aF_c1] aF L_aF _ _ (by omega) (by omega) (Y4.keep H_aF.out (ZN B2.out (Y4.lt H_aF.out)))).mono ?_
 rintro e w3 ⟨rfl,hb⟩
 have B3:=Lib.hid (B2.out.trans (hb.mono B2.out.size))
 have sz3:=hb.size
 have K_aF:=Lib.hid (K_aF.out.later hb)
 clear f_aF_0 f_aF_1
 have f_aF_0:=K_aF.out.at (i:=0) rfl
 have f_aF_1:=K_aF.out.at (i:=1) rfl
 clear B2
 clear hb
 by_cases cc_aF:((YP aF:Nat):Int)≤1048576 - ((Yj aRules:Nat):Int) - ((Yd aBase:Nat):Int)
 rotate_left
 ·rw [ZX cc_aF]
  go_wp2
  go_ret
  exact ⟨rfl,B3.out⟩
 rw [Y8 cc_aF]
 have cz_aF:YP aF≤1048576:=by omega
 have nn_aF:¬(1048576 - ((Yj aRules:Nat):Int) - ((Yd aBase:Nat):Int) - ((YP aF:Nat):Int)<0):=by omega
 obtain ⟨R0,R1,hs0,hi0,rl⟩:=ZE1 aRules cz_aRules wf_aRules aBase cz_aBase wf_aBase aF cz_aF wf_aF
 go_wp2_with fail
 go_region_held3 (fun W=>W.cell? ⟨w.heap.size,0,none⟩=some (.string aF.rel)∧W.cell? ⟨w.heap.size,1,none⟩=some (.slice aF_A1 aF.args.length aF_c1)) (first | exact ⟨f_aF_0,f_aF_1⟩) (first | (go_at_call 12;refine (Zdw A_aRules _ c_aRules aRules L_aRules _ rfl cz_aRules (H_aRules.out.below B3.out.drew)).mono ?_;rintro e w4 ⟨v,rfl,acc⟩;obtain ⟨A_t3aRules,c_t3aRules,rfl⟩:=acc.shape;have hb:=ZEz acc.below (Nat.le_refl _);obtain ⟨L_t3aRules,gt⟩:=acc.got;have B4:=Lib.hid (B3.out.trans (hb.mono B3.out.size));have sz4:=hb.size;have K_aF:=Lib.hid (K_aF.out.later hb);clear f_aF_0 f_aF_1;have f_aF_0:=K_aF.out.at (i:=0) rfl;have f_aF_1:=K_aF.out.at (i:=1) rfl;clear B3;have V_t3aRules:=Lib.hid gt;have ge_t3aRules:=Lib.hid gt.own.ge;have lt_t3aRules:=Lib.hid gt.lt;clear gt hb acc) | (go_at_call 13;refine (ZdN A_aBase _ c_aBase aBase L_aBase _ rfl cz_aBase (H_aBase.out.below B4.out)).mono ?_;rintro e w5 ⟨v,rfl,acc⟩;obtain ⟨A_t4aBase,c_t4aBase,rfl⟩:=acc.shape;have hb:=acc.below;obtain ⟨L_t4aBase,gt⟩:=acc.got;have B5:=Lib.hid (B4.out.trans (hb.mono B4.out.size));have sz5:=hb.size;have V_t3aRules:=Lib.hid (V_t3aRules.out.later hb);have K_aF:=Lib.hid (K_aF.out.later hb);clear f_aF_0 f_aF_1;have f_aF_0:=K_aF.out.at (i:=0) rfl;have f_aF_1:=K_aF.out.at (i:=1) rfl;clear B4;have V_t4aBase:=Lib.hid gt;have ge_t4aBase:=Lib.hid gt.own.ge;have lt_t4aBase:=Lib.hid gt.lt;clear gt hb acc) | (go_at_call 33;refine (ZpQ [.string aF.rel,.slice aF_A1 aF.args.length aF_c1] aF L_aF _ cz_aF (Y4.keep H_aF.out (ZN B5.out (Y4.lt H_aF.out)))).mono ?_;rintro e w6 ⟨cs,L_t5aF,rfl,gt,hb⟩;obtain ⟨t5aF_A1,t5aF_c1,rfl⟩:=Zcc gt.rep;have B6:=Lib.hid (B5.out.trans (hb.mono B5.out.size));have sz6:=hb.size;have V_t3aRules:=Lib.hid (V_t3aRules.out.later hb);have V_t4aBase:=Lib.hid (V_t4aBase.out.later hb);have K_aF:=Lib.hid (K_aF.out.later hb);clear f_aF_0 f_aF_1;have f_aF_0:=K_aF.out.at (i:=0) rfl;have f_aF_1:=K_aF.out.at (i:=1) rfl;clear B5;have V_t5aF:=Lib.hid gt;have ge_t5aF:=Lib.hid gt.own.ge;have lt_t5aF:=Lib.hid gt.lt;clear gt hb) | (go_at_call 32;refine (ZE4 hs0 _ (ZiG hJ0 HJ.out B6.out) A_t3aRules c_t3aRules L_t3aRules V_t3aRules.out.rep A_t4aBase c_t4aBase L_t4aBase V_t4aBase.out.rep [.string aF.rel,.slice t5aF_A1 aF.args.length t5aF_c1] L_t5aF V_t5aF.out.rep).mono ?_;rintro e w7 ⟨v,rfl,acc⟩;obtain ⟨A_w0,c_w0,rfl⟩:=acc.shape;have hb:=acc.below;obtain ⟨L_w0,gt⟩:=acc.got;have B7:=Lib.hid (B6.out.trans (hb.mono B6.out.size));have sz7:=hb.size;have V_t3aRules:=Lib.hid (V_t3aRules.out.later hb);have V_t4aBase:=Lib.hid (V_t4aBase.out.later hb);have V_t5aF:=Lib.hid (V_t5aF.out.later hb);have K_aF:=Lib.hid (K_aF.out.later hb);clear f_aF_0 f_aF_1;have f_aF_0:=K_aF.out.at (i:=0) rfl;have f_aF_1:=K_aF.out.at (i:=1) rfl;clear B6;have V_w0:=Lib.hid gt;have ge_w0:=Lib.hid gt.own.ge;have lt_w0:=Lib.hid gt.lt;clear gt hb acc))
 clear V_t3aRules
 clear V_t4aBase
 clear V_t5aF
 go_wp2_with fail
 refine (Zdw A_aRules _ c_aRules aRules L_aRules _ rfl cz_aRules (H_aRules.out.below B7.out)).mono ?_
 rintro e w8 ⟨v,rfl,acc⟩
 obtain ⟨A_x0,c_x0,rfl⟩:=acc.shape
 have hb:=acc.below
 obtain ⟨L_x0,gt⟩:=acc.got
 have B8:=Lib.hid (B7.out.trans (hb.mono B7.out.size))
 have sz8:=hb.size
 have V_w0:=Lib.hid (V_w0.out.later hb)
 have K_aF:=Lib.hid (K_aF.out.later hb)
 clear f_aF_0 f_aF_1
 have f_aF_0:=K_aF.out.at (i:=0) rfl
 have f_aF_1:=K_aF.out.at (i:=1) rfl
 clear B7
 have V_x0:=Lib.hid gt
 have ge_x0:=Lib.hid gt.own.ge
 have lt_x0:=Lib.hid gt.lt
 clear gt hb acc
 go_wp2_with fail
 refine (ZdN A_aBase _ c_aBase aBase L_aBase _ rfl cz_aBase (H_aBase.out.below B8.out)).mono ?_
 rintro e w9 ⟨v,rfl,acc⟩
 obtain ⟨A_x1,c_x1,rfl⟩:=acc.shape
 have hb:=acc.below
 obtain ⟨L_x1,gt⟩:=acc.got
 have B9:=Lib.hid (B8.out.trans (hb.mono B8.out.size))
 have sz9:=hb.size
 have V_w0:=Lib.hid (V_w0.out.later hb)
 have V_x0:=Lib.hid (V_x0.out.later hb)
 have K_aF:=Lib.hid (K_aF.out.later hb)
 clear f_aF_0 f_aF_1
 have f_aF_0:=K_aF.out.at (i:=0) rfl
 have f_aF_1:=K_aF.out.at (i:=1) rfl
 clear B8
 have V_x1:=Lib.hid gt
 have ge_x1:=Lib.hid gt.own.ge
 have lt_x1:=Lib.hid gt.lt
 clear gt hb acc
 go_wp2_with fail
 refine (ZpQ [.string aF.rel,.slice aF_A1 aF.args.length aF_c1] aF L_aF _ cz_aF (Y4.keep H_aF.out (ZN B9.out (Y4.lt H_aF.out)))).mono ?_
 rintro e w10 ⟨cs,L_x2,rfl,gt,hb⟩
 obtain ⟨x2_A1,x2_c1,rfl⟩:=Zcc gt.rep
 have B10:=Lib.hid (B9.out.trans (hb.mono B9.out.size))
 have sz10:=hb.size
 have V_w0:=Lib.hid (V_w0.out.later hb)
 have V_x0:=Lib.hid (V_x0.out.later hb)
 have V_x1:=Lib.hid (V_x1.out.later hb)
 have K_aF:=Lib.hid (K_aF.out.later hb)
 clear f_aF_0 f_aF_1
 have f_aF_0:=K_aF.out.at (i:=0) rfl
 have f_aF_1:=K_aF.out.at (i:=1) rfl
 clear B9
 have V_x2:=Lib.hid gt
 have ge_x2:=Lib.hid gt.own.ge
 have lt_x2:=Lib.hid gt.lt
 clear gt hb
 have hb:=(Below.refl w10.heap.size w10).alloc (Nat.le_refl _) (.cells #[.string aF.rel,.slice x2_A1 aF.args.length x2_c1] 57)
 have B11:=Lib.hid (B10.out.trans (hb.mono B10.out.size))
 have sz11:=hb.size
 have V_w0:=Lib.hid (V_w0.out.later hb)
 have V_x0:=Lib.hid (V_x0.out.later hb)
 have V_x1:=Lib.hid (V_x1.out.later hb)
 have V_x2:=Lib.hid (V_x2.out.later hb)
 have K_aF:=Lib.hid (K_aF.out.later hb)
 clear f_aF_0 f_aF_1
 have f_aF_0:=K_aF.out.at (i:=0) rfl
 have f_aF_1:=K_aF.out.at (i:=1) rfl
 clear B10
 have szb_x2:w10.heap.size+1≤(w10.alloc (.cells #[.string aF.rel,.slice x2_A1 aF.args.length x2_c1] 57)).heap.size:=Nat.le_of_eq (by simp only [World.alloc,Array.size_push])
 have K_x2:Hid (Blk (w10.alloc (.cells #[.string aF.rel,.slice x2_A1 aF.args.length x2_c1] 57)) w10.heap.size 57 #[.string aF.rel,.slice x2_A1 aF.args.length x2_c1]):=Blk.new _ _ _
 have f_x2_0:=K_x2.out.at (i:=0) rfl
 have f_x2_1:=K_x2.out.at (i:=1) rfl
 clear hb
 go_wp2_with fail
 refine (ZEX hi0 _ (ZiG hJ0 HJ.out B11.out) A_x0 c_x0 L_x0 V_x0.out.rep A_x1 c_x1 L_x1 V_x1.out.rep [.string aF.rel,.slice x2_A1 aF.args.length x2_c1] L_x2 V_x2.out.rep).mono ?_
 rintro e w12 ⟨v,rfl,acc⟩
 obtain ⟨A_g0,c_g0,rfl⟩:=acc.shape
 have hb:=acc.below
 obtain ⟨L_g0,gt⟩:=acc.got
 have B12:=Lib.hid (B11.out.trans (hb.mono B11.out.size))
 have sz12:=hb.size
 have V_w0:=Lib.hid (V_w0.out.later hb)
 have V_x0:=Lib.hid (V_x0.out.later hb)
 have V_x1:=Lib.hid (V_x1.out.later hb)
 have V_x2:=Lib.hid (V_x2.out.later hb)
 have K_aF:=Lib.hid (K_aF.out.later hb)
 clear f_aF_0 f_aF_1
 have f_aF_0:=K_aF.out.at (i:=0) rfl
 have f_aF_1:=K_aF.out.at (i:=1) rfl
 have K_x2:=Lib.hid (K_x2.out.later hb)
 clear f_x2_0 f_x2_1
 have f_x2_0:=K_x2.out.at (i:=0) rfl
 have f_x2_1:=K_x2.out.at (i:=1) rfl
 clear B11
 have V_g0:=Lib.hid gt
 have ge_g0:=Lib.hid gt.own.ge
 have lt_g0:=Lib.hid gt.lt
 clear gt hb acc
 go_wp2_with fail
 refine (ZdB A_g0 A_w0 _ c_g0 c_w0 _ L_g0 L_w0 _ rfl (by omega) (ZU V_g0.out.rep).2.2 (ZU V_w0.out.rep).2.2).mono ?_
 rintro e w13 ⟨rfl,hb⟩
 have B13:=Lib.hid (B12.out.trans (hb.mono B12.out.size))
 have sz13:=hb.size
 have V_w0:=Lib.hid (V_w0.out.later hb)
 have V_x0:=Lib.hid (V_x0.out.later hb)
 have V_x1:=Lib.hid (V_x1.out.later hb)
 have V_x2:=Lib.hid (V_x2.out.later hb)
 have V_g0:=Lib.hid (V_g0.out.later hb)
 have K_aF:=Lib.hid (K_aF.out.later hb)
 clear f_aF_0 f_aF_1
 have f_aF_0:=K_aF.out.at (i:=0) rfl
 have f_aF_1:=K_aF.out.at (i:=1) rfl
 have K_x2:=Lib.hid (K_x2.out.later hb)
 clear f_x2_0 f_x2_1
 have f_x2_0:=K_x2.out.at (i:=0) rfl
 have f_x2_1:=K_x2.out.at (i:=1) rfl
 clear B12
 clear hb
 go_wp2_with fail
 refine (Zdw A_aRules _ c_aRules aRules L_aRules _ rfl cz_aRules (H_aRules.out.below B13.out)).mono ?_
 rintro e w14 ⟨v,rfl,acc⟩
 obtain ⟨A_t13aRules,c_t13aRules,rfl⟩:=acc.shape
 have hb:=acc.below
 obtain ⟨L_t13aRules,gt⟩:=acc.got
 have B14:=Lib.hid (B13.out.trans (hb.mono B13.out.size))
 have sz14:=hb.size
 have V_w0:=Lib.hid (V_w0.out.later hb)
 have V_x0:=Lib.hid (V_x0.out.later hb)
 have V_x1:=Lib.hid (V_x1.out.later hb)
 have V_x2:=Lib.hid (V_x2.out.later hb)
 have V_g0:=Lib.hid (V_g0.out.later hb)
 have K_aF:=Lib.hid (K_aF.out.later hb)
 clear f_aF_0 f_aF_1
 have f_aF_0:=K_aF.out.at (i:=0) rfl
 have f_aF_1:=K_aF.out.at (i:=1) rfl
 have K_x2:=Lib.hid (K_x2.out.later hb)
 clear f_x2_0 f_x2_1
 have f_x2_0:=K_x2.out.at (i:=0) rfl
 have f_x2_1:=K_x2.out.at (i:=1) rfl
 clear B13
 have V_t13aRules:=Lib.hid gt
 have ge_t13aRules:=Lib.hid gt.own.ge
 have lt_t13aRules:=Lib.hid gt.lt
 clear gt hb acc
 go_wp2_with fail
 refine (ZoU A_x0 A_t13aRules _ c_x0 c_t13aRules _ L_x0 L_t13aRules _ rfl (by omega) (ZU V_x0.out.rep).2.2 (ZU V_t13aRules.out.rep).2.2).mono ?_
 rintro e w15 ⟨rfl,hb⟩
 have B15:=Lib.hid (B14.out.trans (hb.mono B14.out.size))
 have sz15:=hb.size
 have V_w0:=Lib.hid (V_w0.out.later hb)
 have V_x0:=Lib.hid (V_x0.out.later hb)
 have V_x1:=Lib.hid (V_x1.out.later hb)
 have V_x2:=Lib.hid (V_x2.out.later hb)
 have V_g0:=Lib.hid (V_g0.out.later hb)
 have V_t13aRules:=Lib.hid (V_t13aRules.out.later hb)
 have K_aF:=Lib.hid (K_aF.out.later hb)
 clear f_aF_0 f_aF_1
 have f_aF_0:=K_aF.out.at (i:=0) rfl
 have f_aF_1:=K_aF.out.at (i:=1) rfl
 have K_x2:=Lib.hid (K_x2.out.later hb)
 clear f_x2_0 f_x2_1
 have f_x2_0:=K_x2.out.at (i:=0) rfl
 have f_x2_1:=K_x2.out.at (i:=1) rfl
 clear B14
 clear hb
 clear V_t13aRules
 go_wp2_with fail
 refine (ZdN A_aBase _ c_aBase aBase L_aBase _ rfl cz_aBase (H_aBase.out.below B15.out)).mono ?_
 rintro e w16 ⟨v,rfl,acc⟩
 obtain ⟨A_t15aBase,c_t15aBase,rfl⟩:=acc.shape
 have hb:=acc.below
 obtain ⟨L_t15aBase,gt⟩:=acc.got
 have B16:=Lib.hid (B15.out.trans (hb.mono B15.out.size))
 have sz16:=hb.size
 have V_w0:=Lib.hid (V_w0.out.later hb)
 have V_x0:=Lib.hid (V_x0.out.later hb)
 have V_x1:=Lib.hid (V_x1.out.later hb)
 have V_x2:=Lib.hid (V_x2.out.later hb)
 have V_g0:=Lib.hid (V_g0.out.later hb)
 have K_aF:=Lib.hid (K_aF.out.later hb)
 clear f_aF_0 f_aF_1
 have f_aF_0:=K_aF.out.at (i:=0) rfl
 have f_aF_1:=K_aF.out.at (i:=1) rfl
 have K_x2:=Lib.hid (K_x2.out.later hb)
 clear f_x2_0 f_x2_1
 have f_x2_0:=K_x2.out.at (i:=0) rfl
 have f_x2_1:=K_x2.out.at (i:=1) rfl
 clear B15
 have V_t15aBase:=Lib.hid gt
 have ge_t15aBase:=Lib.hid gt.own.ge
 have lt_t15aBase:=Lib.hid gt.lt
 clear gt hb acc
 go_wp2_with fail
 refine (ZdB A_x1 A_t15aBase _ c_x1 c_t15aBase _ L_x1 L_t15aBase _ rfl (by omega) (ZU V_x1.out.rep).2.2 (ZU V_t15aBase.out.rep).2.2).mono ?_
 rintro e w17 ⟨rfl,hb⟩
 have B17:=Lib.hid (B16.out.trans (hb.mono B16.out.size))
 have sz17:=hb.size
 have V_w0:=Lib.hid (V_w0.out.later hb)
 have V_x0:=Lib.hid (V_x0.out.later hb)
 have V_x1:=Lib.hid (V_x1.out.later hb)
 have V_x2:=Lib.hid (V_x2.out.later hb)
 have V_g0:=Lib.hid (V_g0.out.later hb)
 have V_t15aBase:=Lib.hid (V_t15aBase.out.later hb)
 have K_aF:=Lib.hid (K_aF.out.later hb)
 clear f_aF_0 f_aF_1
 have f_aF_0:=K_aF.out.at (i:=0) rfl
 have f_aF_1:=K_aF.out.at (i:=1) rfl
 have K_x2:=Lib.hid (K_x2.out.later hb)
 clear f_x2_0 f_x2_1
 have f_x2_0:=K_x2.out.at (i:=0) rfl
 have f_x2_1:=K_x2.out.at (i:=1) rfl
 clear B16
 clear hb
 clear V_t15aBase
 go_wp2_with fail
 go_region_held3 (fun W=>W.cell? ⟨w10.heap.size,0,none⟩=some (.string aF.rel)∧W.cell? ⟨w10.heap.size,1,none⟩=some (.slice x2_A1 aF.args.length x2_c1)∧W.cell? ⟨w.heap.size,0,none⟩=some (.string aF.rel)∧W.cell? ⟨w.heap.size,1,none⟩=some (.slice aF_A1 aF.args.length aF_c1)) (first | exact ⟨f_x2_0,f_x2_1,f_aF_0,f_aF_1⟩ | exact ⟨r_x2_0,r_x2_1,r_aF_0,r_aF_1⟩) (first | (go_at_call 33;refine (ZpQ [.string aF.rel,.slice aF_A1 aF.args.length aF_c1] aF L_aF _ cz_aF (Y4.keep H_aF.out (ZN B17.out.drew (Y4.lt H_aF.out)))).mono ?_;rintro e w18 ⟨cs,L_t17aF,rfl,gt,hb⟩;obtain ⟨t17aF_A1,t17aF_c1,rfl⟩:=Zcc gt.rep;replace hb:=ZEz hb (Nat.le_refl _);have KA:=K_aF.out.later hb;have KX:=K_x2.out.later hb;have r_x2_0:=KX.at (i:=0) rfl;have r_x2_1:=KX.at (i:=1) rfl;have r_aF_0:=KA.at (i:=0) rfl;have r_aF_1:=KA.at (i:=1) rfl) | (go_at_call 35;refine (ZpY [.string aF.rel,.slice x2_A1 aF.args.length x2_c1] [.string aF.rel,.slice t17aF_A1 aF.args.length t17aF_c1] aF L_x2 L_t17aF _ (V_x2.out.later hb).rep gt.rep).mono ?_;rintro e w19 ⟨rfl,hb2⟩;have KX2:=KX.later hb2;have KA2:=KA.later hb2;replace r_x2_0:=KX2.at (i:=0) rfl;replace r_x2_1:=KX2.at (i:=1) rfl;replace r_aF_0:=KA2.at (i:=0) rfl;replace r_aF_1:=KA2.at (i:=1) rfl))
 clear KA KX KA2 KX2 r_x2_0 r_x2_1 r_aF_0 r_aF_1
 have B18:=Lib.hid (B17.out.trans (hb.mono B17.out.size))
 have sz18:=hb.size
 have V_w0:=Lib.hid (V_w0.out.later hb)
 have V_x0:=Lib.hid (V_x0.out.later hb)
 have V_x1:=Lib.hid (V_x1.out.later hb)
 have V_x2:=Lib.hid (V_x2.out.later hb)
 have V_g0:=Lib.hid (V_g0.out.later hb)
 have K_aF:=Lib.hid (K_aF.out.later hb)
 clear f_aF_0 f_aF_1
 have f_aF_0:=K_aF.out.at (i:=0) rfl
 have f_aF_1:=K_aF.out.at (i:=1) rfl
 have K_x2:=Lib.hid (K_x2.out.later hb)
 clear f_x2_0 f_x2_1
 have f_x2_0:=K_x2.out.at (i:=0) rfl
 have f_x2_1:=K_x2.out.at (i:=1) rfl
 clear B17
 clear hb gt
 have B19:=Lib.hid (B18.out.trans (hb2.mono B18.out.size))
 have sz19:=hb2.size
 have V_w0:=Lib.hid (V_w0.out.later hb2)
 have V_x0:=Lib.hid (V_x0.out.later hb2)
 have V_x1:=Lib.hid (V_x1.out.later hb2)
 have V_x2:=Lib.hid (V_x2.out.later hb2)
 have V_g0:=Lib.hid (V_g0.out.later hb2)
 have K_aF:=Lib.hid (K_aF.out.later hb2)
 clear f_aF_0 f_aF_1
 have f_aF_0:=K_aF.out.at (i:=0) rfl
 have f_aF_1:=K_aF.out.at (i:=1) rfl
 have K_x2:=Lib.hid (K_x2.out.later hb2)
 clear f_x2_0 f_x2_1
 have f_x2_0:=K_x2.out.at (i:=0) rfl
 have f_x2_1:=K_x2.out.at (i:=1) rfl
 clear B18
 clear hb2
 have nl_x0_19:=ZnJ ((1:Int)) aRules
 have nb_x0_19:YC ((1:Int)) aRules≤4611686018427387904:=by omega
 have ng_x0_19:=ZhJ ((1:Int)) aRules
 go_wp2_with fail
 refine (ZlE A_x0 _ c_x0 aRules L_x0 _ _ _ rfl (by omega) (by omega) (by omega) V_x0.out).mono ?_
 rintro e w20 ⟨rfl,gm,on⟩
 have B20:=Lib.hid (B19.out.trans (on.below B19.out.size (fun y m=>by have:=ge_x0.out y m;omega)))
 have sz20:=on.size
 have V_w0:=Lib.hid (V_w0.out.only on (fun y m m'=>by have:=lt_w0.out y m;have:=ge_x0.out y m';omega))
 have V_x1:=Lib.hid (V_x1.out.only on (fun y m m'=>by have:=ge_x1.out y m;have:=lt_x0.out y m';omega))
 have V_x2:=Lib.hid (V_x2.out.only on (fun y m m'=>by have:=ge_x2.out y m;have:=lt_x0.out y m';omega))
 have V_g0:=Lib.hid (V_g0.out.only on (fun y m m'=>by have:=ge_g0.out y m;have:=lt_x0.out y m';omega))
 have K_aF:=Lib.hid (Zba K_aF.out on (fun m=>by have:=ge_x0.out _ m;have:=lt_x0.out _ m;omega))
 clear f_aF_0 f_aF_1
 have f_aF_0:=K_aF.out.at (i:=0) rfl
 have f_aF_1:=K_aF.out.at (i:=1) rfl
 have K_x2:=Lib.hid (Zba K_x2.out on (fun m=>by have:=ge_x0.out _ m;have:=lt_x0.out _ m;omega))
 clear f_x2_0 f_x2_1
 have f_x2_0:=K_x2.out.at (i:=0) rfl
 have f_x2_1:=K_x2.out.at (i:=1) rfl
 clear B19
 have V_x0:=Lib.hid gm
 clear gm on
 clear V_x0
 have nl_x1_20:=Zht (YC ((1:Int)) aRules) aBase
 have nb_x1_20:Zy (YC ((1:Int)) aRules) aBase≤4611686018427387904:=by omega
 have ng_x1_20:=Zcq (YC ((1:Int)) aRules) aBase
 go_wp2_with fail
 refine (ZgC A_x1 _ c_x1 aBase L_x1 _ _ _ rfl (by omega) (by omega) (by omega) V_x1.out).mono ?_
 rintro e w21 ⟨rfl,gm,on⟩
 have B21:=Lib.hid (B20.out.trans (on.below B20.out.size (fun y m=>by have:=ge_x1.out y m;omega)))
 have sz21:=on.size
 have V_w0:=Lib.hid (V_w0.out.only on (fun y m m'=>by have:=lt_w0.out y m;have:=ge_x1.out y m';omega))
 have V_x2:=Lib.hid (V_x2.out.only on (fun y m m'=>by have:=ge_x2.out y m;have:=lt_x1.out y m';omega))
 have V_g0:=Lib.hid (V_g0.out.only on (fun y m m'=>by have:=ge_g0.out y m;have:=lt_x1.out y m';omega))
 have K_aF:=Lib.hid (Zba K_aF.out on (fun m=>by have:=ge_x1.out _ m;have:=lt_x1.out _ m;omega))
 clear f_aF_0 f_aF_1
 have f_aF_0:=K_aF.out.at (i:=0) rfl
 have f_aF_1:=K_aF.out.at (i:=1) rfl
 have K_x2:=Lib.hid (Zba K_x2.out on (fun m=>by have:=ge_x1.out _ m;have:=lt_x1.out _ m;omega))
 clear f_x2_0 f_x2_1
 have f_x2_0:=K_x2.out.at (i:=0) rfl
 have f_x2_1:=K_x2.out.at (i:=1) rfl
 clear B20
 have V_x1:=Lib.hid gm
 clear gm on
 clear V_x1
 have nl_x2_21:=ZFc (Zy (YC ((1:Int)) aRules) aBase) aF
 have nb_x2_21:ZEQ (Zy (YC ((1:Int)) aRules) aBase) aF≤4611686018427387904:=by omega
 have ng_x2_21:=ZFd (Zy (YC ((1:Int)) aRules) aBase) aF
 go_wp2_with fail
 refine (ZFe _ aF L_x2 _ _ _ (by omega) (by omega) V_x2.out).mono ?_
 rintro e w22 ⟨rfl,gm,on⟩
 have B22:=Lib.hid (B21.out.trans (on.below B21.out.size (fun y m=>by have:=ge_x2.out y m;omega)))
 have sz22:=on.size
 have V_w0:=Lib.hid (V_w0.out.only on (fun y m m'=>by have:=lt_w0.out y m;have:=ge_x2.out y m';omega))
 have V_g0:=Lib.hid (V_g0.out.only on (fun y m m'=>by have:=ge_g0.out y m;have:=lt_x2.out y m';omega))
 have K_aF:=Lib.hid (Zba K_aF.out on (fun m=>by have:=ge_x2.out _ m;have:=lt_x2.out _ m;omega))
 clear f_aF_0 f_aF_1
 have f_aF_0:=K_aF.out.at (i:=0) rfl
 have f_aF_1:=K_aF.out.at (i:=1) rfl
 have K_x2:=Lib.hid (Zba K_x2.out on (fun m=>by have:=ge_x2.out _ m;have:=lt_x2.out _ m;omega))
 clear f_x2_0 f_x2_1
 have f_x2_0:=K_x2.out.at (i:=0) rfl
 have f_x2_1:=K_x2.out.at (i:=1) rfl
 clear B21
 have V_x2:=Lib.hid gm
 clear gm on
 clear V_x2
 have kn:¬(ZEQ (Zy (YC ((1:Int)) aRules) aBase) aF<0):=by omega
 go_wp2_with fail
 refine (ZdB A_g0 A_w0 _ c_g0 c_w0 _ L_g0 L_w0 _ rfl (by omega) (ZU V_g0.out.rep).2.2 (ZU V_w0.out.rep).2.2).mono ?_
 rintro e w23 ⟨rfl,hb⟩
 have B23:=Lib.hid (B22.out.trans (hb.mono B22.out.size))
 have sz23:=hb.size
 have V_w0:=Lib.hid (V_w0.out.later hb)
 have V_g0:=Lib.hid (V_g0.out.later hb)
 have K_aF:=Lib.hid (K_aF.out.later hb)
 clear f_aF_0 f_aF_1
 have f_aF_0:=K_aF.out.at (i:=0) rfl
 have f_aF_1:=K_aF.out.at (i:=1) rfl
 have K_x2:=Lib.hid (K_x2.out.later hb)
 clear f_x2_0 f_x2_1
 have f_x2_0:=K_x2.out.at (i:=0) rfl
 have f_x2_1:=K_x2.out.at (i:=1) rfl
 clear B22
 clear hb
 have nl_g0_23:=Zht ((1:Int)) R0
 have nb_g0_23:Zy ((1:Int)) R0≤4611686018427387904:=by omega
 have ng_g0_23:=Zcq ((1:Int)) R0
 go_wp2_with fail
 refine (ZgC A_g0 _ c_g0 R0 L_g0 _ _ _ rfl (by omega) (by omega) (by omega) V_g0.out).mono ?_
 rintro e w24 ⟨rfl,gm,on⟩
 have B24:=Lib.hid (B23.out.trans (on.below B23.out.size (fun y m=>by have:=ge_g0.out y m;omega)))
 have sz24:=on.size
 have V_w0:=Lib.hid (V_w0.out.only on (fun y m m'=>by have:=lt_w0.out y m;have:=ge_g0.out y m';omega))
 have K_aF:=Lib.hid (Zba K_aF.out on (fun m=>by have:=ge_g0.out _ m;have:=lt_g0.out _ m;omega))
 clear f_aF_0 f_aF_1
 have f_aF_0:=K_aF.out.at (i:=0) rfl
 have f_aF_1:=K_aF.out.at (i:=1) rfl
 have K_x2:=Lib.hid (Zba K_x2.out on (fun m=>by have:=ge_g0.out _ m;have:=lt_g0.out _ m;omega))
 clear f_x2_0 f_x2_1
 have f_x2_0:=K_x2.out.at (i:=0) rfl
 have f_x2_1:=K_x2.out.at (i:=1) rfl
 clear B23
 have V_g0:=Lib.hid gm
 clear gm on
 go_wp2_with fail
 refine (ZgJ A_g0 _ c_g0 R0 L_g0 _ _ rfl (by omega) (by omega) (by omega) (ZU V_g0.out.rep).2.2).mono ?_
 rintro e w25 ⟨rfl,hb⟩
 have B25:=Lib.hid (B24.out.trans (hb.mono B24.out.size))
 have sz25:=hb.size
 have V_w0:=Lib.hid (V_w0.out.later hb)
 have V_g0:=Lib.hid (V_g0.out.later hb)
 have K_aF:=Lib.hid (K_aF.out.later hb)
 clear f_aF_0 f_aF_1
 have f_aF_0:=K_aF.out.at (i:=0) rfl
 have f_aF_1:=K_aF.out.at (i:=1) rfl
 have K_x2:=Lib.hid (K_x2.out.later hb)
 clear f_x2_0 f_x2_1
 have f_x2_0:=K_x2.out.at (i:=0) rfl
 have f_x2_1:=K_x2.out.at (i:=1) rfl
 clear B24
 clear hb
 have qn25:¬(Zy ((1:Int)) R0<0):=by omega
 have qm25:((Zy ((1:Int)) R0) != (Zy ((1:Int)) R0))=false:=by simp
 go_wp2_with fail
 go_region_held3 (fun W=>W.cell? ⟨w.heap.size,0,none⟩=some (.string aF.rel)∧W.cell? ⟨w.heap.size,1,none⟩=some (.slice aF_A1 aF.args.length aF_c1)) (first | exact ⟨f_aF_0,f_aF_1⟩) (first | (go_at_call 12;refine (Zdw A_aRules _ c_aRules aRules L_aRules _ rfl cz_aRules (H_aRules.out.below B25.out.drew)).mono ?_;rintro e w26 ⟨v,rfl,acc⟩;obtain ⟨A_t25aRules,c_t25aRules,rfl⟩:=acc.shape;have hb:=ZEz acc.below (Nat.le_refl _);obtain ⟨L_t25aRules,gt⟩:=acc.got;have B26:=Lib.hid (B25.out.trans (hb.mono B25.out.size));have sz26:=hb.size;have V_w0:=Lib.hid (V_w0.out.later hb);have V_g0:=Lib.hid (V_g0.out.later hb);have K_aF:=Lib.hid (K_aF.out.later hb);clear f_aF_0 f_aF_1;have f_aF_0:=K_aF.out.at (i:=0) rfl;have f_aF_1:=K_aF.out.at (i:=1) rfl;have K_x2:=Lib.hid (K_x2.out.later hb);clear f_x2_0 f_x2_1;have f_x2_0:=K_x2.out.at (i:=0) rfl;have f_x2_1:=K_x2.out.at (i:=1) rfl;clear B25;have V_t25aRules:=Lib.hid gt;have ge_t25aRules:=Lib.hid gt.own.ge;have lt_t25aRules:=Lib.hid gt.lt;clear gt hb acc) | (go_at_call 13;refine (ZdN A_aBase _ c_aBase aBase L_aBase _ rfl cz_aBase (H_aBase.out.below B26.out)).mono ?_;rintro e w27 ⟨v,rfl,acc⟩;obtain ⟨A_t26aBase,c_t26aBase,rfl⟩:=acc.shape;have hb:=acc.below;obtain ⟨L_t26aBase,gt⟩:=acc.got;have B27:=Lib.hid (B26.out.trans (hb.mono B26.out.size));have sz27:=hb.size;have V_w0:=Lib.hid (V_w0.out.later hb);have V_g0:=Lib.hid (V_g0.out.later hb);have V_t25aRules:=Lib.hid (V_t25aRules.out.later hb);have K_aF:=Lib.hid (K_aF.out.later hb);clear f_aF_0 f_aF_1;have f_aF_0:=K_aF.out.at (i:=0) rfl;have f_aF_1:=K_aF.out.at (i:=1) rfl;have K_x2:=Lib.hid (K_x2.out.later hb);clear f_x2_0 f_x2_1;have f_x2_0:=K_x2.out.at (i:=0) rfl;have f_x2_1:=K_x2.out.at (i:=1) rfl;clear B26;have V_t26aBase:=Lib.hid gt;have ge_t26aBase:=Lib.hid gt.own.ge;have lt_t26aBase:=Lib.hid gt.lt;clear gt hb acc) | (go_at_call 33;refine (ZpQ [.string aF.rel,.slice aF_A1 aF.args.length aF_c1] aF L_aF _ cz_aF (Y4.keep H_aF.out (ZN B27.out (Y4.lt H_aF.out)))).mono ?_;rintro e w28 ⟨cs,L_t27aF,rfl,gt,hb⟩;obtain ⟨t27aF_A1,t27aF_c1,rfl⟩:=Zcc gt.rep;have B28:=Lib.hid (B27.out.trans (hb.mono B27.out.size));have sz28:=hb.size;have V_w0:=Lib.hid (V_w0.out.later hb);have V_g0:=Lib.hid (V_g0.out.later hb);have V_t25aRules:=Lib.hid (V_t25aRules.out.later hb);have V_t26aBase:=Lib.hid (V_t26aBase.out.later hb);have K_aF:=Lib.hid (K_aF.out.later hb);clear f_aF_0 f_aF_1;have f_aF_0:=K_aF.out.at (i:=0) rfl;have f_aF_1:=K_aF.out.at (i:=1) rfl;have K_x2:=Lib.hid (K_x2.out.later hb);clear f_x2_0 f_x2_1;have f_x2_0:=K_x2.out.at (i:=0) rfl;have f_x2_1:=K_x2.out.at (i:=1) rfl;clear B27;have V_t27aF:=Lib.hid gt;have ge_t27aF:=Lib.hid gt.own.ge;have lt_t27aF:=Lib.hid gt.lt;clear gt hb) | (go_at_call 34;refine (ZEX hi0 _ (ZiG hJ0 HJ.out B28.out) A_t25aRules c_t25aRules L_t25aRules V_t25aRules.out.rep A_t26aBase c_t26aBase L_t26aBase V_t26aBase.out.rep [.string aF.rel,.slice t27aF_A1 aF.args.length t27aF_c1] L_t27aF V_t27aF.out.rep).mono ?_;rintro e w29 ⟨v,rfl,acc⟩;obtain ⟨A_h0,c_h0,rfl⟩:=acc.shape;have hb:=acc.below;obtain ⟨L_h0,gt⟩:=acc.got;have B29:=Lib.hid (B28.out.trans (hb.mono B28.out.size));have sz29:=hb.size;have V_w0:=Lib.hid (V_w0.out.later hb);have V_g0:=Lib.hid (V_g0.out.later hb);have V_t25aRules:=Lib.hid (V_t25aRules.out.later hb);have V_t26aBase:=Lib.hid (V_t26aBase.out.later hb);have V_t27aF:=Lib.hid (V_t27aF.out.later hb);have K_aF:=Lib.hid (K_aF.out.later hb);clear f_aF_0 f_aF_1;have f_aF_0:=K_aF.out.at (i:=0) rfl;have f_aF_1:=K_aF.out.at (i:=1) rfl;have K_x2:=Lib.hid (K_x2.out.later hb);clear f_x2_0 f_x2_1;have f_x2_0:=K_x2.out.at (i:=0) rfl;have f_x2_1:=K_x2.out.at (i:=1) rfl;clear B28;have V_h0:=Lib.hid gt;have ge_h0:=Lib.hid gt.own.ge;have lt_h0:=Lib.hid gt.lt;clear gt hb acc))
 clear V_t25aRules
 clear V_t26aBase
 clear V_t27aF
 go_wp2_with fail
 refine (ZdB A_h0 A_w0 _ c_h0 c_w0 _ L_h0 L_w0 _ rfl (by omega) (ZU V_h0.out.rep).2.2 (ZU V_w0.out.rep).2.2).mono ?_
 rintro e w30 ⟨rfl,hb⟩
 have B30:=Lib.hid (B29.out.trans (hb.mono B29.out.size))
 have sz30:=hb.size
 have V_w0:=Lib.hid (V_w0.out.later hb)
 have V_g0:=Lib.hid (V_g0.out.later hb)
 have V_h0:=Lib.hid (V_h0.out.later hb)
 have K_aF:=Lib.hid (K_aF.out.later hb)
 clear f_aF_0 f_aF_1
 have f_aF_0:=K_aF.out.at (i:=0) rfl
 have f_aF_1:=K_aF.out.at (i:=1) rfl
 have K_x2:=Lib.hid (K_x2.out.later hb)
 clear f_x2_0 f_x2_1
 have f_x2_0:=K_x2.out.at (i:=0) rfl
 have f_x2_1:=K_x2.out.at (i:=1) rfl
 clear B29
 clear hb
 go_wp2_with fail
 refine (ZgJ A_g0 _ c_g0 R0 L_g0 _ _ rfl (by omega) (by omega) (by omega) (ZU V_g0.out.rep).2.2).mono ?_
 rintro e w31 ⟨rfl,hb⟩
 have B31:=Lib.hid (B30.out.trans (hb.mono B30.out.size))
 have sz31:=hb.size
 have V_w0:=Lib.hid (V_w0.out.later hb)
 have V_g0:=Lib.hid (V_g0.out.later hb)
 have V_h0:=Lib.hid (V_h0.out.later hb)
 have K_aF:=Lib.hid (K_aF.out.later hb)
 clear f_aF_0 f_aF_1
 have f_aF_0:=K_aF.out.at (i:=0) rfl
 have f_aF_1:=K_aF.out.at (i:=1) rfl
 have K_x2:=Lib.hid (K_x2.out.later hb)
 clear f_x2_0 f_x2_1
 have f_x2_0:=K_x2.out.at (i:=0) rfl
 have f_x2_1:=K_x2.out.at (i:=1) rfl
 clear B30
 clear hb
 have qn31:¬(Zy ((1:Int)) R0<0):=by omega
 have qm31:((Zy ((1:Int)) R0) != (Zy ((1:Int)) R0))=false:=by simp
 go_wp2_with fail
 go_ret
 exact ⟨rfl,B31.out⟩
end Go.Proofs.YtojnhepgnbhaaaaGreatDoor
namespace Go.Proofs.YtojnhepgnbhaaaaGreatDoor
open Go.RowKit
set_option maxRecDepth 100000 in
theorem Zrf:ZhR Tryz.prog 54 Y4 ZpO:=by
 intro H enc w base spare held fuel cs x h
 obtain ⟨xs,n,_,_,hlen,hxl,hf⟩:=DataW.trod_struct Tryz.underlying54 h
 have hl:cs.length=2:=hlen.trans (by kernel_rfl)
 have hx:xs.length=2:=hxl
 match cs,hl with
 | [a0,a1],_=>
  have f0:DataW.trod enc Tryz.prog w base spare held n 9 [a0]=some (xs[0]'(by omega)):=by
   have this:DataW.trod enc Tryz.prog w base spare held n 9 (List.take (Tryz.prog.cellsOf 9) (List.drop 0 [a0,a1]))=_:=(hf 0 _ rfl).trans (List.getElem?_eq_getElem (show 0<xs.length by omega))
   rw [show Tryz.prog.cellsOf 9=1 by kernel_rfl] at this
   exact this
  have f1:DataW.trod enc Tryz.prog w base spare held n 44 [a1]=some (xs[1]'(by omega)):=by
   have this:DataW.trod enc Tryz.prog w base spare held n 44 (List.take (Tryz.prog.cellsOf 44) (List.drop 1 [a0,a1]))=_:=(hf 1 _ rfl).trans (List.getElem?_eq_getElem (show 1<xs.length by omega))
   rw [show Tryz.prog.cellsOf 44=1 by kernel_rfl] at this
   exact this
  obtain ⟨d0,M0,r0,w0⟩:=(Qp Tryz.underlying9) f0
  obtain ⟨e0,_,t0⟩:=r0
  cases e0
  obtain ⟨d1,M1,r1,w1⟩:=(ZaH Tryz.underlying44 (by kernel_rfl) (Qp Tryz.underlying9)) f1
  obtain ⟨A1,c1,e1,n1,m1,s1⟩:=r1
  cases e1
  exact ⟨⟨d0,d1⟩,_,⟨A1,c1,M1,rfl,rfl,t0,n1,m1,s1⟩,⟨w0,w1⟩⟩
set_option maxRecDepth 100000 in
theorem Zig:ZhR Tryz.prog 46 ZcY Ziu:=by
 intro H enc w base spare held fuel cs x h
 obtain ⟨xs,n,_,_,hlen,hxl,hf⟩:=DataW.trod_struct Tryz.underlying46 h
 have hl:cs.length=2:=hlen.trans (by kernel_rfl)
 have hx:xs.length=2:=hxl
 match cs,hl with
 | [a0,a1],_=>
  have f0:DataW.trod enc Tryz.prog w base spare held n 9 [a0]=some (xs[0]'(by omega)):=by
   have this:DataW.trod enc Tryz.prog w base spare held n 9 (List.take (Tryz.prog.cellsOf 9) (List.drop 0 [a0,a1]))=_:=(hf 0 _ rfl).trans (List.getElem?_eq_getElem (show 0<xs.length by omega))
   rw [show Tryz.prog.cellsOf 9=1 by kernel_rfl] at this
   exact this
  have f1:DataW.trod enc Tryz.prog w base spare held n 44 [a1]=some (xs[1]'(by omega)):=by
   have this:DataW.trod enc Tryz.prog w base spare held n 44 (List.take (Tryz.prog.cellsOf 44) (List.drop 1 [a0,a1]))=_:=(hf 1 _ rfl).trans (List.getElem?_eq_getElem (show 1<xs.length by omega))
   rw [show Tryz.prog.cellsOf 44=1 by kernel_rfl] at this
   exact this
  obtain ⟨d0,M0,r0,w0⟩:=(Qp Tryz.underlying9) f0
  obtain ⟨e0,_,t0⟩:=r0
  cases e0
  obtain ⟨d1,M1,r1,w1⟩:=(ZaH Tryz.underlying44 (by kernel_rfl) (Qp Tryz.underlying9)) f1
  obtain ⟨A1,c1,e1,n1,m1,s1⟩:=r1
  cases e1
  exact ⟨⟨d0,d1⟩,_,⟨A1,c1,M1,rfl,rfl,t0,n1,m1,s1⟩,⟨w0,w1⟩⟩
set_option maxRecDepth 100000 in
theorem Zrb:ZhR Tryz.prog 158 XV Ztj:=by
 intro H enc w base spare held fuel cs x h
 obtain ⟨xs,n,_,_,hlen,hxl,hf⟩:=DataW.trod_struct Tryz.underlying158 h
 have hl:cs.length=5:=hlen.trans (by kernel_rfl)
 have hx:xs.length=4:=hxl
 match cs,hl with
 | [a0,a1,a2,a3,a4],_=>
  have f0:DataW.trod enc Tryz.prog w base spare held n 3 [a0]=some (xs[0]'(by omega)):=by
   have this:DataW.trod enc Tryz.prog w base spare held n 3 (List.take (Tryz.prog.cellsOf 3) (List.drop 0 [a0,a1,a2,a3,a4]))=_:=(hf 0 _ rfl).trans (List.getElem?_eq_getElem (show 0<xs.length by omega))
   rw [show Tryz.prog.cellsOf 3=1 by kernel_rfl] at this
   exact this
  have f1:DataW.trod enc Tryz.prog w base spare held n 46 [a1,a2]=some (xs[1]'(by omega)):=by
   have this:DataW.trod enc Tryz.prog w base spare held n 46 (List.take (Tryz.prog.cellsOf 46) (List.drop 1 [a0,a1,a2,a3,a4]))=_:=(hf 1 _ rfl).trans (List.getElem?_eq_getElem (show 1<xs.length by omega))
   rw [show Tryz.prog.cellsOf 46=2 by kernel_rfl] at this
   exact this
  have f2:DataW.trod enc Tryz.prog w base spare held n 9 [a3]=some (xs[2]'(by omega)):=by
   have this:DataW.trod enc Tryz.prog w base spare held n 9 (List.take (Tryz.prog.cellsOf 9) (List.drop 3 [a0,a1,a2,a3,a4]))=_:=(hf 2 _ rfl).trans (List.getElem?_eq_getElem (show 2<xs.length by omega))
   rw [show Tryz.prog.cellsOf 9=1 by kernel_rfl] at this
   exact this
  have f3:DataW.trod enc Tryz.prog w base spare held n 9 [a4]=some (xs[3]'(by omega)):=by
   have this:DataW.trod enc Tryz.prog w base spare held n 9 (List.take (Tryz.prog.cellsOf 9) (List.drop 4 [a0,a1,a2,a3,a4]))=_:=(hf 3 _ rfl).trans (List.getElem?_eq_getElem (show 3<xs.length by omega))
   rw [show Tryz.prog.cellsOf 9=1 by kernel_rfl] at this
   exact this
  obtain ⟨d0,M0,r0,w0⟩:=(Zin Tryz.underlying3) f0
  obtain ⟨e0,_⟩:=r0
  cases e0
  obtain ⟨d1,M1,r1,w1⟩:=Zig f1
  obtain ⟨A1,c1,N1,e1,g1,t0,n1,m1,s1⟩:=r1
  cases e1
  subst g1
  obtain ⟨d2,M2,r2,w2⟩:=(Qp Tryz.underlying9) f2
  obtain ⟨e2,_,t1⟩:=r2
  cases e2
  obtain ⟨d3,M3,r3,w3⟩:=(Qp Tryz.underlying9) f3
  obtain ⟨e3,_,t2⟩:=r3
  cases e3
  exact ⟨⟨d0,d1,d2,d3⟩,_,⟨A1,c1,M1,rfl,rfl,t0,t1,t2,n1,m1,s1⟩,⟨w0,w1,w2,w3⟩⟩
set_option maxRecDepth 100000 in
theorem Zoy:ZhR Tryz.prog 161 Yk Zn7:=by
 intro H enc w base spare held fuel cs x h
 obtain ⟨xs,n,_,_,hlen,hxl,hf⟩:=DataW.trod_struct Tryz.underlying161 h
 have hl:cs.length=3:=hlen.trans (by kernel_rfl)
 have hx:xs.length=2:=hxl
 match cs,hl with
 | [a0,a1,a2],_=>
  have f0:DataW.trod enc Tryz.prog w base spare held n 3 [a0]=some (xs[0]'(by omega)):=by
   have this:DataW.trod enc Tryz.prog w base spare held n 3 (List.take (Tryz.prog.cellsOf 3) (List.drop 0 [a0,a1,a2]))=_:=(hf 0 _ rfl).trans (List.getElem?_eq_getElem (show 0<xs.length by omega))
   rw [show Tryz.prog.cellsOf 3=1 by kernel_rfl] at this
   exact this
  have f1:DataW.trod enc Tryz.prog w base spare held n 46 [a1,a2]=some (xs[1]'(by omega)):=by
   have this:DataW.trod enc Tryz.prog w base spare held n 46 (List.take (Tryz.prog.cellsOf 46) (List.drop 1 [a0,a1,a2]))=_:=(hf 1 _ rfl).trans (List.getElem?_eq_getElem (show 1<xs.length by omega))
   rw [show Tryz.prog.cellsOf 46=2 by kernel_rfl] at this
   exact this
  obtain ⟨d0,M0,r0,w0⟩:=(Zin Tryz.underlying3) f0
  obtain ⟨e0,_⟩:=r0
  cases e0
  obtain ⟨d1,M1,r1,w1⟩:=Zig f1
  obtain ⟨A1,c1,N1,e1,g1,t0,n1,m1,s1⟩:=r1
  cases e1
  subst g1
  exact ⟨⟨d0,d1⟩,_,⟨A1,c1,M1,rfl,rfl,t0,n1,m1,s1⟩,⟨w0,w1⟩⟩
set_option maxRecDepth 100000 in
theorem ZrD:ZhR Tryz.prog 75 XU ZpL:=by
 intro H enc w base spare held fuel cs x h
 obtain ⟨xs,n,_,_,hlen,hxl,hf⟩:=DataW.trod_struct Tryz.underlying75 h
 have hl:cs.length=4:=hlen.trans (by kernel_rfl)
 have hx:xs.length=4:=hxl
 match cs,hl with
 | [a0,a1,a2,a3],_=>
  have f0:DataW.trod enc Tryz.prog w base spare held n 9 [a0]=some (xs[0]'(by omega)):=by
   have this:DataW.trod enc Tryz.prog w base spare held n 9 (List.take (Tryz.prog.cellsOf 9) (List.drop 0 [a0,a1,a2,a3]))=_:=(hf 0 _ rfl).trans (List.getElem?_eq_getElem (show 0<xs.length by omega))
   rw [show Tryz.prog.cellsOf 9=1 by kernel_rfl] at this
   exact this
  have f1:DataW.trod enc Tryz.prog w base spare held n 3 [a1]=some (xs[1]'(by omega)):=by
   have this:DataW.trod enc Tryz.prog w base spare held n 3 (List.take (Tryz.prog.cellsOf 3) (List.drop 1 [a0,a1,a2,a3]))=_:=(hf 1 _ rfl).trans (List.getElem?_eq_getElem (show 1<xs.length by omega))
   rw [show Tryz.prog.cellsOf 3=1 by kernel_rfl] at this
   exact this
  have f2:DataW.trod enc Tryz.prog w base spare held n 72 [a2]=some (xs[2]'(by omega)):=by
   have this:DataW.trod enc Tryz.prog w base spare held n 72 (List.take (Tryz.prog.cellsOf 72) (List.drop 2 [a0,a1,a2,a3]))=_:=(hf 2 _ rfl).trans (List.getElem?_eq_getElem (show 2<xs.length by omega))
   rw [show Tryz.prog.cellsOf 72=1 by kernel_rfl] at this
   exact this
  have f3:DataW.trod enc Tryz.prog w base spare held n 73 [a3]=some (xs[3]'(by omega)):=by
   have this:DataW.trod enc Tryz.prog w base spare held n 73 (List.take (Tryz.prog.cellsOf 73) (List.drop 3 [a0,a1,a2,a3]))=_:=(hf 3 _ rfl).trans (List.getElem?_eq_getElem (show 3<xs.length by omega))
   rw [show Tryz.prog.cellsOf 73=1 by kernel_rfl] at this
   exact this
  obtain ⟨d0,M0,r0,w0⟩:=(Qp Tryz.underlying9) f0
  obtain ⟨e0,_,t0⟩:=r0
  cases e0
  obtain ⟨d1,M1,r1,w1⟩:=(Zin Tryz.underlying3) f1
  obtain ⟨e1,_⟩:=r1
  cases e1
  obtain ⟨d2,M2,r2,w2⟩:=(ZaH Tryz.underlying72 (by kernel_rfl) Zrb) f2
  obtain ⟨A1,c1,e2,n1,m1,s1⟩:=r2
  cases e2
  obtain ⟨d3,M3,r3,w3⟩:=(ZaH Tryz.underlying73 (by kernel_rfl) Zoy) f3
  obtain ⟨A2,c2,e3,n2,m2,s2⟩:=r3
  cases e3
  exact ⟨⟨d0,d1,d2,d3⟩,_,⟨A1,c1,M2,A2,c2,M3,rfl,rfl,t0,n1,m1,s1,n2,m2,s2⟩,⟨w0,w1,w2,w3⟩⟩
end Go.Proofs.YtojnhepgnbhaaaaGreatDoor
