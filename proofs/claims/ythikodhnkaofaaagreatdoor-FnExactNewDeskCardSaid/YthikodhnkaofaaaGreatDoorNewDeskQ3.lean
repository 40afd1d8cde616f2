/- Texts of this proof, joined: ExactNewDesk. What each holds is said at its theorems. -/
import Derived.Test.YthikodhnkaofaaaGreatDoorNewDeskQ1
import Derived.Test.YthikodhnkaofaaaGreatDoorNewDeskQ2
import Derived.Outline
import Derived.WalkSpells
import Derived.StillTailTactics
set_option linter.unusedSimpArgs false
set_option linter.unusedVariables false
open Array renaming size_push→AB
open Nat renaming le_refl→A0,le_of_eq→AA
namespace Go.Proofs.YthikodhnkaofaaaGreatDoor
section
open Go.RowKit
set_option maxRecDepth 100000 in
set_option maxHeartbeats 8000000 in
theorem ZNr (w:World):
  Calls Tryz.prog 3 #[] w fun e w'=>e=.returned (.bool true)∧Below w.heap.size w w':=by
 go_enter Tryz.func3,Tryz.ntmps3
 obtain ⟨R0,hs0,hi0,rl⟩:=ZOW
 go_wp2_with fail
 refine (ZO9 hs0 _).mono ?_
 rintro e w1 ⟨cs,L_w0,rfl,gt,hb⟩
 obtain ⟨w0_A1,w0_c1,w0_A2,w0_c2,w0_A3,w0_c3,w0_A4,w0_c4,w0_A5,w0_c5,w0_A6,w0_c6,w0_A7,w0_c7,w0_A8,w0_c8,w0_A9,w0_c9,rfl⟩:=ZNb gt.rep
 have B1:=Lib.hid ((Below.refl w.heap.size w).trans (hb.mono (Below.refl w.heap.size w).size))
 have sz1:=hb.size
 have V_w0:=Lib.hid gt
 have ge_w0:=Lib.hid gt.own.ge
 have lt_w0:=Lib.hid gt.lt
 clear gt hb
 have hb:=(Below.refl w1.heap.size w1).alloc (A0 _) (.cells #[.slice w0_A1 R0.engine.rules.length w0_c1,.slice w0_A2 R0.engine.memory.length w0_c2,.int .i64 R0.engine.clock,.slice w0_A3 R0.engine.fired.length w0_c3,.bool R0.engine.halted,.slice w0_A4 R0.engine.log.length w0_c4,.slice w0_A5 R0.network.rules.length w0_c5,.slice w0_A6 R0.network.ends.length w0_c6,.slice w0_A7 R0.network.alphas.length w0_c7,.slice w0_A8 R0.network.nodes.length w0_c8,.slice w0_A9 R0.network.facts.length w0_c9,.int .i64 R0.network.tries] 35)
 have B2:=Lib.hid (B1.out.trans (hb.mono B1.out.size))
 have sz2:=hb.size
 have V_w0:=Lib.hid (V_w0.out.later hb)
 clear B1
 have szb_w0:w1.heap.size+1≤(w1.alloc (.cells #[.slice w0_A1 R0.engine.rules.length w0_c1,.slice w0_A2 R0.engine.memory.length w0_c2,.int .i64 R0.engine.clock,.slice w0_A3 R0.engine.fired.length w0_c3,.bool R0.engine.halted,.slice w0_A4 R0.engine.log.length w0_c4,.slice w0_A5 R0.network.rules.length w0_c5,.slice w0_A6 R0.network.ends.length w0_c6,.slice w0_A7 R0.network.alphas.length w0_c7,.slice w0_A8 R0.network.nodes.length w0_c8,.slice w0_A9 R0.network.facts.length w0_c9,.int .i64 R0.network.tries] 35)).heap.size:=AA (by simp only[World.alloc,AB])
 have K_w0:Hid (Blk (w1.alloc (.cells #[.slice w0_A1 R0.engine.rules.length w0_c1,.slice w0_A2 R0.engine.memory.length w0_c2,.int .i64 R0.engine.clock,.slice w0_A3 R0.engine.fired.length w0_c3,.bool R0.engine.halted,.slice w0_A4 R0.engine.log.length w0_c4,.slice w0_A5 R0.network.rules.length w0_c5,.slice w0_A6 R0.network.ends.length w0_c6,.slice w0_A7 R0.network.alphas.length w0_c7,.slice w0_A8 R0.network.nodes.length w0_c8,.slice w0_A9 R0.network.facts.length w0_c9,.int .i64 R0.network.tries] 35)) w1.heap.size 35 #[.slice w0_A1 R0.engine.rules.length w0_c1,.slice w0_A2 R0.engine.memory.length w0_c2,.int .i64 R0.engine.clock,.slice w0_A3 R0.engine.fired.length w0_c3,.bool R0.engine.halted,.slice w0_A4 R0.engine.log.length w0_c4,.slice w0_A5 R0.network.rules.length w0_c5,.slice w0_A6 R0.network.ends.length w0_c6,.slice w0_A7 R0.network.alphas.length w0_c7,.slice w0_A8 R0.network.nodes.length w0_c8,.slice w0_A9 R0.network.facts.length w0_c9,.int .i64 R0.network.tries]):=Blk.new _ _ _
 have f_w0_0:=K_w0.out.at (i:=0) rfl
 have f_w0_1:=K_w0.out.at (i:=1) rfl
 have f_w0_2:=K_w0.out.at (i:=2) rfl
 have f_w0_3:=K_w0.out.at (i:=3) rfl
 have f_w0_4:=K_w0.out.at (i:=4) rfl
 have f_w0_5:=K_w0.out.at (i:=5) rfl
 have f_w0_6:=K_w0.out.at (i:=6) rfl
 have f_w0_7:=K_w0.out.at (i:=7) rfl
 have f_w0_8:=K_w0.out.at (i:=8) rfl
 have f_w0_9:=K_w0.out.at (i:=9) rfl
 have f_w0_10:=K_w0.out.at (i:=10) rfl
 have f_w0_11:=K_w0.out.at (i:=11) rfl
 clear hb
 go_wp2_with fail
 refine (ZNQ hi0 _).mono ?_
 rintro e w3 ⟨cs,L_g0,rfl,gt,hb⟩
 obtain ⟨g0_A1,g0_c1,g0_A2,g0_c2,g0_A3,g0_c3,g0_A4,g0_c4,g0_A5,g0_c5,g0_A6,g0_c6,g0_A7,g0_c7,g0_A8,g0_c8,g0_A9,g0_c9,rfl⟩:=ZNb gt.rep
 have B3:=Lib.hid (B2.out.trans (hb.mono B2.out.size))
 have sz3:=hb.size
 have V_w0:=Lib.hid (V_w0.out.later hb)
 have K_w0:=Lib.hid (K_w0.out.later hb)
 clear f_w0_0 f_w0_1 f_w0_2 f_w0_3 f_w0_4 f_w0_5 f_w0_6 f_w0_7 f_w0_8 f_w0_9 f_w0_10 f_w0_11
 have f_w0_0:=K_w0.out.at (i:=0) rfl
 have f_w0_1:=K_w0.out.at (i:=1) rfl
 have f_w0_2:=K_w0.out.at (i:=2) rfl
 have f_w0_3:=K_w0.out.at (i:=3) rfl
 have f_w0_4:=K_w0.out.at (i:=4) rfl
 have f_w0_5:=K_w0.out.at (i:=5) rfl
 have f_w0_6:=K_w0.out.at (i:=6) rfl
 have f_w0_7:=K_w0.out.at (i:=7) rfl
 have f_w0_8:=K_w0.out.at (i:=8) rfl
 have f_w0_9:=K_w0.out.at (i:=9) rfl
 have f_w0_10:=K_w0.out.at (i:=10) rfl
 have f_w0_11:=K_w0.out.at (i:=11) rfl
 clear B2
 have V_g0:=Lib.hid gt
 have ge_g0:=Lib.hid gt.own.ge
 have lt_g0:=Lib.hid gt.lt
 clear gt hb
 have hb:=(Below.refl w3.heap.size w3).alloc (A0 _) (.cells #[.slice g0_A1 R0.engine.rules.length g0_c1,.slice g0_A2 R0.engine.memory.length g0_c2,.int .i64 R0.engine.clock,.slice g0_A3 R0.engine.fired.length g0_c3,.bool R0.engine.halted,.slice g0_A4 R0.engine.log.length g0_c4,.slice g0_A5 R0.network.rules.length g0_c5,.slice g0_A6 R0.network.ends.length g0_c6,.slice g0_A7 R0.network.alphas.length g0_c7,.slice g0_A8 R0.network.nodes.length g0_c8,.slice g0_A9 R0.network.facts.length g0_c9,.int .i64 R0.network.tries] 35)
 have B4:=Lib.hid (B3.out.trans (hb.mono B3.out.size))
 have sz4:=hb.size
 have V_w0:=Lib.hid (V_w0.out.later hb)
 have V_g0:=Lib.hid (V_g0.out.later hb)
 have K_w0:=Lib.hid (K_w0.out.later hb)
 clear f_w0_0 f_w0_1 f_w0_2 f_w0_3 f_w0_4 f_w0_5 f_w0_6 f_w0_7 f_w0_8 f_w0_9 f_w0_10 f_w0_11
 have f_w0_0:=K_w0.out.at (i:=0) rfl
 have f_w0_1:=K_w0.out.at (i:=1) rfl
 have f_w0_2:=K_w0.out.at (i:=2) rfl
 have f_w0_3:=K_w0.out.at (i:=3) rfl
 have f_w0_4:=K_w0.out.at (i:=4) rfl
 have f_w0_5:=K_w0.out.at (i:=5) rfl
 have f_w0_6:=K_w0.out.at (i:=6) rfl
 have f_w0_7:=K_w0.out.at (i:=7) rfl
 have f_w0_8:=K_w0.out.at (i:=8) rfl
 have f_w0_9:=K_w0.out.at (i:=9) rfl
 have f_w0_10:=K_w0.out.at (i:=10) rfl
 have f_w0_11:=K_w0.out.at (i:=11) rfl
 clear B3
 have szb_g0:w3.heap.size+1≤(w3.alloc (.cells #[.slice g0_A1 R0.engine.rules.length g0_c1,.slice g0_A2 R0.engine.memory.length g0_c2,.int .i64 R0.engine.clock,.slice g0_A3 R0.engine.fired.length g0_c3,.bool R0.engine.halted,.slice g0_A4 R0.engine.log.length g0_c4,.slice g0_A5 R0.network.rules.length g0_c5,.slice g0_A6 R0.network.ends.length g0_c6,.slice g0_A7 R0.network.alphas.length g0_c7,.slice g0_A8 R0.network.nodes.length g0_c8,.slice g0_A9 R0.network.facts.length g0_c9,.int .i64 R0.network.tries] 35)).heap.size:=AA (by simp only[World.alloc,AB])
 have K_g0:Hid (Blk (w3.alloc (.cells #[.slice g0_A1 R0.engine.rules.length g0_c1,.slice g0_A2 R0.engine.memory.length g0_c2,.int .i64 R0.engine.clock,.slice g0_A3 R0.engine.fired.length g0_c3,.bool R0.engine.halted,.slice g0_A4 R0.engine.log.length g0_c4,.slice g0_A5 R0.network.rules.length g0_c5,.slice g0_A6 R0.network.ends.length g0_c6,.slice g0_A7 R0.network.alphas.length g0_c7,.slice g0_A8 R0.network.nodes.length g0_c8,.slice g0_A9 R0.network.facts.length g0_c9,.int .i64 R0.network.tries] 35)) w3.heap.size 35 #[.slice g0_A1 R0.engine.rules.length g0_c1,.slice g0_A2 R0.engine.memory.length g0_c2,.int .i64 R0.engine.clock,.slice g0_A3 R0.engine.fired.length g0_c3,.bool R0.engine.halted,.slice g0_A4 R0.engine.log.length g0_c4,.slice g0_A5 R0.network.rules.length g0_c5,.slice g0_A6 R0.network.ends.length g0_c6,.slice g0_A7 R0.network.alphas.length g0_c7,.slice g0_A8 R0.network.nodes.length g0_c8,.slice g0_A9 R0.network.facts.length g0_c9,.int .i64 R0.network.tries]):=Blk.new _ _ _
 have f_g0_0:=K_g0.out.at (i:=0) rfl
 have f_g0_1:=K_g0.out.at (i:=1) rfl
 have f_g0_2:=K_g0.out.at (i:=2) rfl
 have f_g0_3:=K_g0.out.at (i:=3) rfl
 have f_g0_4:=K_g0.out.at (i:=4) rfl
 have f_g0_5:=K_g0.out.at (i:=5) rfl
 have f_g0_6:=K_g0.out.at (i:=6) rfl
 have f_g0_7:=K_g0.out.at (i:=7) rfl
 have f_g0_8:=K_g0.out.at (i:=8) rfl
 have f_g0_9:=K_g0.out.at (i:=9) rfl
 have f_g0_10:=K_g0.out.at (i:=10) rfl
 have f_g0_11:=K_g0.out.at (i:=11) rfl
 clear hb
 go_wp2_with fail
 refine (ZOy [.slice g0_A1 R0.engine.rules.length g0_c1,.slice g0_A2 R0.engine.memory.length g0_c2,.int .i64 R0.engine.clock,.slice g0_A3 R0.engine.fired.length g0_c3,.bool R0.engine.halted,.slice g0_A4 R0.engine.log.length g0_c4,.slice g0_A5 R0.network.rules.length g0_c5,.slice g0_A6 R0.network.ends.length g0_c6,.slice g0_A7 R0.network.alphas.length g0_c7,.slice g0_A8 R0.network.nodes.length g0_c8,.slice g0_A9 R0.network.facts.length g0_c9,.int .i64 R0.network.tries] [.slice w0_A1 R0.engine.rules.length w0_c1,.slice w0_A2 R0.engine.memory.length w0_c2,.int .i64 R0.engine.clock,.slice w0_A3 R0.engine.fired.length w0_c3,.bool R0.engine.halted,.slice w0_A4 R0.engine.log.length w0_c4,.slice w0_A5 R0.network.rules.length w0_c5,.slice w0_A6 R0.network.ends.length w0_c6,.slice w0_A7 R0.network.alphas.length w0_c7,.slice w0_A8 R0.network.nodes.length w0_c8,.slice w0_A9 R0.network.facts.length w0_c9,.int .i64 R0.network.tries] R0 L_g0 L_w0 _ V_g0.out.rep V_w0.out.rep).mono ?_
 rintro e w5 ⟨rfl,hb⟩
 have B5:=Lib.hid (B4.out.trans (hb.mono B4.out.size))
 have sz5:=hb.size
 have V_w0:=Lib.hid (V_w0.out.later hb)
 have V_g0:=Lib.hid (V_g0.out.later hb)
 have K_w0:=Lib.hid (K_w0.out.later hb)
 clear f_w0_0 f_w0_1 f_w0_2 f_w0_3 f_w0_4 f_w0_5 f_w0_6 f_w0_7 f_w0_8 f_w0_9 f_w0_10 f_w0_11
 have f_w0_0:=K_w0.out.at (i:=0) rfl
 have f_w0_1:=K_w0.out.at (i:=1) rfl
 have f_w0_2:=K_w0.out.at (i:=2) rfl
 have f_w0_3:=K_w0.out.at (i:=3) rfl
 have f_w0_4:=K_w0.out.at (i:=4) rfl
 have f_w0_5:=K_w0.out.at (i:=5) rfl
 have f_w0_6:=K_w0.out.at (i:=6) rfl
 have f_w0_7:=K_w0.out.at (i:=7) rfl
 have f_w0_8:=K_w0.out.at (i:=8) rfl
 have f_w0_9:=K_w0.out.at (i:=9) rfl
 have f_w0_10:=K_w0.out.at (i:=10) rfl
 have f_w0_11:=K_w0.out.at (i:=11) rfl
 have K_g0:=Lib.hid (K_g0.out.later hb)
 clear f_g0_0 f_g0_1 f_g0_2 f_g0_3 f_g0_4 f_g0_5 f_g0_6 f_g0_7 f_g0_8 f_g0_9 f_g0_10 f_g0_11
 have f_g0_0:=K_g0.out.at (i:=0) rfl
 have f_g0_1:=K_g0.out.at (i:=1) rfl
 have f_g0_2:=K_g0.out.at (i:=2) rfl
 have f_g0_3:=K_g0.out.at (i:=3) rfl
 have f_g0_4:=K_g0.out.at (i:=4) rfl
 have f_g0_5:=K_g0.out.at (i:=5) rfl
 have f_g0_6:=K_g0.out.at (i:=6) rfl
 have f_g0_7:=K_g0.out.at (i:=7) rfl
 have f_g0_8:=K_g0.out.at (i:=8) rfl
 have f_g0_9:=K_g0.out.at (i:=9) rfl
 have f_g0_10:=K_g0.out.at (i:=10) rfl
 have f_g0_11:=K_g0.out.at (i:=11) rfl
 clear B4
 clear hb
 have nl_g0_5:=ZPh ((1:Int)) R0
 have nb_g0_5:ZLC ((1:Int)) R0≤4611686018427387904:=by omega
 have ng_g0_5:=ZPi ((1:Int)) R0
 go_wp2_with fail
 refine (ZO8 _ R0 L_g0 _ _ _ (by omega) (by omega) V_g0.out).mono ?_
 rintro e w6 ⟨rfl,gm,on⟩
 have B6:=Lib.hid (B5.out.trans (on.below B5.out.size (fun y m=>by have:=ge_g0.out y m;omega)))
 have sz6:=on.size
 have V_w0:=Lib.hid (V_w0.out.only on (fun y m m'=>by have:=lt_w0.out y m;have:=ge_g0.out y m';omega))
 have K_w0:=Lib.hid (ZMc K_w0.out on (fun m=>by have:=ge_g0.out _ m;have:=lt_g0.out _ m;omega))
 clear f_w0_0 f_w0_1 f_w0_2 f_w0_3 f_w0_4 f_w0_5 f_w0_6 f_w0_7 f_w0_8 f_w0_9 f_w0_10 f_w0_11
 have f_w0_0:=K_w0.out.at (i:=0) rfl
 have f_w0_1:=K_w0.out.at (i:=1) rfl
 have f_w0_2:=K_w0.out.at (i:=2) rfl
 have f_w0_3:=K_w0.out.at (i:=3) rfl
 have f_w0_4:=K_w0.out.at (i:=4) rfl
 have f_w0_5:=K_w0.out.at (i:=5) rfl
 have f_w0_6:=K_w0.out.at (i:=6) rfl
 have f_w0_7:=K_w0.out.at (i:=7) rfl
 have f_w0_8:=K_w0.out.at (i:=8) rfl
 have f_w0_9:=K_w0.out.at (i:=9) rfl
 have f_w0_10:=K_w0.out.at (i:=10) rfl
 have f_w0_11:=K_w0.out.at (i:=11) rfl
 have K_g0:=Lib.hid (ZMc K_g0.out on (fun m=>by have:=ge_g0.out _ m;have:=lt_g0.out _ m;omega))
 clear f_g0_0 f_g0_1 f_g0_2 f_g0_3 f_g0_4 f_g0_5 f_g0_6 f_g0_7 f_g0_8 f_g0_9 f_g0_10 f_g0_11
 have f_g0_0:=K_g0.out.at (i:=0) rfl
 have f_g0_1:=K_g0.out.at (i:=1) rfl
 have f_g0_2:=K_g0.out.at (i:=2) rfl
 have f_g0_3:=K_g0.out.at (i:=3) rfl
 have f_g0_4:=K_g0.out.at (i:=4) rfl
 have f_g0_5:=K_g0.out.at (i:=5) rfl
 have f_g0_6:=K_g0.out.at (i:=6) rfl
 have f_g0_7:=K_g0.out.at (i:=7) rfl
 have f_g0_8:=K_g0.out.at (i:=8) rfl
 have f_g0_9:=K_g0.out.at (i:=9) rfl
 have f_g0_10:=K_g0.out.at (i:=10) rfl
 have f_g0_11:=K_g0.out.at (i:=11) rfl
 clear B5
 have V_g0:=Lib.hid gm
 clear gm on
 go_wp2_with fail
 refine (ZNJ _ R0 L_g0 _ _ (by omega) (by omega) V_g0.out.rep).mono ?_
 rintro e w7 ⟨rfl,hb⟩
 have B7:=Lib.hid (B6.out.trans (hb.mono B6.out.size))
 have sz7:=hb.size
 have V_w0:=Lib.hid (V_w0.out.later hb)
 have V_g0:=Lib.hid (V_g0.out.later hb)
 have K_w0:=Lib.hid (K_w0.out.later hb)
 clear f_w0_0 f_w0_1 f_w0_2 f_w0_3 f_w0_4 f_w0_5 f_w0_6 f_w0_7 f_w0_8 f_w0_9 f_w0_10 f_w0_11
 have f_w0_0:=K_w0.out.at (i:=0) rfl
 have f_w0_1:=K_w0.out.at (i:=1) rfl
 have f_w0_2:=K_w0.out.at (i:=2) rfl
 have f_w0_3:=K_w0.out.at (i:=3) rfl
 have f_w0_4:=K_w0.out.at (i:=4) rfl
 have f_w0_5:=K_w0.out.at (i:=5) rfl
 have f_w0_6:=K_w0.out.at (i:=6) rfl
 have f_w0_7:=K_w0.out.at (i:=7) rfl
 have f_w0_8:=K_w0.out.at (i:=8) rfl
 have f_w0_9:=K_w0.out.at (i:=9) rfl
 have f_w0_10:=K_w0.out.at (i:=10) rfl
 have f_w0_11:=K_w0.out.at (i:=11) rfl
 have K_g0:=Lib.hid (K_g0.out.later hb)
 clear f_g0_0 f_g0_1 f_g0_2 f_g0_3 f_g0_4 f_g0_5 f_g0_6 f_g0_7 f_g0_8 f_g0_9 f_g0_10 f_g0_11
 have f_g0_0:=K_g0.out.at (i:=0) rfl
 have f_g0_1:=K_g0.out.at (i:=1) rfl
 have f_g0_2:=K_g0.out.at (i:=2) rfl
 have f_g0_3:=K_g0.out.at (i:=3) rfl
 have f_g0_4:=K_g0.out.at (i:=4) rfl
 have f_g0_5:=K_g0.out.at (i:=5) rfl
 have f_g0_6:=K_g0.out.at (i:=6) rfl
 have f_g0_7:=K_g0.out.at (i:=7) rfl
 have f_g0_8:=K_g0.out.at (i:=8) rfl
 have f_g0_9:=K_g0.out.at (i:=9) rfl
 have f_g0_10:=K_g0.out.at (i:=10) rfl
 have f_g0_11:=K_g0.out.at (i:=11) rfl
 clear B6
 clear hb
 have qn7:¬(ZLC ((1:Int)) R0<0):=by omega
 have qm7:((ZLC ((1:Int)) R0) != (ZLC ((1:Int)) R0))=false:=by simp
 go_wp2_with fail
 refine (ZNQ hi0 _).mono ?_
 rintro e w8 ⟨cs,L_h0,rfl,gt,hb⟩
 obtain ⟨h0_A1,h0_c1,h0_A2,h0_c2,h0_A3,h0_c3,h0_A4,h0_c4,h0_A5,h0_c5,h0_A6,h0_c6,h0_A7,h0_c7,h0_A8,h0_c8,h0_A9,h0_c9,rfl⟩:=ZNb gt.rep
 have B8:=Lib.hid (B7.out.trans (hb.mono B7.out.size))
 have sz8:=hb.size
 have V_w0:=Lib.hid (V_w0.out.later hb)
 have V_g0:=Lib.hid (V_g0.out.later hb)
 have K_w0:=Lib.hid (K_w0.out.later hb)
 clear f_w0_0 f_w0_1 f_w0_2 f_w0_3 f_w0_4 f_w0_5 f_w0_6 f_w0_7 f_w0_8 f_w0_9 f_w0_10 f_w0_11
 have f_w0_0:=K_w0.out.at (i:=0) rfl
 have f_w0_1:=K_w0.out.at (i:=1) rfl
 have f_w0_2:=K_w0.out.at (i:=2) rfl
 have f_w0_3:=K_w0.out.at (i:=3) rfl
 have f_w0_4:=K_w0.out.at (i:=4) rfl
 have f_w0_5:=K_w0.out.at (i:=5) rfl
 have f_w0_6:=K_w0.out.at (i:=6) rfl
 have f_w0_7:=K_w0.out.at (i:=7) rfl
 have f_w0_8:=K_w0.out.at (i:=8) rfl
 have f_w0_9:=K_w0.out.at (i:=9) rfl
 have f_w0_10:=K_w0.out.at (i:=10) rfl
 have f_w0_11:=K_w0.out.at (i:=11) rfl
 have K_g0:=Lib.hid (K_g0.out.later hb)
 clear f_g0_0 f_g0_1 f_g0_2 f_g0_3 f_g0_4 f_g0_5 f_g0_6 f_g0_7 f_g0_8 f_g0_9 f_g0_10 f_g0_11
 have f_g0_0:=K_g0.out.at (i:=0) rfl
 have f_g0_1:=K_g0.out.at (i:=1) rfl
 have f_g0_2:=K_g0.out.at (i:=2) rfl
 have f_g0_3:=K_g0.out.at (i:=3) rfl
 have f_g0_4:=K_g0.out.at (i:=4) rfl
 have f_g0_5:=K_g0.out.at (i:=5) rfl
 have f_g0_6:=K_g0.out.at (i:=6) rfl
 have f_g0_7:=K_g0.out.at (i:=7) rfl
 have f_g0_8:=K_g0.out.at (i:=8) rfl
 have f_g0_9:=K_g0.out.at (i:=9) rfl
 have f_g0_10:=K_g0.out.at (i:=10) rfl
 have f_g0_11:=K_g0.out.at (i:=11) rfl
 clear B7
 have V_h0:=Lib.hid gt
 have ge_h0:=Lib.hid gt.own.ge
 have lt_h0:=Lib.hid gt.lt
 clear gt hb
 have hb:=(Below.refl w8.heap.size w8).alloc (A0 _) (.cells #[.slice h0_A1 R0.engine.rules.length h0_c1,.slice h0_A2 R0.engine.memory.length h0_c2,.int .i64 R0.engine.clock,.slice h0_A3 R0.engine.fired.length h0_c3,.bool R0.engine.halted,.slice h0_A4 R0.engine.log.length h0_c4,.slice h0_A5 R0.network.rules.length h0_c5,.slice h0_A6 R0.network.ends.length h0_c6,.slice h0_A7 R0.network.alphas.length h0_c7,.slice h0_A8 R0.network.nodes.length h0_c8,.slice h0_A9 R0.network.facts.length h0_c9,.int .i64 R0.network.tries] 35)
 have B9:=Lib.hid (B8.out.trans (hb.mono B8.out.size))
 have sz9:=hb.size
 have V_w0:=Lib.hid (V_w0.out.later hb)
 have V_g0:=Lib.hid (V_g0.out.later hb)
 have V_h0:=Lib.hid (V_h0.out.later hb)
 have K_w0:=Lib.hid (K_w0.out.later hb)
 clear f_w0_0 f_w0_1 f_w0_2 f_w0_3 f_w0_4 f_w0_5 f_w0_6 f_w0_7 f_w0_8 f_w0_9 f_w0_10 f_w0_11
 have f_w0_0:=K_w0.out.at (i:=0) rfl
 have f_w0_1:=K_w0.out.at (i:=1) rfl
 have f_w0_2:=K_w0.out.at (i:=2) rfl
 have f_w0_3:=K_w0.out.at (i:=3) rfl
 have f_w0_4:=K_w0.out.at (i:=4) rfl
 have f_w0_5:=K_w0.out.at (i:=5) rfl
 have f_w0_6:=K_w0.out.at (i:=6) rfl
 have f_w0_7:=K_w0.out.at (i:=7) rfl
 have f_w0_8:=K_w0.out.at (i:=8) rfl
 have f_w0_9:=K_w0.out.at (i:=9) rfl
 have f_w0_10:=K_w0.out.at (i:=10) rfl
 have f_w0_11:=K_w0.out.at (i:=11) rfl
 have K_g0:=Lib.hid (K_g0.out.later hb)
 clear f_g0_0 f_g0_1 f_g0_2 f_g0_3 f_g0_4 f_g0_5 f_g0_6 f_g0_7 f_g0_8 f_g0_9 f_g0_10 f_g0_11
 have f_g0_0:=K_g0.out.at (i:=0) rfl
 have f_g0_1:=K_g0.out.at (i:=1) rfl
 have f_g0_2:=K_g0.out.at (i:=2) rfl
 have f_g0_3:=K_g0.out.at (i:=3) rfl
 have f_g0_4:=K_g0.out.at (i:=4) rfl
 have f_g0_5:=K_g0.out.at (i:=5) rfl
 have f_g0_6:=K_g0.out.at (i:=6) rfl
 have f_g0_7:=K_g0.out.at (i:=7) rfl
 have f_g0_8:=K_g0.out.at (i:=8) rfl
 have f_g0_9:=K_g0.out.at (i:=9) rfl
 have f_g0_10:=K_g0.out.at (i:=10) rfl
 have f_g0_11:=K_g0.out.at (i:=11) rfl
 clear B8
 have szb_h0:w8.heap.size+1≤(w8.alloc (.cells #[.slice h0_A1 R0.engine.rules.length h0_c1,.slice h0_A2 R0.engine.memory.length h0_c2,.int .i64 R0.engine.clock,.slice h0_A3 R0.engine.fired.length h0_c3,.bool R0.engine.halted,.slice h0_A4 R0.engine.log.length h0_c4,.slice h0_A5 R0.network.rules.length h0_c5,.slice h0_A6 R0.network.ends.length h0_c6,.slice h0_A7 R0.network.alphas.length h0_c7,.slice h0_A8 R0.network.nodes.length h0_c8,.slice h0_A9 R0.network.facts.length h0_c9,.int .i64 R0.network.tries] 35)).heap.size:=AA (by simp only[World.alloc,AB])
 have K_h0:Hid (Blk (w8.alloc (.cells #[.slice h0_A1 R0.engine.rules.length h0_c1,.slice h0_A2 R0.engine.memory.length h0_c2,.int .i64 R0.engine.clock,.slice h0_A3 R0.engine.fired.length h0_c3,.bool R0.engine.halted,.slice h0_A4 R0.engine.log.length h0_c4,.slice h0_A5 R0.network.rules.length h0_c5,.slice h0_A6 R0.network.ends.length h0_c6,.slice h0_A7 R0.network.alphas.length h0_c7,.slice h0_A8 R0.network.nodes.length h0_c8,.slice h0_A9 R0.network.facts.length h0_c9,.int .i64 R0.network.tries] 35)) w8.heap.size 35 #[.slice h0_A1 R0.engine.rules.length h0_c1,.slice h0_A2 R0.engine.memory.length h0_c2,.int .i64 R0.engine.clock,.slice h0_A3 R0.engine.fired.length h0_c3,.bool R0.engine.halted,.slice h0_A4 R0.engine.log.length h0_c4,.slice h0_A5 R0.network.rules.length h0_c5,.slice h0_A6 R0.network.ends.length h0_c6,.slice h0_A7 R0.network.alphas.length h0_c7,.slice h0_A8 R0.network.nodes.length h0_c8,.slice h0_A9 R0.network.facts.length h0_c9,.int .i64 R0.network.tries]):=Blk.new _ _ _
 have f_h0_0:=K_h0.out.at (i:=0) rfl
 have f_h0_1:=K_h0.out.at (i:=1) rfl
 have f_h0_2:=K_h0.out.at (i:=2) rfl
 have f_h0_3:=K_h0.out.at (i:=3) rfl
 have f_h0_4:=K_h0.out.at (i:=4) rfl
 have f_h0_5:=K_h0.out.at (i:=5) rfl
 have f_h0_6:=K_h0.out.at (i:=6) rfl
 have f_h0_7:=K_h0.out.at (i:=7) rfl
 have f_h0_8:=K_h0.out.at (i:=8) rfl
 have f_h0_9:=K_h0.out.at (i:=9) rfl
 have f_h0_10:=K_h0.out.at (i:=10) rfl
 have f_h0_11:=K_h0.out.at (i:=11) rfl
 clear hb
 go_wp2_with fail
 refine (ZOy [.slice h0_A1 R0.engine.rules.length h0_c1,.slice h0_A2 R0.engine.memory.length h0_c2,.int .i64 R0.engine.clock,.slice h0_A3 R0.engine.fired.length h0_c3,.bool R0.engine.halted,.slice h0_A4 R0.engine.log.length h0_c4,.slice h0_A5 R0.network.rules.length h0_c5,.slice h0_A6 R0.network.ends.length h0_c6,.slice h0_A7 R0.network.alphas.length h0_c7,.slice h0_A8 R0.network.nodes.length h0_c8,.slice h0_A9 R0.network.facts.length h0_c9,.int .i64 R0.network.tries] [.slice w0_A1 R0.engine.rules.length w0_c1,.slice w0_A2 R0.engine.memory.length w0_c2,.int .i64 R0.engine.clock,.slice w0_A3 R0.engine.fired.length w0_c3,.bool R0.engine.halted,.slice w0_A4 R0.engine.log.length w0_c4,.slice w0_A5 R0.network.rules.length w0_c5,.slice w0_A6 R0.network.ends.length w0_c6,.slice w0_A7 R0.network.alphas.length w0_c7,.slice w0_A8 R0.network.nodes.length w0_c8,.slice w0_A9 R0.network.facts.length w0_c9,.int .i64 R0.network.tries] R0 L_h0 L_w0 _ V_h0.out.rep V_w0.out.rep).mono ?_
 rintro e w10 ⟨rfl,hb⟩
 have B10:=Lib.hid (B9.out.trans (hb.mono B9.out.size))
 have sz10:=hb.size
 have V_w0:=Lib.hid (V_w0.out.later hb)
 have V_g0:=Lib.hid (V_g0.out.later hb)
 have V_h0:=Lib.hid (V_h0.out.later hb)
 have K_w0:=Lib.hid (K_w0.out.later hb)
 clear f_w0_0 f_w0_1 f_w0_2 f_w0_3 f_w0_4 f_w0_5 f_w0_6 f_w0_7 f_w0_8 f_w0_9 f_w0_10 f_w0_11
 have f_w0_0:=K_w0.out.at (i:=0) rfl
 have f_w0_1:=K_w0.out.at (i:=1) rfl
 have f_w0_2:=K_w0.out.at (i:=2) rfl
 have f_w0_3:=K_w0.out.at (i:=3) rfl
 have f_w0_4:=K_w0.out.at (i:=4) rfl
 have f_w0_5:=K_w0.out.at (i:=5) rfl
 have f_w0_6:=K_w0.out.at (i:=6) rfl
 have f_w0_7:=K_w0.out.at (i:=7) rfl
 have f_w0_8:=K_w0.out.at (i:=8) rfl
 have f_w0_9:=K_w0.out.at (i:=9) rfl
 have f_w0_10:=K_w0.out.at (i:=10) rfl
 have f_w0_11:=K_w0.out.at (i:=11) rfl
 have K_g0:=Lib.hid (K_g0.out.later hb)
 clear f_g0_0 f_g0_1 f_g0_2 f_g0_3 f_g0_4 f_g0_5 f_g0_6 f_g0_7 f_g0_8 f_g0_9 f_g0_10 f_g0_11
 have f_g0_0:=K_g0.out.at (i:=0) rfl
 have f_g0_1:=K_g0.out.at (i:=1) rfl
 have f_g0_2:=K_g0.out.at (i:=2) rfl
 have f_g0_3:=K_g0.out.at (i:=3) rfl
 have f_g0_4:=K_g0.out.at (i:=4) rfl
 have f_g0_5:=K_g0.out.at (i:=5) rfl
 have f_g0_6:=K_g0.out.at (i:=6) rfl
 have f_g0_7:=K_g0.out.at (i:=7) rfl
 have f_g0_8:=K_g0.out.at (i:=8) rfl
 have f_g0_9:=K_g0.out.at (i:=9) rfl
 have f_g0_10:=K_g0.out.at (i:=10) rfl
 have f_g0_11:=K_g0.out.at (i:=11) rfl
 have K_h0:=Lib.hid (K_h0.out.later hb)
 clear f_h0_0 f_h0_1 f_h0_2 f_h0_3 f_h0_4 f_h0_5 f_h0_6 f_h0_7 f_h0_8 f_h0_9 f_h0_10 f_h0_11
 have f_h0_0:=K_h0.out.at (i:=0) rfl
 have f_h0_1:=K_h0.out.at (i:=1) rfl
 have f_h0_2:=K_h0.out.at (i:=2) rfl
 have f_h0_3:=K_h0.out.at (i:=3) rfl
 have f_h0_4:=K_h0.out.at (i:=4) rfl
 have f_h0_5:=K_h0.out.at (i:=5) rfl
 have f_h0_6:=K_h0.out.at (i:=6) rfl
 have f_h0_7:=K_h0.out.at (i:=7) rfl
 have f_h0_8:=K_h0.out.at (i:=8) rfl
 have f_h0_9:=K_h0.out.at (i:=9) rfl
 have f_h0_10:=K_h0.out.at (i:=10) rfl
 have f_h0_11:=K_h0.out.at (i:=11) rfl
 clear B9
 clear hb
 go_wp2_with fail
 refine (ZNJ _ R0 L_g0 _ _ (by omega) (by omega) V_g0.out.rep).mono ?_
 rintro e w11 ⟨rfl,hb⟩
 have B11:=Lib.hid (B10.out.trans (hb.mono B10.out.size))
 have sz11:=hb.size
 have V_w0:=Lib.hid (V_w0.out.later hb)
 have V_g0:=Lib.hid (V_g0.out.later hb)
 have V_h0:=Lib.hid (V_h0.out.later hb)
 have K_w0:=Lib.hid (K_w0.out.later hb)
 clear f_w0_0 f_w0_1 f_w0_2 f_w0_3 f_w0_4 f_w0_5 f_w0_6 f_w0_7 f_w0_8 f_w0_9 f_w0_10 f_w0_11
 have f_w0_0:=K_w0.out.at (i:=0) rfl
 have f_w0_1:=K_w0.out.at (i:=1) rfl
 have f_w0_2:=K_w0.out.at (i:=2) rfl
 have f_w0_3:=K_w0.out.at (i:=3) rfl
 have f_w0_4:=K_w0.out.at (i:=4) rfl
 have f_w0_5:=K_w0.out.at (i:=5) rfl
 have f_w0_6:=K_w0.out.at (i:=6) rfl
 have f_w0_7:=K_w0.out.at (i:=7) rfl
 have f_w0_8:=K_w0.out.at (i:=8) rfl
 have f_w0_9:=K_w0.out.at (i:=9) rfl
 have f_w0_10:=K_w0.out.at (i:=10) rfl
 have f_w0_11:=K_w0.out.at (i:=11) rfl
 have K_g0:=Lib.hid (K_g0.out.later hb)
 clear f_g0_0 f_g0_1 f_g0_2 f_g0_3 f_g0_4 f_g0_5 f_g0_6 f_g0_7 f_g0_8 f_g0_9 f_g0_10 f_g0_11
 have f_g0_0:=K_g0.out.at (i:=0) rfl
 have f_g0_1:=K_g0.out.at (i:=1) rfl
 have f_g0_2:=K_g0.out.at (i:=2) rfl
 have f_g0_3:=K_g0.out.at (i:=3) rfl
 have f_g0_4:=K_g0.out.at (i:=4) rfl
 have f_g0_5:=K_g0.out.at (i:=5) rfl
 have f_g0_6:=K_g0.out.at (i:=6) rfl
 have f_g0_7:=K_g0.out.at (i:=7) rfl
 have f_g0_8:=K_g0.out.at (i:=8) rfl
 have f_g0_9:=K_g0.out.at (i:=9) rfl
 have f_g0_10:=K_g0.out.at (i:=10) rfl
 have f_g0_11:=K_g0.out.at (i:=11) rfl
 have K_h0:=Lib.hid (K_h0.out.later hb)
 clear f_h0_0 f_h0_1 f_h0_2 f_h0_3 f_h0_4 f_h0_5 f_h0_6 f_h0_7 f_h0_8 f_h0_9 f_h0_10 f_h0_11
 have f_h0_0:=K_h0.out.at (i:=0) rfl
 have f_h0_1:=K_h0.out.at (i:=1) rfl
 have f_h0_2:=K_h0.out.at (i:=2) rfl
 have f_h0_3:=K_h0.out.at (i:=3) rfl
 have f_h0_4:=K_h0.out.at (i:=4) rfl
 have f_h0_5:=K_h0.out.at (i:=5) rfl
 have f_h0_6:=K_h0.out.at (i:=6) rfl
 have f_h0_7:=K_h0.out.at (i:=7) rfl
 have f_h0_8:=K_h0.out.at (i:=8) rfl
 have f_h0_9:=K_h0.out.at (i:=9) rfl
 have f_h0_10:=K_h0.out.at (i:=10) rfl
 have f_h0_11:=K_h0.out.at (i:=11) rfl
 clear B10
 clear hb
 have qn11:¬(ZLC ((1:Int)) R0<0):=by omega
 have qm11:((ZLC ((1:Int)) R0) != (ZLC ((1:Int)) R0))=false:=by simp
 go_wp2_with fail
 go_ret
 exact ⟨rfl,B11.out⟩
end
end Go.Proofs.YthikodhnkaofaaaGreatDoor
