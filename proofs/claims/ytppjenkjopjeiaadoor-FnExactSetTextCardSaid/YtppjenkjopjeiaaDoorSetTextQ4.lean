/- Texts of this proof, joined: Dp4, Dp5, Dp6, Dp7, BStd, DE, Sz, To, Eq, Open, ExactSetText, Opens. What each holds is said at its theorems. -/
import Derived.Test.YtppjenkjopjeiaaDoorSetTextQ3
import Derived.Test.YtppjenkjopjeiaaDoorSetTextQ2
import Derived.Test.YtppjenkjopjeiaaDoorSetTextQ1
import Derived.Test.YtppjenkjopjeiaaDoorProg
import Derived.Outline
import Derived.WalkSpells
import Derived.StillTailTactics
import Derived.Deep.Slices
import Derived.ChangeArms
import Derived.ProofKit
import Derived.Deep.RegionHeld3
set_option linter.unusedSimpArgs false
set_option linter.unusedVariables false
namespace Go.Proofs.YtppjenkjopjeiaaDoor
open Go.Proofs.Tryd
set_option linter.unusedSimpArgs false
set_option linter.unusedVariables false
set_option maxRecDepth 1000000
set_option maxHeartbeats 4000000
theorem s_IsBeliefs_ok {b_0 : BeliefsD} {r : Bool} (h : s_IsBeliefs b_0 = some r) : Sound Tryd.prog J0 82 [(true, eBeliefs b_0)] [(false, [(false, .bool r)])] := by
  refine fnk Tryd.func82 (by kernel_rfl) rfl (by kernel_rfl) (by kernel_rfl) ?_
  unfold s_IsBeliefs at h
  simp only [fnS, f82, argSt, go_sem, Int.reduceLT, Int.reduceLE, Int.reduceBEq, Int.reduceBNe, Nat.reduceBNe, Nat.reduceAdd, Nat.reduceMul, Nat.reduceEqDiff, Nat.reduceLeDiff, Nat.reduceLT, Nat.reduceBEq, reduceCtorEq, reduceIte]
  refine swp_for h (fun i _ st => IV [(1, .bp 0 0), (3, .p false [.c (.int .i64 ((i : Nat) : Int))])] [.box 52 [.c (.int .i64 b_0.nodes), .c (.sl 99 3 (List.map eReason b_0.reasons))]] st) [] [0] (by decide) ?_ ?_ ?_
  · simp only [go_sem, Int.reduceLT, Int.reduceLE, Int.reduceBEq, Int.reduceBNe, Nat.reduceBNe, Nat.reduceAdd, Nat.reduceMul, Nat.reduceEqDiff, Nat.reduceLeDiff, Nat.reduceLT, Nat.reduceBEq, reduceCtorEq, reduceIte, IV, sts_cons, sts_nil, obs_cons, obs_nil]
  · rintro i11 x12 ⟨⟩ ⟨sl, ob, n⟩ y1 hx2 hI3 hW4 h hy1
    simp only [IV, sts_cons, sts_nil, obs_cons, obs_nil, and_true, true_and, Nat.reduceAdd, str_len] at hI3
    obtain ⟨⟨g5_1, g5_3⟩, og5_0, hn⟩ := hI3
    subst hn
    have hlhx2 := WF.boxL hW4 og5_0 (j := 1) rfl
    try simp only [go_sem, Int.reduceLT, Int.reduceLE, Int.reduceBEq, Int.reduceBNe, Nat.reduceBNe, Nat.reduceAdd, Nat.reduceMul, Nat.reduceEqDiff, Nat.reduceLeDiff, Nat.reduceLT, Nat.reduceBEq, reduceCtorEq, reduceIte, hx2, lt_t hx2, lt_p hx2, nat_in (lt_n hx2) hlhx2, g5_1, g5_3, og5_0]
    obtain ⟨v13, e6, h⟩ := bind_K h
    refine call_K (by first | exact s_l1In_ok e6 | simpa only [go_sem, Int.reduceLT, Int.reduceLE, Int.reduceBEq, Int.reduceBNe, Nat.reduceBNe, Nat.reduceAdd, Nat.reduceMul, Nat.reduceEqDiff, Nat.reduceLeDiff, Nat.reduceLT, Nat.reduceBEq, reduceCtorEq, reduceIte, hx2, lt_t hx2, lt_p hx2, nat_in (lt_n hx2) hlhx2, g5_1, g5_3, og5_0] using s_l1In_ok e6) ?_
    try simp only [go_sem, Int.reduceLT, Int.reduceLE, Int.reduceBEq, Int.reduceBNe, Nat.reduceBNe, Nat.reduceAdd, Nat.reduceMul, Nat.reduceEqDiff, Nat.reduceLeDiff, Nat.reduceLT, Nat.reduceBEq, reduceCtorEq, reduceIte, hx2, lt_t hx2, lt_p hx2, nat_in (lt_n hx2) hlhx2, g5_1, g5_3, og5_0]
    refine ite_K h (fun c7 h => ?_) (fun c7 h => ?_)
    · try simp only [go_sem, Int.reduceLT, Int.reduceLE, Int.reduceBEq, Int.reduceBNe, Nat.reduceBNe, Nat.reduceAdd, Nat.reduceMul, Nat.reduceEqDiff, Nat.reduceLeDiff, Nat.reduceLT, Nat.reduceBEq, reduceCtorEq, reduceIte, hx2, lt_t hx2, lt_p hx2, nat_in (lt_n hx2) hlhx2, c7, g5_1, g5_3, og5_0]
      obtain ⟨v14, e8, h⟩ := bind_K h
      refine call_K (by first | exact s_l11List_ok e8 | simpa only [go_sem, Int.reduceLT, Int.reduceLE, Int.reduceBEq, Int.reduceBNe, Nat.reduceBNe, Nat.reduceAdd, Nat.reduceMul, Nat.reduceEqDiff, Nat.reduceLeDiff, Nat.reduceLT, Nat.reduceBEq, reduceCtorEq, reduceIte, hx2, lt_t hx2, lt_p hx2, nat_in (lt_n hx2) hlhx2, c7, g5_1, g5_3, og5_0] using s_l11List_ok e8) ?_
      try simp only [go_sem, Int.reduceLT, Int.reduceLE, Int.reduceBEq, Int.reduceBNe, Nat.reduceBNe, Nat.reduceAdd, Nat.reduceMul, Nat.reduceEqDiff, Nat.reduceLeDiff, Nat.reduceLT, Nat.reduceBEq, reduceCtorEq, reduceIte, hx2, lt_t hx2, lt_p hx2, nat_in (lt_n hx2) hlhx2, c7, g5_1, g5_3, og5_0]
      refine ite_K h (fun c9 h => ?_) (fun c9 h => ?_)
      · try simp only [go_sem, Int.reduceLT, Int.reduceLE, Int.reduceBEq, Int.reduceBNe, Nat.reduceBNe, Nat.reduceAdd, Nat.reduceMul, Nat.reduceEqDiff, Nat.reduceLeDiff, Nat.reduceLT, Nat.reduceBEq, reduceCtorEq, reduceIte, hx2, lt_t hx2, lt_p hx2, nat_in (lt_n hx2) hlhx2, c7, c9, g5_1, g5_3, og5_0]
        obtain ⟨v15, e10, h⟩ := bind_K h
        refine call_K (by first | exact s_l11List_ok e10 | simpa only [go_sem, Int.reduceLT, Int.reduceLE, Int.reduceBEq, Int.reduceBNe, Nat.reduceBNe, Nat.reduceAdd, Nat.reduceMul, Nat.reduceEqDiff, Nat.reduceLeDiff, Nat.reduceLT, Nat.reduceBEq, reduceCtorEq, reduceIte, hx2, lt_t hx2, lt_p hx2, nat_in (lt_n hx2) hlhx2, c7, c9, g5_1, g5_3, og5_0] using s_l11List_ok e10) ?_
        try simp only [go_sem, Int.reduceLT, Int.reduceLE, Int.reduceBEq, Int.reduceBNe, Nat.reduceBNe, Nat.reduceAdd, Nat.reduceMul, Nat.reduceEqDiff, Nat.reduceLeDiff, Nat.reduceLT, Nat.reduceBEq, reduceCtorEq, reduceIte, hx2, lt_t hx2, lt_p hx2, nat_in (lt_n hx2) hlhx2, c7, c9, g5_1, g5_3, og5_0]
        refine ite_K h (fun c11 h => ?_) (fun c11 h => ?_)
        · try simp only [go_sem, Int.reduceLT, Int.reduceLE, Int.reduceBEq, Int.reduceBNe, Nat.reduceBNe, Nat.reduceAdd, Nat.reduceMul, Nat.reduceEqDiff, Nat.reduceLeDiff, Nat.reduceLT, Nat.reduceBEq, reduceCtorEq, reduceIte, hx2, lt_t hx2, lt_p hx2, nat_in (lt_n hx2) hlhx2, c7, c9, c11, g5_1, g5_3, og5_0]
          refine ⟨_, [], [0], (Option.some.inj h).symm, by decide, ?_⟩
          try simp only [go_sem, Int.reduceLT, Int.reduceLE, Int.reduceBEq, Int.reduceBNe, Nat.reduceBNe, Nat.reduceAdd, Nat.reduceMul, Nat.reduceEqDiff, Nat.reduceLeDiff, Nat.reduceLT, Nat.reduceBEq, reduceCtorEq, reduceIte, hx2, lt_t hx2, lt_p hx2, nat_in (lt_n hx2) hlhx2, c7, c9, c11, g5_1, g5_3, og5_0, IV, sts_cons, sts_nil, obs_cons, obs_nil]
        · replace h := inr_K h hy1
          obtain rfl := Option.some.inj h
          try simp only [go_sem, Int.reduceLT, Int.reduceLE, Int.reduceBEq, Int.reduceBNe, Nat.reduceBNe, Nat.reduceAdd, Nat.reduceMul, Nat.reduceEqDiff, Nat.reduceLeDiff, Nat.reduceLT, Nat.reduceBEq, reduceCtorEq, reduceIte, hx2, lt_t hx2, lt_p hx2, nat_in (lt_n hx2) hlhx2, c7, c9, c11, g5_1, g5_3, og5_0]
      · replace h := inr_K h hy1
        obtain rfl := Option.some.inj h
        try simp only [go_sem, Int.reduceLT, Int.reduceLE, Int.reduceBEq, Int.reduceBNe, Nat.reduceBNe, Nat.reduceAdd, Nat.reduceMul, Nat.reduceEqDiff, Nat.reduceLeDiff, Nat.reduceLT, Nat.reduceBEq, reduceCtorEq, reduceIte, hx2, lt_t hx2, lt_p hx2, nat_in (lt_n hx2) hlhx2, c7, c9, g5_1, g5_3, og5_0]
    · replace h := inr_K h hy1
      obtain rfl := Option.some.inj h
      try simp only [go_sem, Int.reduceLT, Int.reduceLE, Int.reduceBEq, Int.reduceBNe, Nat.reduceBNe, Nat.reduceAdd, Nat.reduceMul, Nat.reduceEqDiff, Nat.reduceLeDiff, Nat.reduceLT, Nat.reduceBEq, reduceCtorEq, reduceIte, hx2, lt_t hx2, lt_p hx2, nat_in (lt_n hx2) hlhx2, c7, g5_1, g5_3, og5_0]
  · rintro ⟨⟩ ⟨sl, ob, n⟩ hI12 hW13 h
    simp only [IV, sts_cons, sts_nil, obs_cons, obs_nil, and_true, true_and, Nat.reduceAdd, str_len] at hI12
    obtain ⟨⟨g14_1, g14_3⟩, og14_0, hn⟩ := hI12
    subst hn
    try simp only [go_sem, Int.reduceLT, Int.reduceLE, Int.reduceBEq, Int.reduceBNe, Nat.reduceBNe, Nat.reduceAdd, Nat.reduceMul, Nat.reduceEqDiff, Nat.reduceLeDiff, Nat.reduceLT, Nat.reduceBEq, reduceCtorEq, reduceIte, lt_f (b_0.reasons.length), g14_1, g14_3, og14_0]
    obtain ⟨v16, e15, h⟩ := bind_K h
    refine call_K (by first | exact s_l1In_ok e15 | simpa only [go_sem, Int.reduceLT, Int.reduceLE, Int.reduceBEq, Int.reduceBNe, Nat.reduceBNe, Nat.reduceAdd, Nat.reduceMul, Nat.reduceEqDiff, Nat.reduceLeDiff, Nat.reduceLT, Nat.reduceBEq, reduceCtorEq, reduceIte, lt_f (b_0.reasons.length), g14_1, g14_3, og14_0] using s_l1In_ok e15) ?_
    try simp only [go_sem, Int.reduceLT, Int.reduceLE, Int.reduceBEq, Int.reduceBNe, Nat.reduceBNe, Nat.reduceAdd, Nat.reduceMul, Nat.reduceEqDiff, Nat.reduceLeDiff, Nat.reduceLT, Nat.reduceBEq, reduceCtorEq, reduceIte, lt_f (b_0.reasons.length), g14_1, g14_3, og14_0]
    refine ite_K h (fun c16 h => ?_) (fun c16 h => ?_)
    · obtain rfl := Option.some.inj h
      try simp only [go_sem, Int.reduceLT, Int.reduceLE, Int.reduceBEq, Int.reduceBNe, Nat.reduceBNe, Nat.reduceAdd, Nat.reduceMul, Nat.reduceEqDiff, Nat.reduceLeDiff, Nat.reduceLT, Nat.reduceBEq, reduceCtorEq, reduceIte, lt_f (b_0.reasons.length), c16, g14_1, g14_3, og14_0]
    · obtain rfl := Option.some.inj h
      try simp only [go_sem, Int.reduceLT, Int.reduceLE, Int.reduceBEq, Int.reduceBNe, Nat.reduceBNe, Nat.reduceAdd, Nat.reduceMul, Nat.reduceEqDiff, Nat.reduceLeDiff, Nat.reduceLT, Nat.reduceBEq, reduceCtorEq, reduceIte, lt_f (b_0.reasons.length), c16, g14_1, g14_3, og14_0]
theorem i_IsFrame_ok {f_0 : FrameD} {r : Bool} (h : i_IsFrame f_0 = some r) : Sound Tryd.prog J0 47 [(true, eFrame f_0)] [(false, [(false, .bool r)])] := by
  refine fnk Tryd.func47 (by kernel_rfl) rfl (by kernel_rfl) (by kernel_rfl) ?_
  unfold i_IsFrame at h
  simp only [fnS, f47, argSt, go_sem, Int.reduceLT, Int.reduceLE, Int.reduceBEq, Int.reduceBNe, Nat.reduceBNe, Nat.reduceAdd, Nat.reduceMul, Nat.reduceEqDiff, Nat.reduceLeDiff, Nat.reduceLT, Nat.reduceBEq, reduceCtorEq, reduceIte]
  obtain ⟨v1, e1, h⟩ := bind_K h
  refine call_K (by first | exact i_IsBeliefs_ok e1 | simpa only [go_sem, Int.reduceLT, Int.reduceLE, Int.reduceBEq, Int.reduceBNe, Nat.reduceBNe, Nat.reduceAdd, Nat.reduceMul, Nat.reduceEqDiff, Nat.reduceLeDiff, Nat.reduceLT, Nat.reduceBEq, reduceCtorEq, reduceIte] using i_IsBeliefs_ok e1) ?_
  try simp only [go_sem, Int.reduceLT, Int.reduceLE, Int.reduceBEq, Int.reduceBNe, Nat.reduceBNe, Nat.reduceAdd, Nat.reduceMul, Nat.reduceEqDiff, Nat.reduceLeDiff, Nat.reduceLT, Nat.reduceBEq, reduceCtorEq, reduceIte]
  refine ite_K h (fun c2 h => ?_) (fun c2 h => ?_)
  · try simp only [go_sem, Int.reduceLT, Int.reduceLE, Int.reduceBEq, Int.reduceBNe, Nat.reduceBNe, Nat.reduceAdd, Nat.reduceMul, Nat.reduceEqDiff, Nat.reduceLeDiff, Nat.reduceLT, Nat.reduceBEq, reduceCtorEq, reduceIte, c2]
    refine ite_K h (fun c3 h => ?_) (fun c3 h => ?_)
    · obtain rfl := Option.some.inj h
      try simp only [go_sem, Int.reduceLT, Int.reduceLE, Int.reduceBEq, Int.reduceBNe, Nat.reduceBNe, Nat.reduceAdd, Nat.reduceMul, Nat.reduceEqDiff, Nat.reduceLeDiff, Nat.reduceLT, Nat.reduceBEq, reduceCtorEq, reduceIte, c2, c3]
    · try simp only [go_sem, Int.reduceLT, Int.reduceLE, Int.reduceBEq, Int.reduceBNe, Nat.reduceBNe, Nat.reduceAdd, Nat.reduceMul, Nat.reduceEqDiff, Nat.reduceLeDiff, Nat.reduceLT, Nat.reduceBEq, reduceCtorEq, reduceIte, c2, c3]
      obtain ⟨v2, e4, h⟩ := bind_K h
      refine call_K (by first | exact i_ascendingNodes_ok e4 | simpa only [go_sem, Int.reduceLT, Int.reduceLE, Int.reduceBEq, Int.reduceBNe, Nat.reduceBNe, Nat.reduceAdd, Nat.reduceMul, Nat.reduceEqDiff, Nat.reduceLeDiff, Nat.reduceLT, Nat.reduceBEq, reduceCtorEq, reduceIte, c2, c3] using i_ascendingNodes_ok e4) ?_
      try simp only [go_sem, Int.reduceLT, Int.reduceLE, Int.reduceBEq, Int.reduceBNe, Nat.reduceBNe, Nat.reduceAdd, Nat.reduceMul, Nat.reduceEqDiff, Nat.reduceLeDiff, Nat.reduceLT, Nat.reduceBEq, reduceCtorEq, reduceIte, c2, c3]
      refine ite_K h (fun c5 h => ?_) (fun c5 h => ?_)
      · try simp only [go_sem, Int.reduceLT, Int.reduceLE, Int.reduceBEq, Int.reduceBNe, Nat.reduceBNe, Nat.reduceAdd, Nat.reduceMul, Nat.reduceEqDiff, Nat.reduceLeDiff, Nat.reduceLT, Nat.reduceBEq, reduceCtorEq, reduceIte, c2, c3, c5]
        obtain ⟨v3, e6, h⟩ := bind_K h
        refine call_K (by first | exact i_ascendingNodes_ok e6 | simpa only [go_sem, Int.reduceLT, Int.reduceLE, Int.reduceBEq, Int.reduceBNe, Nat.reduceBNe, Nat.reduceAdd, Nat.reduceMul, Nat.reduceEqDiff, Nat.reduceLeDiff, Nat.reduceLT, Nat.reduceBEq, reduceCtorEq, reduceIte, c2, c3, c5] using i_ascendingNodes_ok e6) ?_
        try simp only [go_sem, Int.reduceLT, Int.reduceLE, Int.reduceBEq, Int.reduceBNe, Nat.reduceBNe, Nat.reduceAdd, Nat.reduceMul, Nat.reduceEqDiff, Nat.reduceLeDiff, Nat.reduceLT, Nat.reduceBEq, reduceCtorEq, reduceIte, c2, c3, c5]
        refine ite_K h (fun c7 h => ?_) (fun c7 h => ?_)
        · try simp only [go_sem, Int.reduceLT, Int.reduceLE, Int.reduceBEq, Int.reduceBNe, Nat.reduceBNe, Nat.reduceAdd, Nat.reduceMul, Nat.reduceEqDiff, Nat.reduceLeDiff, Nat.reduceLT, Nat.reduceBEq, reduceCtorEq, reduceIte, c2, c3, c5, c7]
          refine swp_for h (fun i _ st => IV [(35, .p false [.c (.sl 99 3 (List.map eReason f_0.beliefs.reasons))]), (36, .p false [.c (.int .i64 ((f_0.beliefs.reasons.length : Nat) : Int))]), (37, .p false [.c (.int .i64 ((i : Nat) : Int))])] [] st) [] [] (by decide) ?_ ?_ ?_
          · simp only [go_sem, Int.reduceLT, Int.reduceLE, Int.reduceBEq, Int.reduceBNe, Nat.reduceBNe, Nat.reduceAdd, Nat.reduceMul, Nat.reduceEqDiff, Nat.reduceLeDiff, Nat.reduceLT, Nat.reduceBEq, reduceCtorEq, reduceIte, IV, sts_cons, sts_nil, obs_cons, obs_nil, c2, c3, c5, c7]
          · rintro i7 x8 ⟨⟩ ⟨sl, ob, n⟩ y8 hx9 hI10 hW11 h hy8
            simp only [IV, sts_cons, sts_nil, obs_cons, obs_nil, and_true, true_and, Nat.reduceAdd, str_len] at hI10
            obtain ⟨⟨g12_35, g12_36, g12_37⟩, hn⟩ := hI10
            subst hn
            have hlhx9 := WF.slotL hW11 g12_35 (j := 0) rfl
            try simp only [go_sem, Int.reduceLT, Int.reduceLE, Int.reduceBEq, Int.reduceBNe, Nat.reduceBNe, Nat.reduceAdd, Nat.reduceMul, Nat.reduceEqDiff, Nat.reduceLeDiff, Nat.reduceLT, Nat.reduceBEq, reduceCtorEq, reduceIte, c2, c3, c5, c7, hx9, lt_t hx9, lt_p hx9, nat_in (lt_n hx9) hlhx9, g12_35, g12_36, g12_37]
            refine ite_K h (fun c13 h => ?_) (fun c13 h => ?_)
            · replace h := inr_K h hy8
              obtain rfl := Option.some.inj h
              try simp only [go_sem, Int.reduceLT, Int.reduceLE, Int.reduceBEq, Int.reduceBNe, Nat.reduceBNe, Nat.reduceAdd, Nat.reduceMul, Nat.reduceEqDiff, Nat.reduceLeDiff, Nat.reduceLT, Nat.reduceBEq, reduceCtorEq, reduceIte, c2, c3, c5, c7, hx9, lt_t hx9, lt_p hx9, nat_in (lt_n hx9) hlhx9, c13, g12_35, g12_36, g12_37]
            · try simp only [go_sem, Int.reduceLT, Int.reduceLE, Int.reduceBEq, Int.reduceBNe, Nat.reduceBNe, Nat.reduceAdd, Nat.reduceMul, Nat.reduceEqDiff, Nat.reduceLeDiff, Nat.reduceLT, Nat.reduceBEq, reduceCtorEq, reduceIte, c2, c3, c5, c7, hx9, lt_t hx9, lt_p hx9, nat_in (lt_n hx9) hlhx9, c13, g12_35, g12_36, g12_37]
              refine ⟨_, [], [], (Option.some.inj h).symm, by decide, ?_⟩
              try simp only [go_sem, Int.reduceLT, Int.reduceLE, Int.reduceBEq, Int.reduceBNe, Nat.reduceBNe, Nat.reduceAdd, Nat.reduceMul, Nat.reduceEqDiff, Nat.reduceLeDiff, Nat.reduceLT, Nat.reduceBEq, reduceCtorEq, reduceIte, c2, c3, c5, c7, hx9, lt_t hx9, lt_p hx9, nat_in (lt_n hx9) hlhx9, c13, g12_35, g12_36, g12_37, IV, sts_cons, sts_nil, obs_cons, obs_nil]
          · rintro ⟨⟩ ⟨sl, ob, n⟩ hI14 hW15 h
            simp only [IV, sts_cons, sts_nil, obs_cons, obs_nil, and_true, true_and, Nat.reduceAdd, str_len] at hI14
            obtain ⟨⟨g16_35, g16_36, g16_37⟩, hn⟩ := hI14
            subst hn
            obtain rfl := Option.some.inj h
            try simp only [go_sem, Int.reduceLT, Int.reduceLE, Int.reduceBEq, Int.reduceBNe, Nat.reduceBNe, Nat.reduceAdd, Nat.reduceMul, Nat.reduceEqDiff, Nat.reduceLeDiff, Nat.reduceLT, Nat.reduceBEq, reduceCtorEq, reduceIte, c2, c3, c5, c7, lt_f (f_0.beliefs.reasons.length), g16_35, g16_36, g16_37]
        · obtain rfl := Option.some.inj h
          try simp only [go_sem, Int.reduceLT, Int.reduceLE, Int.reduceBEq, Int.reduceBNe, Nat.reduceBNe, Nat.reduceAdd, Nat.reduceMul, Nat.reduceEqDiff, Nat.reduceLeDiff, Nat.reduceLT, Nat.reduceBEq, reduceCtorEq, reduceIte, c2, c3, c5, c7]
      · obtain rfl := Option.some.inj h
        try simp only [go_sem, Int.reduceLT, Int.reduceLE, Int.reduceBEq, Int.reduceBNe, Nat.reduceBNe, Nat.reduceAdd, Nat.reduceMul, Nat.reduceEqDiff, Nat.reduceLeDiff, Nat.reduceLT, Nat.reduceBEq, reduceCtorEq, reduceIte, c2, c3, c5]
  · obtain rfl := Option.some.inj h
    try simp only [go_sem, Int.reduceLT, Int.reduceLE, Int.reduceBEq, Int.reduceBNe, Nat.reduceBNe, Nat.reduceAdd, Nat.reduceMul, Nat.reduceEqDiff, Nat.reduceLeDiff, Nat.reduceLT, Nat.reduceBEq, reduceCtorEq, reduceIte, c2]
end Go.Proofs.YtppjenkjopjeiaaDoor

namespace Go.Proofs.YtppjenkjopjeiaaDoor
open Go.Proofs.Tryd
set_option linter.unusedSimpArgs false
set_option linter.unusedVariables false
set_option maxRecDepth 1000000
set_option maxHeartbeats 4000000
theorem s_IsFrame_ok {f_0 : FrameD} {r : Bool} (h : s_IsFrame f_0 = some r) : Sound Tryd.prog J0 68 [(true, eFrame f_0)] [(false, [(false, .bool r)])] := by
  refine fnk Tryd.func68 (by kernel_rfl) rfl (by kernel_rfl) (by kernel_rfl) ?_
  unfold s_IsFrame at h
  simp only [fnS, f68, argSt, go_sem, Int.reduceLT, Int.reduceLE, Int.reduceBEq, Int.reduceBNe, Nat.reduceBNe, Nat.reduceAdd, Nat.reduceMul, Nat.reduceEqDiff, Nat.reduceLeDiff, Nat.reduceLT, Nat.reduceBEq, reduceCtorEq, reduceIte]
  refine swp_for h (fun i _ st => IV [(1, .bp 0 0), (3, .p false [.c (.int .i64 ((i : Nat) : Int))])] [.box 54 [.c (.int .i64 f_0.beliefs.nodes), .c (.sl 99 3 (List.map eReason f_0.beliefs.reasons)), .c (.sl 3 1 (List.map eInt f_0.assumed)), .c (.sl 3 1 (List.map eInt f_0.bad))]] st) [] [0] (by decide) ?_ ?_ ?_
  · simp only [go_sem, Int.reduceLT, Int.reduceLE, Int.reduceBEq, Int.reduceBNe, Nat.reduceBNe, Nat.reduceAdd, Nat.reduceMul, Nat.reduceEqDiff, Nat.reduceLeDiff, Nat.reduceLT, Nat.reduceBEq, reduceCtorEq, reduceIte, IV, sts_cons, sts_nil, obs_cons, obs_nil]
  · rintro i7 x8 ⟨⟩ ⟨sl, ob, n⟩ y1 hx2 hI3 hW4 h hy1
    simp only [IV, sts_cons, sts_nil, obs_cons, obs_nil, and_true, true_and, Nat.reduceAdd, str_len] at hI3
    obtain ⟨⟨g5_1, g5_3⟩, og5_0, hn⟩ := hI3
    subst hn
    have hlhx2 := WF.boxL hW4 og5_0 (j := 1) rfl
    try simp only [go_sem, Int.reduceLT, Int.reduceLE, Int.reduceBEq, Int.reduceBNe, Nat.reduceBNe, Nat.reduceAdd, Nat.reduceMul, Nat.reduceEqDiff, Nat.reduceLeDiff, Nat.reduceLT, Nat.reduceBEq, reduceCtorEq, reduceIte, hx2, lt_t hx2, lt_p hx2, nat_in (lt_n hx2) hlhx2, g5_1, g5_3, og5_0]
    refine ite_K h (fun c6 h => ?_) (fun c6 h => ?_)
    · replace h := inr_K h hy1
      obtain rfl := Option.some.inj h
      try simp only [go_sem, Int.reduceLT, Int.reduceLE, Int.reduceBEq, Int.reduceBNe, Nat.reduceBNe, Nat.reduceAdd, Nat.reduceMul, Nat.reduceEqDiff, Nat.reduceLeDiff, Nat.reduceLT, Nat.reduceBEq, reduceCtorEq, reduceIte, hx2, lt_t hx2, lt_p hx2, nat_in (lt_n hx2) hlhx2, c6, g5_1, g5_3, og5_0]
    · try simp only [go_sem, Int.reduceLT, Int.reduceLE, Int.reduceBEq, Int.reduceBNe, Nat.reduceBNe, Nat.reduceAdd, Nat.reduceMul, Nat.reduceEqDiff, Nat.reduceLeDiff, Nat.reduceLT, Nat.reduceBEq, reduceCtorEq, reduceIte, hx2, lt_t hx2, lt_p hx2, nat_in (lt_n hx2) hlhx2, c6, g5_1, g5_3, og5_0]
      refine ⟨_, [], [0], (Option.some.inj h).symm, by decide, ?_⟩
      try simp only [go_sem, Int.reduceLT, Int.reduceLE, Int.reduceBEq, Int.reduceBNe, Nat.reduceBNe, Nat.reduceAdd, Nat.reduceMul, Nat.reduceEqDiff, Nat.reduceLeDiff, Nat.reduceLT, Nat.reduceBEq, reduceCtorEq, reduceIte, hx2, lt_t hx2, lt_p hx2, nat_in (lt_n hx2) hlhx2, c6, g5_1, g5_3, og5_0, IV, sts_cons, sts_nil, obs_cons, obs_nil]
  · rintro ⟨⟩ ⟨sl, ob, n⟩ hI7 hW8 h
    simp only [IV, sts_cons, sts_nil, obs_cons, obs_nil, and_true, true_and, Nat.reduceAdd, str_len] at hI7
    obtain ⟨⟨g9_1, g9_3⟩, og9_0, hn⟩ := hI7
    subst hn
    try simp only [go_sem, Int.reduceLT, Int.reduceLE, Int.reduceBEq, Int.reduceBNe, Nat.reduceBNe, Nat.reduceAdd, Nat.reduceMul, Nat.reduceEqDiff, Nat.reduceLeDiff, Nat.reduceLT, Nat.reduceBEq, reduceCtorEq, reduceIte, lt_f (f_0.beliefs.reasons.length), g9_1, g9_3, og9_0]
    obtain ⟨v9, e10, h⟩ := bind_K h
    refine call_K (by first | exact s_IsBeliefs_ok e10 | simpa only [go_sem, Int.reduceLT, Int.reduceLE, Int.reduceBEq, Int.reduceBNe, Nat.reduceBNe, Nat.reduceAdd, Nat.reduceMul, Nat.reduceEqDiff, Nat.reduceLeDiff, Nat.reduceLT, Nat.reduceBEq, reduceCtorEq, reduceIte, lt_f (f_0.beliefs.reasons.length), g9_1, g9_3, og9_0] using s_IsBeliefs_ok e10) ?_
    try simp only [go_sem, Int.reduceLT, Int.reduceLE, Int.reduceBEq, Int.reduceBNe, Nat.reduceBNe, Nat.reduceAdd, Nat.reduceMul, Nat.reduceEqDiff, Nat.reduceLeDiff, Nat.reduceLT, Nat.reduceBEq, reduceCtorEq, reduceIte, lt_f (f_0.beliefs.reasons.length), g9_1, g9_3, og9_0]
    refine ite_K h (fun c11 h => ?_) (fun c11 h => ?_)
    · try simp only [go_sem, Int.reduceLT, Int.reduceLE, Int.reduceBEq, Int.reduceBNe, Nat.reduceBNe, Nat.reduceAdd, Nat.reduceMul, Nat.reduceEqDiff, Nat.reduceLeDiff, Nat.reduceLT, Nat.reduceBEq, reduceCtorEq, reduceIte, lt_f (f_0.beliefs.reasons.length), c11, g9_1, g9_3, og9_0]
      obtain ⟨v10, e12, h⟩ := bind_K h
      refine call_K (by first | exact s_l11List_ok e12 | simpa only [go_sem, Int.reduceLT, Int.reduceLE, Int.reduceBEq, Int.reduceBNe, Nat.reduceBNe, Nat.reduceAdd, Nat.reduceMul, Nat.reduceEqDiff, Nat.reduceLeDiff, Nat.reduceLT, Nat.reduceBEq, reduceCtorEq, reduceIte, lt_f (f_0.beliefs.reasons.length), c11, g9_1, g9_3, og9_0] using s_l11List_ok e12) ?_
      try simp only [go_sem, Int.reduceLT, Int.reduceLE, Int.reduceBEq, Int.reduceBNe, Nat.reduceBNe, Nat.reduceAdd, Nat.reduceMul, Nat.reduceEqDiff, Nat.reduceLeDiff, Nat.reduceLT, Nat.reduceBEq, reduceCtorEq, reduceIte, lt_f (f_0.beliefs.reasons.length), c11, g9_1, g9_3, og9_0]
      refine ite_K h (fun c13 h => ?_) (fun c13 h => ?_)
      · try simp only [go_sem, Int.reduceLT, Int.reduceLE, Int.reduceBEq, Int.reduceBNe, Nat.reduceBNe, Nat.reduceAdd, Nat.reduceMul, Nat.reduceEqDiff, Nat.reduceLeDiff, Nat.reduceLT, Nat.reduceBEq, reduceCtorEq, reduceIte, lt_f (f_0.beliefs.reasons.length), c11, c13, g9_1, g9_3, og9_0]
        refine ite_K h (fun c14 h => ?_) (fun c14 h => ?_)
        · try simp only [go_sem, Int.reduceLT, Int.reduceLE, Int.reduceBEq, Int.reduceBNe, Nat.reduceBNe, Nat.reduceAdd, Nat.reduceMul, Nat.reduceEqDiff, Nat.reduceLeDiff, Nat.reduceLT, Nat.reduceBEq, reduceCtorEq, reduceIte, lt_f (f_0.beliefs.reasons.length), c11, c13, c14, g9_1, g9_3, og9_0]
          obtain ⟨v11, e15, h⟩ := bind_K h
          refine call_K (by first | exact s_l11List_ok e15 | simpa only [go_sem, Int.reduceLT, Int.reduceLE, Int.reduceBEq, Int.reduceBNe, Nat.reduceBNe, Nat.reduceAdd, Nat.reduceMul, Nat.reduceEqDiff, Nat.reduceLeDiff, Nat.reduceLT, Nat.reduceBEq, reduceCtorEq, reduceIte, lt_f (f_0.beliefs.reasons.length), c11, c13, c14, g9_1, g9_3, og9_0] using s_l11List_ok e15) ?_
          obtain rfl := Option.some.inj h
          try simp only [go_sem, Int.reduceLT, Int.reduceLE, Int.reduceBEq, Int.reduceBNe, Nat.reduceBNe, Nat.reduceAdd, Nat.reduceMul, Nat.reduceEqDiff, Nat.reduceLeDiff, Nat.reduceLT, Nat.reduceBEq, reduceCtorEq, reduceIte, lt_f (f_0.beliefs.reasons.length), c11, c13, c14, g9_1, g9_3, og9_0]
        · obtain rfl := Option.some.inj h
          try simp only [go_sem, Int.reduceLT, Int.reduceLE, Int.reduceBEq, Int.reduceBNe, Nat.reduceBNe, Nat.reduceAdd, Nat.reduceMul, Nat.reduceEqDiff, Nat.reduceLeDiff, Nat.reduceLT, Nat.reduceBEq, reduceCtorEq, reduceIte, lt_f (f_0.beliefs.reasons.length), c11, c13, c14, g9_1, g9_3, og9_0]
      · obtain rfl := Option.some.inj h
        try simp only [go_sem, Int.reduceLT, Int.reduceLE, Int.reduceBEq, Int.reduceBNe, Nat.reduceBNe, Nat.reduceAdd, Nat.reduceMul, Nat.reduceEqDiff, Nat.reduceLeDiff, Nat.reduceLT, Nat.reduceBEq, reduceCtorEq, reduceIte, lt_f (f_0.beliefs.reasons.length), c11, c13, g9_1, g9_3, og9_0]
    · obtain rfl := Option.some.inj h
      try simp only [go_sem, Int.reduceLT, Int.reduceLE, Int.reduceBEq, Int.reduceBNe, Nat.reduceBNe, Nat.reduceAdd, Nat.reduceMul, Nat.reduceEqDiff, Nat.reduceLeDiff, Nat.reduceLT, Nat.reduceBEq, reduceCtorEq, reduceIte, lt_f (f_0.beliefs.reasons.length), c11, g9_1, g9_3, og9_0]
theorem i_SetText_ok {f_0 : FrameD} {set_1 : Int} {r : ByteArray} (h : i_SetText f_0 set_1 = some r) : Sound Tryd.prog J0 19 [(true, eFrame f_0), (false, [.int .i64 set_1])] [(false, [(false, .str r)])] := by
  refine fnk Tryd.func19 (by kernel_rfl) rfl (by kernel_rfl) (by kernel_rfl) ?_
  unfold i_SetText at h
  have ks0 : strOk ⟨#[123]⟩ = true := by decide
  have ks1 : strOk ⟨#[125]⟩ = true := by decide
  have ks2 : strOk ⟨#[44]⟩ = true := by decide
  have ks3 : strOk ⟨#[]⟩ = true := by decide
  simp only [fnS, f19, argSt, go_sem, Int.reduceLT, Int.reduceLE, Int.reduceBEq, Int.reduceBNe, Nat.reduceBNe, Nat.reduceAdd, Nat.reduceMul, Nat.reduceEqDiff, Nat.reduceLeDiff, Nat.reduceLT, Nat.reduceBEq, reduceCtorEq, reduceIte, ks0, ks1, ks2, ks3]
  obtain ⟨v1, e1, h⟩ := bind_K h
  refine call_K (by first | exact i_IsFrame_ok e1 | simpa only [go_sem, Int.reduceLT, Int.reduceLE, Int.reduceBEq, Int.reduceBNe, Nat.reduceBNe, Nat.reduceAdd, Nat.reduceMul, Nat.reduceEqDiff, Nat.reduceLeDiff, Nat.reduceLT, Nat.reduceBEq, reduceCtorEq, reduceIte, ks0, ks1, ks2, ks3] using i_IsFrame_ok e1) ?_
  try simp only [go_sem, Int.reduceLT, Int.reduceLE, Int.reduceBEq, Int.reduceBNe, Nat.reduceBNe, Nat.reduceAdd, Nat.reduceMul, Nat.reduceEqDiff, Nat.reduceLeDiff, Nat.reduceLT, Nat.reduceBEq, reduceCtorEq, reduceIte, ks0, ks1, ks2, ks3]
  refine ite_K h (fun c2 h => ?_) (fun c2 h => ?_)
  · try simp only [go_sem, Int.reduceLT, Int.reduceLE, Int.reduceBEq, Int.reduceBNe, Nat.reduceBNe, Nat.reduceAdd, Nat.reduceMul, Nat.reduceEqDiff, Nat.reduceLeDiff, Nat.reduceLT, Nat.reduceBEq, reduceCtorEq, reduceIte, ks0, ks1, ks2, ks3, c2]
    obtain ⟨v2, e3, h⟩ := bind_K h
    refine call_K (by first | exact i_isSet_ok e3 | simpa only [go_sem, Int.reduceLT, Int.reduceLE, Int.reduceBEq, Int.reduceBNe, Nat.reduceBNe, Nat.reduceAdd, Nat.reduceMul, Nat.reduceEqDiff, Nat.reduceLeDiff, Nat.reduceLT, Nat.reduceBEq, reduceCtorEq, reduceIte, ks0, ks1, ks2, ks3, c2] using i_isSet_ok e3) ?_
    try simp only [go_sem, Int.reduceLT, Int.reduceLE, Int.reduceBEq, Int.reduceBNe, Nat.reduceBNe, Nat.reduceAdd, Nat.reduceMul, Nat.reduceEqDiff, Nat.reduceLeDiff, Nat.reduceLT, Nat.reduceBEq, reduceCtorEq, reduceIte, ks0, ks1, ks2, ks3, c2]
    refine ite_K h (fun c4 h => ?_) (fun c4 h => ?_)
    · try simp only [go_sem, Int.reduceLT, Int.reduceLE, Int.reduceBEq, Int.reduceBNe, Nat.reduceBNe, Nat.reduceAdd, Nat.reduceMul, Nat.reduceEqDiff, Nat.reduceLeDiff, Nat.reduceLT, Nat.reduceBEq, reduceCtorEq, reduceIte, ks0, ks1, ks2, ks3, c2, c4]
      obtain ⟨v3, e5, h⟩ := bind_K h
      refine call_K (by first | exact i_chosen_ok e5 | simpa only [go_sem, Int.reduceLT, Int.reduceLE, Int.reduceBEq, Int.reduceBNe, Nat.reduceBNe, Nat.reduceAdd, Nat.reduceMul, Nat.reduceEqDiff, Nat.reduceLeDiff, Nat.reduceLT, Nat.reduceBEq, reduceCtorEq, reduceIte, ks0, ks1, ks2, ks3, c2, c4] using i_chosen_ok e5) ?_
      try simp only [go_sem, Int.reduceLT, Int.reduceLE, Int.reduceBEq, Int.reduceBNe, Nat.reduceBNe, Nat.reduceAdd, Nat.reduceMul, Nat.reduceEqDiff, Nat.reduceLeDiff, Nat.reduceLT, Nat.reduceBEq, reduceCtorEq, reduceIte, ks0, ks1, ks2, ks3, c2, c4]
      refine swp_for h (fun i row_8 st => IV [(5, .p false [.row 0]), (20, .p false [.row 1]), (21, .p false [.c (.int .i64 ((v3.length : Nat) : Int))]), (22, .p false [.c (.int .i64 ((i : Nat) : Int))])] [.row 9 1 (List.map eStr row_8) 2, .row 3 1 (List.map eInt v3) 2] st) [(false, 5, 0)] [288, 240] (by decide) ?_ ?_ ?_
      · simp only [go_sem, Int.reduceLT, Int.reduceLE, Int.reduceBEq, Int.reduceBNe, Nat.reduceBNe, Nat.reduceAdd, Nat.reduceMul, Nat.reduceEqDiff, Nat.reduceLeDiff, Nat.reduceLT, Nat.reduceBEq, reduceCtorEq, reduceIte, IV, sts_cons, sts_nil, obs_cons, obs_nil, ks0, ks1, ks2, ks3, c2, c4]
      · rintro i13 x14 row_8 ⟨sl, ob, n⟩ y6 hx7 hI8 hW9 h hy6
        simp only [IV, sts_cons, sts_nil, obs_cons, obs_nil, and_true, true_and, Nat.reduceAdd, str_len] at hI8
        obtain ⟨⟨g10_5, g10_20, g10_21, g10_22⟩, og10_0, og10_1, hn⟩ := hI8
        subst hn
        have hlhx7 := WF.rowL hW9 og10_1
        try simp only [go_sem, Int.reduceLT, Int.reduceLE, Int.reduceBEq, Int.reduceBNe, Nat.reduceBNe, Nat.reduceAdd, Nat.reduceMul, Nat.reduceEqDiff, Nat.reduceLeDiff, Nat.reduceLT, Nat.reduceBEq, reduceCtorEq, reduceIte, ks0, ks1, ks2, ks3, c2, c4, hx7, lt_t hx7, lt_p hx7, nat_in (lt_n hx7) hlhx7, g10_5, g10_20, g10_21, g10_22, og10_0, og10_1]
        obtain ⟨v15, e11, h⟩ := bind_K h
        refine call_K (by first | exact i_FormatInt_ok e11 | simpa only [go_sem, Int.reduceLT, Int.reduceLE, Int.reduceBEq, Int.reduceBNe, Nat.reduceBNe, Nat.reduceAdd, Nat.reduceMul, Nat.reduceEqDiff, Nat.reduceLeDiff, Nat.reduceLT, Nat.reduceBEq, reduceCtorEq, reduceIte, ks0, ks1, ks2, ks3, c2, c4, hx7, lt_t hx7, lt_p hx7, nat_in (lt_n hx7) hlhx7, g10_5, g10_20, g10_21, g10_22, og10_0, og10_1] using i_FormatInt_ok e11) ?_
        obtain ⟨p12, h⟩ := chk_K h
        try simp only [Nat.reduceLeDiff] at p12
        try simp only [go_sem, Int.reduceLT, Int.reduceLE, Int.reduceBEq, Int.reduceBNe, Nat.reduceBNe, Nat.reduceAdd, Nat.reduceMul, Nat.reduceEqDiff, Nat.reduceLeDiff, Nat.reduceLT, Nat.reduceBEq, reduceCtorEq, reduceIte, ks0, ks1, ks2, ks3, c2, c4, hx7, lt_t hx7, lt_p hx7, nat_in (lt_n hx7) hlhx7, p12, g10_5, g10_20, g10_21, g10_22, og10_0, og10_1]
        refine ⟨_, [], [130, 1], (Option.some.inj h).symm, by decide, ?_⟩
        try simp only [go_sem, Int.reduceLT, Int.reduceLE, Int.reduceBEq, Int.reduceBNe, Nat.reduceBNe, Nat.reduceAdd, Nat.reduceMul, Nat.reduceEqDiff, Nat.reduceLeDiff, Nat.reduceLT, Nat.reduceBEq, reduceCtorEq, reduceIte, ks0, ks1, ks2, ks3, c2, c4, hx7, lt_t hx7, lt_p hx7, nat_in (lt_n hx7) hlhx7, p12, g10_5, g10_20, g10_21, g10_22, og10_0, og10_1, IV, sts_cons, sts_nil, obs_cons, obs_nil]
      · rintro row_8 ⟨sl, ob, n⟩ hI13 hW14 h
        simp only [IV, sts_cons, sts_nil, obs_cons, obs_nil, and_true, true_and, Nat.reduceAdd, str_len] at hI13
        obtain ⟨⟨g15_5, g15_20, g15_21, g15_22⟩, og15_0, og15_1, hn⟩ := hI13
        subst hn
        try simp only [go_sem, Int.reduceLT, Int.reduceLE, Int.reduceBEq, Int.reduceBNe, Nat.reduceBNe, Nat.reduceAdd, Nat.reduceMul, Nat.reduceEqDiff, Nat.reduceLeDiff, Nat.reduceLT, Nat.reduceBEq, reduceCtorEq, reduceIte, ks0, ks1, ks2, ks3, c2, c4, lt_f (v3.length), g15_5, g15_20, g15_21, g15_22, og15_0, og15_1]
        obtain ⟨v16, e16, h⟩ := bind_K h
        refine call_K (by first | exact i_Join_ok e16 | simpa only [go_sem, Int.reduceLT, Int.reduceLE, Int.reduceBEq, Int.reduceBNe, Nat.reduceBNe, Nat.reduceAdd, Nat.reduceMul, Nat.reduceEqDiff, Nat.reduceLeDiff, Nat.reduceLT, Nat.reduceBEq, reduceCtorEq, reduceIte, ks0, ks1, ks2, ks3, c2, c4, lt_f (v3.length), g15_5, g15_20, g15_21, g15_22, og15_0, og15_1] using i_Join_ok e16) ?_
        obtain ⟨p17, h⟩ := chk_K h
        try simp only [Nat.reduceLeDiff] at p17
        try simp only [go_sem] at p17
        obtain ⟨p18, h⟩ := chk_K h
        try simp only [Nat.reduceLeDiff] at p18
        try simp only [go_sem] at p18
        obtain rfl := Option.some.inj h
        try simp only [go_sem, Int.reduceLT, Int.reduceLE, Int.reduceBEq, Int.reduceBNe, Nat.reduceBNe, Nat.reduceAdd, Nat.reduceMul, Nat.reduceEqDiff, Nat.reduceLeDiff, Nat.reduceLT, Nat.reduceBEq, reduceCtorEq, reduceIte, ks0, ks1, ks2, ks3, c2, c4, lt_f (v3.length), p17, p18, g15_5, g15_20, g15_21, g15_22, og15_0, og15_1]
    · obtain rfl := Option.some.inj h
      try simp only [go_sem, Int.reduceLT, Int.reduceLE, Int.reduceBEq, Int.reduceBNe, Nat.reduceBNe, Nat.reduceAdd, Nat.reduceMul, Nat.reduceEqDiff, Nat.reduceLeDiff, Nat.reduceLT, Nat.reduceBEq, reduceCtorEq, reduceIte, ks0, ks1, ks2, ks3, c2, c4]
  · obtain rfl := Option.some.inj h
    try simp only [go_sem, Int.reduceLT, Int.reduceLE, Int.reduceBEq, Int.reduceBNe, Nat.reduceBNe, Nat.reduceAdd, Nat.reduceMul, Nat.reduceEqDiff, Nat.reduceLeDiff, Nat.reduceLT, Nat.reduceBEq, reduceCtorEq, reduceIte, ks0, ks1, ks2, ks3, c2]
end Go.Proofs.YtppjenkjopjeiaaDoor

namespace Go.Proofs.YtppjenkjopjeiaaDoor
open Go.Proofs.Tryd
set_option linter.unusedSimpArgs false
set_option linter.unusedVariables false
set_option maxRecDepth 1000000
set_option maxHeartbeats 4000000
theorem s_l13Set_ok {f_0 : FrameD} {set_1 : Int} {r : Bool} (h : s_l13Set f_0 set_1 = some r) : Sound Tryd.prog J0 44 [(true, eFrame f_0), (false, [.int .i64 set_1])] [(false, [(false, .bool r)])] := by
  refine fnk Tryd.func44 (by kernel_rfl) rfl (by kernel_rfl) (by kernel_rfl) ?_
  unfold s_l13Set at h
  simp only [fnS, f44, argSt, go_sem, Int.reduceLT, Int.reduceLE, Int.reduceBEq, Int.reduceBNe, Nat.reduceBNe, Nat.reduceAdd, Nat.reduceMul, Nat.reduceEqDiff, Nat.reduceLeDiff, Nat.reduceLT, Nat.reduceBEq, reduceCtorEq, reduceIte]
  obtain ⟨v1, e1, h⟩ := bind_K h
  refine call_K (by first | exact s_IsFrame_ok e1 | simpa only [go_sem, Int.reduceLT, Int.reduceLE, Int.reduceBEq, Int.reduceBNe, Nat.reduceBNe, Nat.reduceAdd, Nat.reduceMul, Nat.reduceEqDiff, Nat.reduceLeDiff, Nat.reduceLT, Nat.reduceBEq, reduceCtorEq, reduceIte] using s_IsFrame_ok e1) ?_
  try simp only [go_sem, Int.reduceLT, Int.reduceLE, Int.reduceBEq, Int.reduceBNe, Nat.reduceBNe, Nat.reduceAdd, Nat.reduceMul, Nat.reduceEqDiff, Nat.reduceLeDiff, Nat.reduceLT, Nat.reduceBEq, reduceCtorEq, reduceIte]
  refine ite_K h (fun c2 h => ?_) (fun c2 h => ?_)
  · obtain ⟨p3, h⟩ := chk_K h
    try simp only [go_sem, Int.reduceLT, Int.reduceLE, Int.reduceBEq, Int.reduceBNe, Nat.reduceBNe, Nat.reduceAdd, Nat.reduceMul, Nat.reduceEqDiff, Nat.reduceLeDiff, Nat.reduceLT, Nat.reduceBEq, reduceCtorEq, reduceIte, c2, p3]
    obtain ⟨v2, e4, h⟩ := bind_K h
    refine call_K (by first | exact s_l1In_ok e4 | simpa only [go_sem, Int.reduceLT, Int.reduceLE, Int.reduceBEq, Int.reduceBNe, Nat.reduceBNe, Nat.reduceAdd, Nat.reduceMul, Nat.reduceEqDiff, Nat.reduceLeDiff, Nat.reduceLT, Nat.reduceBEq, reduceCtorEq, reduceIte, c2, p3] using s_l1In_ok e4) ?_
    obtain rfl := Option.some.inj h
    try simp only [go_sem, Int.reduceLT, Int.reduceLE, Int.reduceBEq, Int.reduceBNe, Nat.reduceBNe, Nat.reduceAdd, Nat.reduceMul, Nat.reduceEqDiff, Nat.reduceLeDiff, Nat.reduceLT, Nat.reduceBEq, reduceCtorEq, reduceIte, c2, p3]
  · obtain rfl := Option.some.inj h
    try simp only [go_sem, Int.reduceLT, Int.reduceLE, Int.reduceBEq, Int.reduceBNe, Nat.reduceBNe, Nat.reduceAdd, Nat.reduceMul, Nat.reduceEqDiff, Nat.reduceLeDiff, Nat.reduceLT, Nat.reduceBEq, reduceCtorEq, reduceIte, c2]
end Go.Proofs.YtppjenkjopjeiaaDoor

namespace Go.Proofs.YtppjenkjopjeiaaDoor
open Go.Proofs.Tryd
set_option linter.unusedSimpArgs false
set_option linter.unusedVariables false
set_option maxRecDepth 1000000
set_option maxHeartbeats 4000000
theorem s_SetText_ok {f_0 : FrameD} {set_1 : Int} {r : ByteArray} (h : s_SetText f_0 set_1 = some r) : Sound Tryd.prog J0 17 [(true, eFrame f_0), (false, [.int .i64 set_1])] [(false, [(false, .str r)])] := by
  refine fnk Tryd.func17 (by kernel_rfl) rfl (by kernel_rfl) (by kernel_rfl) ?_
  unfold s_SetText at h
  have ks0 : strOk ⟨#[123]⟩ = true := by decide
  have ks1 : strOk ⟨#[125]⟩ = true := by decide
  have ks2 : strOk ⟨#[44]⟩ = true := by decide
  have ks3 : strOk ⟨#[]⟩ = true := by decide
  have kn0 : ¬ ((0 : Int) < 0) := by decide
  simp only [fnS, f17, argSt, go_sem, Int.reduceLT, Int.reduceLE, Int.reduceBEq, Int.reduceBNe, Nat.reduceBNe, Nat.reduceAdd, Nat.reduceMul, Nat.reduceEqDiff, Nat.reduceLeDiff, Nat.reduceLT, Nat.reduceBEq, reduceCtorEq, reduceIte, ks0, ks1, ks2, ks3, kn0]
  obtain ⟨v1, e1, h⟩ := bind_K h
  refine call_K (by first | exact s_l13Set_ok e1 | simpa only [go_sem, Int.reduceLT, Int.reduceLE, Int.reduceBEq, Int.reduceBNe, Nat.reduceBNe, Nat.reduceAdd, Nat.reduceMul, Nat.reduceEqDiff, Nat.reduceLeDiff, Nat.reduceLT, Nat.reduceBEq, reduceCtorEq, reduceIte, ks0, ks1, ks2, ks3, kn0] using s_l13Set_ok e1) ?_
  try simp only [go_sem, Int.reduceLT, Int.reduceLE, Int.reduceBEq, Int.reduceBNe, Nat.reduceBNe, Nat.reduceAdd, Nat.reduceMul, Nat.reduceEqDiff, Nat.reduceLeDiff, Nat.reduceLT, Nat.reduceBEq, reduceCtorEq, reduceIte, ks0, ks1, ks2, ks3, kn0]
  refine ite_K h (fun c2 h => ?_) (fun c2 h => ?_)
  · try simp only [go_sem, Int.reduceLT, Int.reduceLE, Int.reduceBEq, Int.reduceBNe, Nat.reduceBNe, Nat.reduceAdd, Nat.reduceMul, Nat.reduceEqDiff, Nat.reduceLeDiff, Nat.reduceLT, Nat.reduceBEq, reduceCtorEq, reduceIte, ks0, ks1, ks2, ks3, kn0, c2]
    refine swp_for h (fun i row_4 st => IV [(1, .p false [.c (.int .i64 set_1)]), (2, .bp 0 0), (5, .p false [.row 1]), (6, .p false [.c (.int .i64 ((i : Nat) : Int))])] [.box 54 [.c (.int .i64 f_0.beliefs.nodes), .c (.sl 99 3 (List.map eReason f_0.beliefs.reasons)), .c (.sl 3 1 (List.map eInt f_0.assumed)), .c (.sl 3 1 (List.map eInt f_0.bad))], .row 9 1 (List.map eStr row_4) 2] st) [] [0, 96] (by decide) ?_ ?_ ?_
    · simp only [go_sem, Int.reduceLT, Int.reduceLE, Int.reduceBEq, Int.reduceBNe, Nat.reduceBNe, Nat.reduceAdd, Nat.reduceMul, Nat.reduceEqDiff, Nat.reduceLeDiff, Nat.reduceLT, Nat.reduceBEq, reduceCtorEq, reduceIte, IV, sts_cons, sts_nil, obs_cons, obs_nil, ks0, ks1, ks2, ks3, kn0, c2]
    · rintro i9 x10 row_4 ⟨sl, ob, n⟩ y3 hx4 hI5 hW6 h hy3
      simp only [IV, sts_cons, sts_nil, obs_cons, obs_nil, and_true, true_and, Nat.reduceAdd, str_len] at hI5
      obtain ⟨⟨g7_1, g7_2, g7_5, g7_6⟩, og7_0, og7_1, hn⟩ := hI5
      subst hn
      have hlhx4 := WF.boxL hW6 og7_0 (j := 2) rfl
      obtain ⟨p8, h⟩ := chk_K h
      try simp only [go_sem, Int.reduceLT, Int.reduceLE, Int.reduceBEq, Int.reduceBNe, Nat.reduceBNe, Nat.reduceAdd, Nat.reduceMul, Nat.reduceEqDiff, Nat.reduceLeDiff, Nat.reduceLT, Nat.reduceBEq, reduceCtorEq, reduceIte, ks0, ks1, ks2, ks3, kn0, c2, hx4, lt_t hx4, lt_p hx4, nat_in (lt_n hx4) hlhx4, p8, g7_1, g7_2, g7_5, g7_6, og7_0, og7_1]
      refine ite_K h (fun c9 h => ?_) (fun c9 h => ?_)
      · try simp only [go_sem, Int.reduceLT, Int.reduceLE, Int.reduceBEq, Int.reduceBNe, Nat.reduceBNe, Nat.reduceAdd, Nat.reduceMul, Nat.reduceEqDiff, Nat.reduceLeDiff, Nat.reduceLT, Nat.reduceBEq, reduceCtorEq, reduceIte, ks0, ks1, ks2, ks3, kn0, c2, hx4, lt_t hx4, lt_p hx4, nat_in (lt_n hx4) hlhx4, p8, c9, g7_1, g7_2, g7_5, g7_6, og7_0, og7_1]
        obtain ⟨v11, e10, h⟩ := bind_K h
        refine call_K (by first | exact s_FormatInt_ok e10 | simpa only [go_sem, Int.reduceLT, Int.reduceLE, Int.reduceBEq, Int.reduceBNe, Nat.reduceBNe, Nat.reduceAdd, Nat.reduceMul, Nat.reduceEqDiff, Nat.reduceLeDiff, Nat.reduceLT, Nat.reduceBEq, reduceCtorEq, reduceIte, ks0, ks1, ks2, ks3, kn0, c2, hx4, lt_t hx4, lt_p hx4, nat_in (lt_n hx4) hlhx4, p8, c9, g7_1, g7_2, g7_5, g7_6, og7_0, og7_1] using s_FormatInt_ok e10) ?_
        obtain ⟨p11, h⟩ := chk_K h
        try simp only [Nat.reduceLeDiff] at p11
        try simp only [go_sem, Int.reduceLT, Int.reduceLE, Int.reduceBEq, Int.reduceBNe, Nat.reduceBNe, Nat.reduceAdd, Nat.reduceMul, Nat.reduceEqDiff, Nat.reduceLeDiff, Nat.reduceLT, Nat.reduceBEq, reduceCtorEq, reduceIte, ks0, ks1, ks2, ks3, kn0, c2, hx4, lt_t hx4, lt_p hx4, nat_in (lt_n hx4) hlhx4, p8, c9, p11, g7_1, g7_2, g7_5, g7_6, og7_0, og7_1]
        refine ⟨_, [], [0, 290], (Option.some.inj h).symm, by decide, ?_⟩
        try simp only [go_sem, Int.reduceLT, Int.reduceLE, Int.reduceBEq, Int.reduceBNe, Nat.reduceBNe, Nat.reduceAdd, Nat.reduceMul, Nat.reduceEqDiff, Nat.reduceLeDiff, Nat.reduceLT, Nat.reduceBEq, reduceCtorEq, reduceIte, ks0, ks1, ks2, ks3, kn0, c2, hx4, lt_t hx4, lt_p hx4, nat_in (lt_n hx4) hlhx4, p8, c9, p11, g7_1, g7_2, g7_5, g7_6, og7_0, og7_1, IV, sts_cons, sts_nil, obs_cons, obs_nil]
      · try simp only [go_sem, Int.reduceLT, Int.reduceLE, Int.reduceBEq, Int.reduceBNe, Nat.reduceBNe, Nat.reduceAdd, Nat.reduceMul, Nat.reduceEqDiff, Nat.reduceLeDiff, Nat.reduceLT, Nat.reduceBEq, reduceCtorEq, reduceIte, ks0, ks1, ks2, ks3, kn0, c2, hx4, lt_t hx4, lt_p hx4, nat_in (lt_n hx4) hlhx4, p8, c9, g7_1, g7_2, g7_5, g7_6, og7_0, og7_1]
        refine ⟨_, [], [0, 1], (Option.some.inj h).symm, by decide, ?_⟩
        try simp only [go_sem, Int.reduceLT, Int.reduceLE, Int.reduceBEq, Int.reduceBNe, Nat.reduceBNe, Nat.reduceAdd, Nat.reduceMul, Nat.reduceEqDiff, Nat.reduceLeDiff, Nat.reduceLT, Nat.reduceBEq, reduceCtorEq, reduceIte, ks0, ks1, ks2, ks3, kn0, c2, hx4, lt_t hx4, lt_p hx4, nat_in (lt_n hx4) hlhx4, p8, c9, g7_1, g7_2, g7_5, g7_6, og7_0, og7_1, IV, sts_cons, sts_nil, obs_cons, obs_nil]
    · rintro row_4 ⟨sl, ob, n⟩ hI12 hW13 h
      simp only [IV, sts_cons, sts_nil, obs_cons, obs_nil, and_true, true_and, Nat.reduceAdd, str_len] at hI12
      obtain ⟨⟨g14_1, g14_2, g14_5, g14_6⟩, og14_0, og14_1, hn⟩ := hI12
      subst hn
      try simp only [go_sem, Int.reduceLT, Int.reduceLE, Int.reduceBEq, Int.reduceBNe, Nat.reduceBNe, Nat.reduceAdd, Nat.reduceMul, Nat.reduceEqDiff, Nat.reduceLeDiff, Nat.reduceLT, Nat.reduceBEq, reduceCtorEq, reduceIte, ks0, ks1, ks2, ks3, kn0, c2, lt_f (f_0.assumed.length), g14_1, g14_2, g14_5, g14_6, og14_0, og14_1]
      obtain ⟨v12, e15, h⟩ := bind_K h
      refine call_K (by first | exact s_Join_ok e15 | simpa only [go_sem, Int.reduceLT, Int.reduceLE, Int.reduceBEq, Int.reduceBNe, Nat.reduceBNe, Nat.reduceAdd, Nat.reduceMul, Nat.reduceEqDiff, Nat.reduceLeDiff, Nat.reduceLT, Nat.reduceBEq, reduceCtorEq, reduceIte, ks0, ks1, ks2, ks3, kn0, c2, lt_f (f_0.assumed.length), g14_1, g14_2, g14_5, g14_6, og14_0, og14_1] using s_Join_ok e15) ?_
      obtain ⟨p16, h⟩ := chk_K h
      try simp only [Nat.reduceLeDiff] at p16
      try simp only [go_sem] at p16
      obtain ⟨p17, h⟩ := chk_K h
      try simp only [Nat.reduceLeDiff] at p17
      try simp only [go_sem] at p17
      obtain rfl := Option.some.inj h
      try simp only [go_sem, Int.reduceLT, Int.reduceLE, Int.reduceBEq, Int.reduceBNe, Nat.reduceBNe, Nat.reduceAdd, Nat.reduceMul, Nat.reduceEqDiff, Nat.reduceLeDiff, Nat.reduceLT, Nat.reduceBEq, reduceCtorEq, reduceIte, ks0, ks1, ks2, ks3, kn0, c2, lt_f (f_0.assumed.length), p16, p17, g14_1, g14_2, g14_5, g14_6, og14_0, og14_1]
  · obtain rfl := Option.some.inj h
    try simp only [go_sem, Int.reduceLT, Int.reduceLE, Int.reduceBEq, Int.reduceBNe, Nat.reduceBNe, Nat.reduceAdd, Nat.reduceMul, Nat.reduceEqDiff, Nat.reduceLeDiff, Nat.reduceLT, Nat.reduceBEq, reduceCtorEq, reduceIte, ks0, ks1, ks2, ks3, kn0, c2]
end Go.Proofs.YtppjenkjopjeiaaDoor

namespace Go.Proofs.YtppjenkjopjeiaaDoor
open Go.RowKit
/-- a codec and trees say the same -/
structure Enc {α : Type} (c : Codec α) (f : α → List CT) : Prop where
  to : ∀ {w : World} {cs : List Value} {x : α} {L : List Nat}, c.rep w cs x L → RCs w (f x) cs L
  of : ∀ {w : World} {cs : List Value} {x : α} {L : List Nat}, RCs w (f x) cs L → c.rep w cs x L
section
variable {α : Type} {c : Codec α} {f : α → List CT} {w : World}
theorem Enc.reps (h : Enc c f) : ∀ {ds : List α} {xs : List Value} {L : List Nat}, c.reps w xs ds L → REs w c.size (ds.map f) xs L
  | [], _, _, h1 => h1
  | _ :: _, _, _, ⟨c1, c2, L1, L2, h1, h2, h3, h4⟩ => ⟨c1, c2, L1, L2, h1, h2, ⟨h.to h3, c.len h3⟩, h.reps h4⟩
theorem Enc.reps_of (h : Enc c f) : ∀ {ds : List α} {xs : List Value} {L : List Nat}, REs w c.size (ds.map f) xs L → c.reps w xs ds L
  | [], _, _, h1 => h1
  | _ :: _, _, _, ⟨c1, c2, L1, L2, h1, h2, h3, h4⟩ => ⟨c1, c2, L1, L2, h1, h2, h.of h3.1, h.reps_of h4⟩
theorem Enc.sl (h : Enc c f) (e : Nat) {v : Value} {ds : List α} {L : List Nat} : (sliceC c).rep w [v] ds L ↔ RC w (.sl e c.size (ds.map f)) v L := by
  constructor
  · rintro ⟨A, cap, hv, h1, h2, xs, L0, L1, hL, h3, h4⟩
    obtain rfl : v = _ := by simpa using hv
    exact ⟨A, cap, xs, L0, L1, by simp, by simpa using h1, h2, hL, c.pos, by simpa using h3, h.reps h4⟩
  · rintro ⟨A, cap, xs, L0, L1, hv, h1, h2, hL, h0, h3, h4⟩
    exact ⟨A, cap, by simpa using hv, by simpa using h1, h2, xs, L0, L1, hL, by simpa using h3, h.reps_of h4⟩
theorem RCs.solo {x : CT} {v : Value} {L : List Nat} (h : RC w x v L) : RCs w [x] [v] L := ⟨v, [], L, [], rfl, by simp, h, rfl, rfl⟩
theorem RCs.more {x : CT} {v : Value} {L M : List Nat} {r : List CT} {cs : List Value} (h : RC w x v L) (k : RCs w r cs M) : RCs w (x :: r) (v :: cs) (L ++ M) := ⟨v, cs, L, M, rfl, rfl, h, k⟩
theorem Enc.slice (h : Enc c f) (e : Nat) : Enc (sliceC c) (fun l => [.sl e c.size (l.map f)]) where
  to := fun {w cs x L} hr => by
    obtain ⟨A, cap, rfl, h1⟩ := id hr
    exact RCs.solo ((h.sl e).1 hr)
  of := fun {w cs x L} hr => by
    obtain ⟨v, cs', L1, L2, rfl, rfl, h1, rfl, rfl⟩ := hr
    rw [List.append_nil]
    exact (h.sl e).2 h1
end
theorem encInt : Enc intC eInt where
  to := fun ⟨h1, h2⟩ => by subst h1; subst h2; exact RCs.solo ⟨rfl, rfl⟩
  of := fun ⟨v, cs', L1, L2, h1, h2, h3, h4, h5⟩ => by
    obtain ⟨rfl, rfl⟩ := h3
    subst h4; subst h5; exact ⟨h1, h2⟩
theorem encByte : Enc byteC eByte where
  to := fun ⟨h1, h2⟩ => by subst h1; subst h2; exact RCs.solo ⟨rfl, rfl⟩
  of := fun ⟨v, cs', L1, L2, h1, h2, h3, h4, h5⟩ => by
    obtain ⟨rfl, rfl⟩ := h3
    subst h4; subst h5; exact ⟨h1, h2⟩
theorem encBool : Enc boolC eBool where
  to := fun ⟨h1, h2⟩ => by subst h1; subst h2; exact RCs.solo ⟨rfl, rfl⟩
  of := fun ⟨v, cs', L1, L2, h1, h2, h3, h4, h5⟩ => by
    obtain ⟨rfl, rfl⟩ := h3
    subst h4; subst h5; exact ⟨h1, h2⟩
theorem encStr : Enc strC eStr where
  to := fun ⟨h1, h2, h3⟩ => by subst h1; subst h2; exact RCs.solo ⟨rfl, rfl, h3⟩
  of := fun ⟨v, cs', L1, L2, h1, h2, h3, h4, h5⟩ => by
    obtain ⟨rfl, rfl, t⟩ := h3
    subst h4; subst h5; exact ⟨h1, h2, t⟩
/-- an argument; nothing is written to in the meantime -/
def Arg0 (w : World) : Bool × List CT → Value → Prop := ArgR w fun _ => False
theorem arg_sl {α : Type} {c : Codec α} {f : α → List CT} (h : Enc c f) (e : Nat) {w : World} {v : Value} {ds : List α} {L : List Nat} (hr : (sliceC c).rep w [v] ds L) : Arg0 w (false, [.sl e c.size (ds.map f)]) v := .inr ⟨rfl, _, L, rfl, (h.sl e).1 hr, fun _ _ h => h⟩
theorem arg_int (w : World) (n : Int) : Arg0 w (false, [.int .i64 n]) (.int .i64 n) := .inr ⟨rfl, _, [], rfl, ⟨rfl, rfl⟩, fun _ _ h => h⟩
theorem arg_bool (w : World) (b : Bool) : Arg0 w (false, [.bool b]) (.bool b) := .inr ⟨rfl, _, [], rfl, ⟨rfl, rfl⟩, fun _ _ h => h⟩
theorem arg_str (w : World) (s : ByteArray) (h : s.size ≤ 9223372036854775807) : Arg0 w (false, [.str s]) (.string s) := .inr ⟨rfl, _, [], rfl, ⟨rfl, rfl, h⟩, fun _ _ h => h⟩
theorem arg_agg {α : Type} {c : Codec α} {f : α → List CT} (h : Enc c f) {w : World} {vs : List Value} {x : α} {L : List Nat} (hr : c.rep w vs x L) : Arg0 w (true, f x) (.agg vs.toArray) := .inl ⟨rfl, vs, L, rfl, h.to hr, fun _ _ h => h⟩
section
variable {w w' : World} {v : Value} {e : Ending}
theorem res_one {B : Nat} {n : Nat → Prop} {x : RT} (h : ResR w B n [x] v) : ∃ F, OP w B n x v F ∧ Own w B F := by
  obtain ⟨vs, F, ⟨u, vs', F1, F2, rfl, rfl, h1, rfl, rfl⟩, h2, rfl⟩ := h
  rw [List.append_nil] at h2
  exact ⟨F1, by simpa using h1, h2⟩
theorem res_sl {α : Type} {c : Codec α} {f : α → List CT} (h : Enc c f) {t : Nat} {ds : List α} {n : Nat → Prop} (hr : ResR w' w.heap.size n [(false, [(false, .sl t c.size (ds.map f))])] v) (hb : Below w.heap.size w w') : AccC c t w v ds w' := by
  obtain ⟨F, h1, h2⟩ := res_one hr
  rcases h1 with ⟨h1, _⟩ | ⟨_, ct, h1, h3⟩
  · simp at h1
  · obtain rfl : _ = ct := by simpa using h1
    obtain ⟨_, cs, L, h4, h5, rfl, _⟩ := h3
    exact ⟨⟨cs, L, by simpa using h4, h.reps_of h5, h2⟩, hb⟩
theorem res_int {n : Int} {B : Nat} {m : Nat → Prop} (hr : ResR w B m [(false, [(false, .int .i64 n)])] v) : v = .int .i64 n := by
  obtain ⟨F, h1, h2⟩ := res_one hr
  rcases h1 with ⟨h1, _⟩ | ⟨_, ct, h1, h3⟩
  · simp at h1
  · obtain rfl : _ = ct := by simpa using h1
    exact h3.1.1
theorem res_bool {b : Bool} {B : Nat} {m : Nat → Prop} (hr : ResR w B m [(false, [(false, .bool b)])] v) : v = .bool b := by
  obtain ⟨F, h1, h2⟩ := res_one hr
  rcases h1 with ⟨h1, _⟩ | ⟨_, ct, h1, h3⟩
  · simp at h1
  · obtain rfl : _ = ct := by simpa using h1
    exact h3.1.1
theorem res_str {s : ByteArray} {B : Nat} {m : Nat → Prop} (hr : ResR w B m [(false, [(false, .str s)])] v) : v = .string s := by
  obtain ⟨F, h1, h2⟩ := res_one hr
  rcases h1 with ⟨h1, _⟩ | ⟨_, ct, h1, h3⟩
  · simp at h1
  · obtain rfl : _ = ct := by simpa using h1
    exact h3.1.1
/-- a slice that is only lent: what it leads to lies in the world -/
theorem res_lent {α : Type} {c : Codec α} {f : α → List CT} (h : Enc c f) {t B : Nat} {ds : List α} {n : Nat → Prop} (hr : ResR w B n [(false, [(true, .sl t c.size (ds.map f))])] v) : ∃ L, (sliceC c).rep w [v] ds L := by
  obtain ⟨F, h1, h2⟩ := res_one hr
  rcases h1 with ⟨h1, _⟩ | ⟨_, ct, h1, h3⟩
  · simp at h1
  · obtain rfl : _ = ct := by simpa using h1
    obtain ⟨_, L, h4, _⟩ := h3
    exact ⟨L, (h.sl t).2 h4⟩
end
section
variable {P : Program} {J : World → Prop} {f : FuncId} {args : List (Bool × List CT)} {res : List RT}
theorem Sound.calls (h : Sound P J f args res) {w : World} {vs : List Value} (hj : J w) (ha : All2 (Arg0 w) args vs) : Calls P f vs.toArray w fun e w' => ∃ v n, e = .returned v ∧ ResR w' w.heap.size n res v ∧ Below w.heap.size w w' :=
  (h.2 w (fun _ => False) vs hj (fun _ h => h.elim) ha).mono fun _ _ ⟨v, n, h1, h2, _, h3⟩ => ⟨v, n, h1, h2, h3⟩
/-- a slice as the result -/
theorem Sound.givesS {α : Type} {c : Codec α} {g : α → List CT} {t : Nat} {ds : List α} (h : Sound P J f args [(false, [(false, .sl t c.size (ds.map g))])]) (hg : Enc c g) {w : World} {vs : List Value} (hj : J w) (ha : All2 (Arg0 w) args vs) : Calls P f vs.toArray w (GivesS c t w ds) :=
  (h.calls hj ha).mono fun _ _ ⟨v, _, h1, h2, h3⟩ => ⟨v, h1, res_sl hg h2 h3⟩
theorem Sound.givesB {b : Bool} (h : Sound P J f args [(false, [(false, .bool b)])]) {w : World} {vs : List Value} (hj : J w) (ha : All2 (Arg0 w) args vs) : Calls P f vs.toArray w fun e w' => e = .returned (.bool b) ∧ Below w.heap.size w w' :=
  (h.calls hj ha).mono fun _ _ ⟨v, _, h1, h2, h3⟩ => ⟨by rw [h1, res_bool h2], h3⟩
theorem Sound.givesI {b : Int} (h : Sound P J f args [(false, [(false, .int .i64 b)])]) {w : World} {vs : List Value} (hj : J w) (ha : All2 (Arg0 w) args vs) : Calls P f vs.toArray w fun e w' => e = .returned (.int .i64 b) ∧ Below w.heap.size w w' :=
  (h.calls hj ha).mono fun _ _ ⟨v, _, h1, h2, h3⟩ => ⟨by rw [h1, res_int h2], h3⟩
theorem Sound.givesT {b : ByteArray} (h : Sound P J f args [(false, [(false, .str b)])]) {w : World} {vs : List Value} (hj : J w) (ha : All2 (Arg0 w) args vs) : Calls P f vs.toArray w fun e w' => e = .returned (.string b) ∧ Below w.heap.size w w' :=
  (h.calls hj ha).mono fun _ _ ⟨v, _, h1, h2, h3⟩ => ⟨by rw [h1, res_str h2], h3⟩
end
end Go.Proofs.YtppjenkjopjeiaaDoor

namespace Go.Proofs.YtppjenkjopjeiaaDoor
theorem encReason : Enc cReason eReason where
  to := fun {w cs x L} h => by
    obtain ⟨A1, c1, L1, A2, c2, L2, rfl, rfl, n1, m1, s1, n2, m2, s2⟩ := h
    have hh : RCs w (eReason x) _ _ := RCs.more ⟨rfl, rfl⟩ (RCs.more ((encInt.sl 3).1 ⟨A1, c1, rfl, n1, m1, s1⟩) (RCs.solo ((encInt.sl 3).1 ⟨A2, c2, rfl, n2, m2, s2⟩)))
    simpa only [List.nil_append, List.append_nil, List.append_assoc] using hh
  of := fun {w cs x L} h => by
    obtain ⟨v0, r0, K0, M0, rfl, rfl, h0, v1, r1, K1, M1, rfl, rfl, h1, v2, r2, K2, M2, rfl, rfl, h2, rfl, rfl⟩ := h
    obtain ⟨rfl, rfl⟩ := h0
    obtain ⟨A1, c1, e1, n1, m1, s1⟩ := (encInt.sl 3).2 h1
    cases e1
    obtain ⟨A2, c2, e2, n2, m2, s2⟩ := (encInt.sl 3).2 h2
    cases e2
    exact ⟨A1, c1, _, A2, c2, _, rfl, by simp only [List.nil_append, List.append_nil, List.append_assoc], n1, m1, s1, n2, m2, s2⟩
theorem encFrame : Enc cFrame eFrame where
  to := fun {w cs x L} h => by
    obtain ⟨A1, c1, L1, A2, c2, L2, A3, c3, L3, rfl, rfl, n1, m1, s1, n2, m2, s2, n3, m3, s3⟩ := h
    have hh : RCs w (eFrame x) _ _ := RCs.more ⟨rfl, rfl⟩ (RCs.more ((encReason.sl 99).1 ⟨A1, c1, rfl, n1, m1, s1⟩) (RCs.more ((encInt.sl 3).1 ⟨A2, c2, rfl, n2, m2, s2⟩) (RCs.solo ((encInt.sl 3).1 ⟨A3, c3, rfl, n3, m3, s3⟩))))
    simpa only [List.nil_append, List.append_nil, List.append_assoc] using hh
  of := fun {w cs x L} h => by
    obtain ⟨v0, r0, K0, M0, rfl, rfl, h0, v1, r1, K1, M1, rfl, rfl, h1, v2, r2, K2, M2, rfl, rfl, h2, v3, r3, K3, M3, rfl, rfl, h3, rfl, rfl⟩ := h
    obtain ⟨rfl, rfl⟩ := h0
    obtain ⟨A1, c1, e1, n1, m1, s1⟩ := (encReason.sl 99).2 h1
    cases e1
    obtain ⟨A2, c2, e2, n2, m2, s2⟩ := (encInt.sl 3).2 h2
    cases e2
    obtain ⟨A3, c3, e3, n3, m3, s3⟩ := (encInt.sl 3).2 h3
    cases e3
    exact ⟨A1, c1, _, A2, c2, _, A3, c3, _, rfl, by simp only [List.nil_append, List.append_nil, List.append_assoc], n1, m1, s1, n2, m2, s2, n3, m3, s3⟩
end Go.Proofs.YtppjenkjopjeiaaDoor

namespace Go.Proofs.YtppjenkjopjeiaaDoor
open Go.RowKit

set_option maxHeartbeats 400000 in
theorem szIntS_any (A : Option Addr) (n c : Nat) (left : Int) (w : World) (hm : n ≤ 9223372036854775807) (h0 : 0 ≤ left) (h1 : left ≤ 1048576) :
    Calls Tryd.prog 33 #[.slice A n c, .int .i64 left] w (SzPost n left w) := by
  by_cases hlen : (n : Int) ≤ left
  all_goals
    go_enter Tryd.func33, Tryd.ntmps33
    go_wp2
    go_ret
  · exact ⟨ret_i (by rw [szR_pos hlen]), Below.refl _ _⟩
  · exact ⟨ret_i (by rw [szR_neg (by omega)]), Below.refl _ _⟩


set_option maxHeartbeats 800000 in
theorem szReason_any (cs : List Value) (x : ReasonD) (L : List Nat) (left : Int) (w : World) (h0 : 0 ≤ left) (h1 : left ≤ 1048576) (h : cReason.rep w cs x L) :
    Calls Tryd.prog 81 #[.agg cs.toArray, .int .i64 left] w (SzPost (costReason x) left w) := by
  obtain ⟨A1, c1, L1, A2, c2, L2, rfl, _hL, n1, m1, s1, n2, m2, s2⟩ := h
  unfold maxLen at m1 m2
  have S1 := Lib.hid s1
  clear s1
  have S2 := Lib.hid s2
  clear s2
  have B0 : Hid (Below w.heap.size w (w.alloc (.cells #[.int .i64 x.for_, .slice A1 x.inn.length c1, .slice A2 x.outs.length c2] 104))) := (Below.refl _ _).alloc (Nat.le_refl _) _
  have K0 : Hid (Blk (w.alloc (.cells #[.int .i64 x.for_, .slice A1 x.inn.length c1, .slice A2 x.outs.length c2] 104)) w.heap.size 104 #[.int .i64 x.for_, .slice A1 x.inn.length c1, .slice A2 x.outs.length c2]) := Blk.new _ _ _
  go_enter Tryd.func81, Tryd.ntmps81
  go_wp2_with fail
  refine (szIntS_any A1 _ c1 _ _ (by omega) (by omega) (by omega)).mono ?_
  rintro e w1 ⟨rfl, hb1⟩
  have B1 := Lib.hid (B0.out.trans (hb1.mono B0.out.size))
  have K1 := Lib.hid (K0.out.later hb1)
  have f0 := K1.out.at (i := 0) rfl
  have f1 := K1.out.at (i := 1) rfl
  have f2 := K1.out.at (i := 2) rfl
  clear hb1
  by_cases k1 : ((x.inn.length : Nat) : Int) ≤ left
  rotate_left
  · rw [szR_neg k1]
    go_wp2_with fail
    go_ret
    exact ⟨ret_i (by rw [szR_neg (by simp only [costReason]; omega)]), B1.out⟩
  rw [szR_pos k1]
  go_wp2_with fail
  refine (szIntS_any A2 _ c2 _ _ (by omega) (by omega) (by omega)).mono ?_
  rintro e w2 ⟨rfl, hb2⟩
  have B2 := Lib.hid (B1.out.trans (hb2.mono B1.out.size))
  have K2 := Lib.hid (K1.out.later hb2)
  clear f0 f1 f2
  have f0 := K2.out.at (i := 0) rfl
  have f1 := K2.out.at (i := 1) rfl
  have f2 := K2.out.at (i := 2) rfl
  clear hb2
  by_cases k2 : ((x.outs.length : Nat) : Int) ≤ left - (x.inn.length : Nat)
  rotate_left
  · rw [szR_neg k2]
    go_wp2_with fail
    go_ret
    exact ⟨ret_i (by rw [szR_neg (by simp only [costReason]; omega)]), B2.out⟩
  rw [szR_pos k2]
  go_wp2_with fail
  go_ret
  exact ⟨ret_i (by rw [szR_pos (by simp only [costReason]; omega)] <;> simp only [costReason] <;> omega), B2.out⟩

set_option maxHeartbeats 800000 in
theorem szReasonS_any (A : Option Addr) (n c : Nat) (ds : List ReasonD) (L : List Nat) (left : Int) (w : World) (hn : n = ds.length) (hm : n ≤ 9223372036854775807) (h0 : 0 ≤ left) (h1 : left ≤ 1048576) (h : Sli cReason w A ds L) :
    Calls Tryd.prog 67 #[.slice A n c, .int .i64 left] w (SzPost (costReasonS ds) left w) := by
  have H := Lib.hid h
  have HN := Lib.hid hn
  clear h hn
  by_cases hlen : (n : Int) ≤ left
  · go_enter Tryd.func67, Tryd.ntmps67
    go_wp2
    go_loopw [1, 5] (fun q i wr => ∃ (k : Nat) (l : Int), k ≤ n ∧ i = .int .i64 k ∧ q = .int .i64 l ∧ 0 ≤ l ∧ l ≤ left ∧ Hid (Below w.heap.size w wr) ∧ Hid (szR ((ds.drop k).map costReason).sum l = szR (costReasonS ds) left)) (fun _ i _ => n - (intOf i).toNat)
    case atStart => exact ⟨0, left - n, Nat.zero_le _, rfl, rfl, by omega, by omega, Below.refl _ _, Lib.hid (by
        have e := HN.out
        exact szR_step _ _ _ _ (by omega) (by simp only [costReasonS, List.drop_zero]; omega))⟩
    case round =>
      obtain ⟨k, l, hk, rfl, rfl, hl0, hl1, HB, HE⟩ := hrel
      by_cases hlt : k < n
      · have hkl : k < ds.length := by have := HN.out; omega
        obtain ⟨b, off, cs, Lk, rfl, hbL, hLk, hrep, hc⟩ := H.out.at_ hkl
        have hbl : b < w.heap.size := H.out.lt b hbL
        have HR := Lib.hid (cReason.keep hrep (keep_below HB.out (fun y m => H.out.lt y (hLk y m))))
        obtain ⟨A1, c1, A2, c2, rfl⟩ := cReason_cells hrep
        have q0 : wr.cell? ⟨b, off + k * 3, none⟩ = _ := (HB.out.cell (p := ⟨b, off + (k * 3 + 0), none⟩) hbl).trans (hc 0 _ rfl)
        have q1 : wr.cell? ⟨b, off + k * 3 + 1, none⟩ = _ := (HB.out.cell (p := ⟨b, off + (k * 3 + 1), none⟩) hbl).trans (hc 1 _ rfl)
        have q2 : wr.cell? ⟨b, off + k * 3 + 2, none⟩ = _ := (HB.out.cell (p := ⟨b, off + (k * 3 + 2), none⟩) hbl).trans (hc 2 _ rfl)
        have hd : Hid (ds.drop k = ds[k] :: ds.drop (k + 1)) := List.drop_eq_getElem_cons _
        generalize ds[k] = x at *
        clear hc hrep
        by_cases hs : (costReason x : Int) ≤ l
        · go_wp2_with (go_at_call 81; refine (szReason_any _ x Lk _ _ (by omega) (by omega) HR.out).mono ?_; rintro e w1 ⟨rfl, hb1⟩; rw [szR_pos hs]; have HB1 := Lib.hid (HB.out.trans (hb1.mono HB.out.size)); clear hb1)
          go_roundw
          case rel => exact ⟨k + 1, l - costReason x, by omega, by go_num, rfl, by omega, by omega, HB1.out, Lib.hid (by rw [← HE.out, hd.out]; exact szR_step _ _ _ _ (by omega) (by simp))⟩
          case measure => simp [intOf]; omega
        · go_wp2_with (go_at_call 81; refine (szReason_any _ x Lk _ _ (by omega) (by omega) HR.out).mono ?_; rintro e w1 ⟨rfl, hb1⟩; rw [szR_neg hs]; have HB1 := Lib.hid (HB.out.trans (hb1.mono HB.out.size)); clear hb1)
          go_ret
          exact ⟨ret_i (by rw [← HE.out, hd.out, szR_neg (by simp; omega)]), HB1.out⟩
      · go_wp2
        go_ret
        exact ⟨ret_i (by rw [← HE.out, List.drop_of_length_le (by have := HN.out; omega)]; simp [szR, hl0]), HB.out⟩
  · go_enter Tryd.func67, Tryd.ntmps67
    go_wp2
    go_ret
    exact ⟨ret_i (by rw [szR_neg (by have := HN.out; simp only [costReasonS]; omega)]), Below.refl _ _⟩

set_option maxHeartbeats 800000 in
theorem szBeliefs_any (cs : List Value) (x : BeliefsD) (L : List Nat) (left : Int) (w : World) (h0 : 0 ≤ left) (h1 : left ≤ 1048576) (h : cBeliefs.rep w cs x L) :
    Calls Tryd.prog 43 #[.agg cs.toArray, .int .i64 left] w (SzPost (costBeliefs x) left w) := by
  obtain ⟨A1, c1, L1, rfl, _hL, n1, m1, s1⟩ := h
  unfold maxLen at m1
  have S1 := Lib.hid s1
  clear s1
  have B0 : Hid (Below w.heap.size w (w.alloc (.cells #[.int .i64 x.nodes, .slice A1 x.reasons.length c1] 45))) := (Below.refl _ _).alloc (Nat.le_refl _) _
  have K0 : Hid (Blk (w.alloc (.cells #[.int .i64 x.nodes, .slice A1 x.reasons.length c1] 45)) w.heap.size 45 #[.int .i64 x.nodes, .slice A1 x.reasons.length c1]) := Blk.new _ _ _
  go_enter Tryd.func43, Tryd.ntmps43
  go_wp2_with fail
  refine (szReasonS_any A1 _ c1 x.reasons L1 _ _ rfl (by omega) (by omega) (by omega) (S1.out.below B0.out)).mono ?_
  rintro e w1 ⟨rfl, hb1⟩
  have B1 := Lib.hid (B0.out.trans (hb1.mono B0.out.size))
  have K1 := Lib.hid (K0.out.later hb1)
  have f0 := K1.out.at (i := 0) rfl
  have f1 := K1.out.at (i := 1) rfl
  clear hb1
  by_cases k1 : ((costReasonS x.reasons : Nat) : Int) ≤ left
  rotate_left
  · rw [szR_neg k1]
    go_wp2_with fail
    go_ret
    exact ⟨ret_i (by rw [szR_neg (by simp only [costBeliefs]; omega)]), B1.out⟩
  rw [szR_pos k1]
  go_wp2_with fail
  go_ret
  exact ⟨ret_i (by rw [szR_pos (by simp only [costBeliefs]; omega)] <;> simp only [costBeliefs] <;> omega), B1.out⟩

set_option maxHeartbeats 800000 in
theorem szFrame_any (cs : List Value) (x : FrameD) (L : List Nat) (left : Int) (w : World) (h0 : 0 ≤ left) (h1 : left ≤ 1048576) (h : cFrame.rep w cs x L) :
    Calls Tryd.prog 16 #[.agg cs.toArray, .int .i64 left] w (SzPost (costFrame x) left w) := by
  obtain ⟨A1, c1, L1, A2, c2, L2, A3, c3, L3, rfl, _hL, n1, m1, s1, n2, m2, s2, n3, m3, s3⟩ := h
  unfold maxLen at m1 m2 m3
  have S1 := Lib.hid s1
  clear s1
  have S2 := Lib.hid s2
  clear s2
  have S3 := Lib.hid s3
  clear s3
  have B0 : Hid (Below w.heap.size w (w.alloc (.cells #[.int .i64 x.beliefs.nodes, .slice A1 x.beliefs.reasons.length c1, .slice A2 x.assumed.length c2, .slice A3 x.bad.length c3] 47))) := (Below.refl _ _).alloc (Nat.le_refl _) _
  have K0 : Hid (Blk (w.alloc (.cells #[.int .i64 x.beliefs.nodes, .slice A1 x.beliefs.reasons.length c1, .slice A2 x.assumed.length c2, .slice A3 x.bad.length c3] 47)) w.heap.size 47 #[.int .i64 x.beliefs.nodes, .slice A1 x.beliefs.reasons.length c1, .slice A2 x.assumed.length c2, .slice A3 x.bad.length c3]) := Blk.new _ _ _
  go_enter Tryd.func16, Tryd.ntmps16
  go_wp2_with fail
  refine (szBeliefs_any [.int .i64 x.beliefs.nodes, .slice A1 x.beliefs.reasons.length c1] x.beliefs _ _ _ (by omega) (by omega) ⟨A1, c1, L1, rfl, rfl, n1, (by unfold maxLen; omega), S1.out.below B0.out⟩).mono ?_
  rintro e w1 ⟨rfl, hb1⟩
  have B1 := Lib.hid (B0.out.trans (hb1.mono B0.out.size))
  have K1 := Lib.hid (K0.out.later hb1)
  have f0 := K1.out.at (i := 0) rfl
  have f1 := K1.out.at (i := 1) rfl
  have f2 := K1.out.at (i := 2) rfl
  have f3 := K1.out.at (i := 3) rfl
  clear hb1
  by_cases k1 : ((costBeliefs x.beliefs : Nat) : Int) ≤ left
  rotate_left
  · rw [szR_neg k1]
    go_wp2_with fail
    go_ret
    exact ⟨ret_i (by rw [szR_neg (by simp only [costFrame]; omega)]), B1.out⟩
  rw [szR_pos k1]
  go_wp2_with fail
  refine (szIntS_any A2 _ c2 _ _ (by omega) (by omega) (by omega)).mono ?_
  rintro e w2 ⟨rfl, hb2⟩
  have B2 := Lib.hid (B1.out.trans (hb2.mono B1.out.size))
  have K2 := Lib.hid (K1.out.later hb2)
  clear f0 f1 f2 f3
  have f0 := K2.out.at (i := 0) rfl
  have f1 := K2.out.at (i := 1) rfl
  have f2 := K2.out.at (i := 2) rfl
  have f3 := K2.out.at (i := 3) rfl
  clear hb2
  by_cases k2 : ((x.assumed.length : Nat) : Int) ≤ left - (costBeliefs x.beliefs : Nat)
  rotate_left
  · rw [szR_neg k2]
    go_wp2_with fail
    go_ret
    exact ⟨ret_i (by rw [szR_neg (by simp only [costFrame]; omega)]), B2.out⟩
  rw [szR_pos k2]
  go_wp2_with fail
  refine (szIntS_any A3 _ c3 _ _ (by omega) (by omega) (by omega)).mono ?_
  rintro e w3 ⟨rfl, hb3⟩
  have B3 := Lib.hid (B2.out.trans (hb3.mono B2.out.size))
  have K3 := Lib.hid (K2.out.later hb3)
  clear f0 f1 f2 f3
  have f0 := K3.out.at (i := 0) rfl
  have f1 := K3.out.at (i := 1) rfl
  have f2 := K3.out.at (i := 2) rfl
  have f3 := K3.out.at (i := 3) rfl
  clear hb3
  by_cases k3 : ((x.bad.length : Nat) : Int) ≤ left - (costBeliefs x.beliefs : Nat) - (x.assumed.length : Nat)
  rotate_left
  · rw [szR_neg k3]
    go_wp2_with fail
    go_ret
    exact ⟨ret_i (by rw [szR_neg (by simp only [costFrame]; omega)]), B3.out⟩
  rw [szR_pos k3]
  go_wp2_with fail
  go_ret
  exact ⟨ret_i (by rw [szR_pos (by simp only [costFrame]; omega)] <;> simp only [costFrame] <;> omega), B3.out⟩

end Go.Proofs.YtppjenkjopjeiaaDoor

namespace Go.Proofs.YtppjenkjopjeiaaDoor
open Go.RowKit

theorem Tryd.infoInt_ : (Tryd.prog.info? 3).map (fun i => (i.zero, i.size, i.bytes)) = some (some (.int .i64 0), 1, 8) := by kernel_rfl
set_option maxHeartbeats 1600000 in
theorem toIntS_any (A : Option Addr) (n c : Nat) (ds : List Int) (L : List Nat) (w : World) (hn : n = ds.length) (hm : ds.length ≤ 1099511627776) (h : Sli intC w A ds L) :
    Calls Tryd.prog 38 #[.slice A n c] w (GivesS intC 3 w ds) := by
  obtain ⟨i0, hi, hz0, hz1, hz2⟩ := info_parts Tryd.infoInt_
  rw [← hn] at hm
  have H := Lib.hid h
  have HN := Lib.hid hn
  clear h hn
  go_enter Tryd.func38, Tryd.ntmps38
  go_wp2_with (at_make; refine wpList_make_full _ rfl _ _ 32 rfl w.heap.size 3 i0 _ 1 Tryd.underlying32 hi hz0 hz1 .i64 .i64 _ _ n rfl rfl rfl rfl (by rw [hz2]; omega) (by unfold maxLen; omega) (Nat.le_refl _) ?_; intro w1 hown hg)
  have hb : Below w.heap.size w w1 := (Below.refl _ _).grown hg (Nat.le_refl _) (by simp)
  have HF0 : Hid (Filling intC 3 w n ds 0 w1) := Filling.start hown hb
  clear hown hg hb
  go_wp2
  go_loopw [4] (fun i wr => ∃ (k : Nat), k ≤ n ∧ i = .int .i64 k ∧ Hid (Filling intC 3 w n ds k wr)) (fun i _ => n - (intOf i).toNat)
  case atStart => exact ⟨0, Nat.zero_le _, rfl, HF0⟩
  case round =>
    obtain ⟨k, hk, rfl, HF⟩ := hrel
    by_cases hlt : k < n
    · have hkl : k < ds.length := by have := HN.out; omega
      obtain ⟨b, off, cs, Lk, rfl, hbL, hLk, hrep, hc⟩ := H.out.at_ hkl
      have hbl : b < w.heap.size := H.out.lt b hbL
      have hrep0 := hrep
      obtain ⟨rfl, _⟩ := hrep0
      have q0 := (HF.out.below.cell (p := ⟨b, off + (k * intC.size + 0), none⟩) hbl).trans (hc 0 _ rfl)
      have HS := Lib.hid (HF.out.store (w2 := wr) (x := ds[k]) (M := []) hlt HN.out (fun _ => rfl) (Below.refl _ _) ⟨⟨rfl, rfl⟩, Own.nil _ _⟩)
      obtain ⟨d0, e0⟩ := HF.out.cell hlt (j := 0) (by decide)
      have z0 := HF.out.frozen k
      simp only [show intC.size = 1 from rfl, Nat.mul_one, Nat.add_zero] at q0 HS e0
      generalize ds[k] = x at *
      clear hc hrep
      go_wp2_with fail
      go_roundw
      case rel => exact ⟨k + 1, by omega, by go_num, HS.out⟩
      case measure => simp [intOf]; omega
    · obtain rfl : k = n := by omega
      go_wp2
      go_ret
      exact ⟨_, rfl, HF.out.done HN.out⟩

set_option maxHeartbeats 1600000 in
theorem toReason_any (cs : List Value) (x : ReasonD) (L : List Nat) (w : World) (hz : costReason x ≤ 1048576) (h : cReason.rep w cs x L) :
    Calls Tryd.prog 84 #[.agg cs.toArray] w (Gives cReason w x) := by
  obtain ⟨A1, c1, L1, A2, c2, L2, rfl, _hL, n1, m1, s1, n2, m2, s2⟩ := h
  unfold maxLen at m1 m2
  have S1 := Lib.hid s1
  clear s1
  have S2 := Lib.hid s2
  clear s2
  simp only [costReason] at hz
  go_enter Tryd.func84, Tryd.ntmps84
  go_wp2_with fail
  refine (toIntS_any A1 _ c1 x.inn L1 _ rfl (by omega) (S1.out.below (by repeat (first | refine Below.setCell ?_ (by dsimp only; omega) _ | refine Below.alloc ?_ (by first | (simp; done) | (simp; omega) | omega) _ | exact Below.refl _ _)))).mono ?_
  rintro e w1 ⟨v1, rfl, a1⟩
  obtain ⟨vA1, vc1, rfl⟩ := a1.shape
  have hb1 := a1.below
  obtain ⟨M1, g1⟩ := a1.got
  clear a1
  have G1 := Lib.hid (g1.mono (show w.heap.size + 3 ≤ _ by simp))
  have lt1 := Lib.hid g1.lt
  clear g1
  have B1 : Hid (Below w.heap.size w w1) := Below.trans (by repeat (first | refine Below.setCell ?_ (by dsimp only; omega) _ | refine Below.alloc ?_ (by first | (simp; done) | (simp; omega) | omega) _ | exact Below.refl _ _)) (hb1.mono (by first | (simp; done) | (simp; omega) | omega))
  have K0 : Hid (Blk w1 w.heap.size 104 #[.int .i64 x.for_, .slice A1 x.inn.length c1, .slice A2 x.outs.length c2]) := Blk.later (Blk.alloc (Blk.alloc (Blk.new _ _ _) _) _) hb1
  have K1 : Hid (Blk w1 (w.heap.size + 1) 99 #[.int .i64 0, .slice none 0 0, .slice none 0 0]) := Blk.later (Blk.alloc (Blk.new_at (by simp)) _) hb1
  have K2 : Hid (Blk w1 (w.heap.size + 1 + 1) 99 #[.int .i64 x.for_, .slice none 0 0, .slice none 0 0]) := Blk.later (Blk.new_at (by simp)) hb1
  have f0 := K0.out.at (i := 0) rfl
  have r0 := K1.out.at (i := 0) rfl
  have o0 := K2.out.at (i := 0) rfl
  have rz0 := K1.out.frozen 0
  have oz0 := K2.out.frozen 0
  have f1 := K0.out.at (i := 1) rfl
  have r1 := K1.out.at (i := 1) rfl
  have o1 := K2.out.at (i := 1) rfl
  have rz1 := K1.out.frozen 1
  have oz1 := K2.out.frozen 1
  have f2 := K0.out.at (i := 2) rfl
  have r2 := K1.out.at (i := 2) rfl
  have o2 := K2.out.at (i := 2) rfl
  have rz2 := K1.out.frozen 2
  have oz2 := K2.out.frozen 2
  have hz1 : w.heap.size + 2 < w1.heap.size := by have := hb1.size; simp at this; omega
  clear hb1
  go_wp2_with fail
  refine (toIntS_any A2 _ c2 x.outs L2 _ rfl (by omega) (S2.out.below (by repeat (first | refine Below.setCell ?_ (by dsimp only; omega) _ | refine Below.alloc ?_ (by first | (simp; done) | (simp; omega) | omega) _ | exact B1.out)))).mono ?_
  rintro e w2 ⟨v2, rfl, a2⟩
  obtain ⟨vA2, vc2, rfl⟩ := a2.shape
  have hb2 := a2.below
  obtain ⟨M2, g2⟩ := a2.got
  clear a2
  have G2 := Lib.hid (g2.mono (show w1.heap.size ≤ _ by simp))
  have lt2 := Lib.hid g2.lt
  clear g2
  have B2 : Hid (Below w.heap.size w w2) := Below.trans (by repeat (first | refine Below.setCell ?_ (by dsimp only; omega) _ | refine Below.alloc ?_ (by first | (simp; done) | (simp; omega) | omega) _ | exact B1.out)) (hb2.mono (by first | (simp; done) | (simp; omega) | omega))
  have G1 : Hid (Got (sliceC intC) (w.heap.size + 3) [.slice vA1 x.inn.length vc1] x.inn M1 w2) := Got.later (by repeat (first | refine Got.setCell ?_ (by dsimp only; omega) _ | exact G1.out)) hb2
  have K0 := Lib.hid (Blk.later (Blk.far K0.out (by dsimp only; omega) _) hb2)
  have K1 := Lib.hid (Blk.later (Blk.far K1.out (by dsimp only; omega) _) hb2)
  have K2 := Lib.hid (Blk.later (Blk.set_ K2.out 1 _) hb2)
  clear f0 r0 o0 rz0 oz0 f1 r1 o1 rz1 oz1 f2 r2 o2 rz2 oz2
  have f0 := K0.out.at (i := 0) rfl
  have r0 := K1.out.at (i := 0) rfl
  have o0 := K2.out.at (i := 0) rfl
  have rz0 := K1.out.frozen 0
  have oz0 := K2.out.frozen 0
  have f1 := K0.out.at (i := 1) rfl
  have r1 := K1.out.at (i := 1) rfl
  have o1 := K2.out.at (i := 1) rfl
  have rz1 := K1.out.frozen 1
  have oz1 := K2.out.frozen 1
  have f2 := K0.out.at (i := 2) rfl
  have r2 := K1.out.at (i := 2) rfl
  have o2 := K2.out.at (i := 2) rfl
  have rz2 := K1.out.frozen 2
  have oz2 := K2.out.frozen 2
  have hz2 : w.heap.size + 2 < w2.heap.size := by have := hb2.size; simp at this; omega
  have hy2 : w1.heap.size ≤ w2.heap.size := by have := hb2.size; simp at this; omega
  clear hb2
  go_wp2_with fail
  refine bodyPost_ret (v := .agg #[.int .i64 x.for_, .slice vA1 x.inn.length vc1, .slice vA2 x.outs.length vc2]) (by simp [results, Tryd.results84, go_sem, r0, r1, r2]) rfl ?_
  obtain ⟨nn1, mm1, ss1⟩ := sliceC_out G1.out.rep
  obtain ⟨nn2, mm2, ss2⟩ := sliceC_out G2.out.rep
  exact gives_of (wr := w2) (M1 ++ M2) ⟨⟨vA1, vc1, M1, vA2, vc2, M2, rfl, rfl, nn1, mm1, ss1, nn2, mm2, ss2⟩, by have o := (Own.append G1.out.own G2.out.own (by omega) lt1.out); simpa only [List.append_assoc] using o⟩ (by intro b hb; repeat rw [Below.heap_setCell _ _ _ _ (by dsimp only; omega)]) (by repeat (first | refine Below.setCell ?_ (by dsimp only; omega) _ | refine Below.alloc ?_ (by first | (simp; done) | (simp; omega) | omega) _ | exact B2.out))

theorem Tryd.infoReason : (Tryd.prog.info? 99).map (fun i => (i.zero, i.size, i.bytes)) = some (some (.agg #[.int .i64 0, .slice none 0 0, .slice none 0 0]), 3, 56) := by kernel_rfl
set_option maxHeartbeats 1600000 in
theorem toReasonS_any (A : Option Addr) (n c : Nat) (ds : List ReasonD) (L : List Nat) (w : World) (hn : n = ds.length) (hz : costReasonS ds ≤ 1048576) (h : Sli cReason w A ds L) :
    Calls Tryd.prog 70 #[.slice A n c] w (GivesS cReason 99 w ds) := by
  obtain ⟨i0, hi, hz0, hz1, hz2⟩ := info_parts Tryd.infoReason
  have H := Lib.hid h
  have HN := Lib.hid hn
  have hm : n ≤ 1048576 := by simp only [costReasonS] at hz; omega
  have HZ := Lib.hid hz
  clear h hn hz
  go_enter Tryd.func70, Tryd.ntmps70
  go_wp2_with (at_make; refine wpList_make_full _ rfl _ _ 50 rfl w.heap.size 99 i0 _ 3 Tryd.underlying50 hi hz0 hz1 .i64 .i64 _ _ n rfl rfl rfl rfl (by rw [hz2]; omega) (by unfold maxLen; omega) (Nat.le_refl _) ?_; intro w1 hown hg)
  have hb : Below w.heap.size w w1 := (Below.refl _ _).grown hg (Nat.le_refl _) (by simp)
  have HF0 : Hid (Filling cReason 99 w n ds 0 w1) := Filling.start hown hb
  clear hown hg hb
  go_wp2
  go_loopw [4] (fun i wr => ∃ (k : Nat), k ≤ n ∧ i = .int .i64 k ∧ Hid (Filling cReason 99 w n ds k wr)) (fun i _ => n - (intOf i).toNat)
  case atStart => exact ⟨0, Nat.zero_le _, rfl, HF0⟩
  case round =>
    obtain ⟨k, hk, rfl, HF⟩ := hrel
    by_cases hlt : k < n
    · have hkl : k < ds.length := by have := HN.out; omega
      obtain ⟨b, off, cs, Lk, rfl, hbL, hLk, hrep, hc⟩ := H.out.at_ hkl
      have hbl : b < w.heap.size := H.out.lt b hbL
      have HR := Lib.hid (cReason.keep hrep (keep_below HF.out.below (fun y m => H.out.lt y (hLk y m))))
      obtain ⟨A1, c1, A2, c2, rfl⟩ := cReason_cells hrep
      have q0 : wr.cell? ⟨b, off + k * 3, none⟩ = _ := (HF.out.below.cell (p := ⟨b, off + (k * 3 + 0), none⟩) hbl).trans (hc 0 _ rfl)
      have q1 : wr.cell? ⟨b, off + k * 3 + 1, none⟩ = _ := (HF.out.below.cell (p := ⟨b, off + (k * 3 + 1), none⟩) hbl).trans (hc 1 _ rfl)
      have q2 : wr.cell? ⟨b, off + k * 3 + 2, none⟩ = _ := (HF.out.below.cell (p := ⟨b, off + (k * 3 + 2), none⟩) hbl).trans (hc 2 _ rfl)
      have hcx : Hid (costReason ds[k] ≤ 1048576) := cost_le costReason ds k hkl (by have := HZ.out; simp only [costReasonS] at this; omega)
      obtain ⟨x, hx⟩ : ∃ x, x = ds[k] := ⟨_, rfl⟩
      have HX := Lib.hid hx
      rw [← hx] at HR q0 q1 q2 hcx
      clear hc hrep hx
      go_wp2_with fail
      refine (toReason_any _ x Lk _ hcx.out HR.out).mono ?_
      rintro e w2 ⟨cs2, M2, rfl, g2, hb2⟩
      have HF2 := Lib.hid (HF.out.later hb2)
      have HS := Lib.hid (HF.out.store hlt HN.out (fun _ => HX.out) hb2 g2)
      obtain ⟨vA1, vc1, vA2, vc2, rfl⟩ := cReason_cells g2.rep
      clear g2 hb2
      obtain ⟨d0, e0⟩ : ∃ d, w2.cell? ⟨w.heap.size, k * 3, none⟩ = some d := HF2.out.cell hlt (j := 0) (by decide)
      have z0 := HF2.out.frozen (k * 3)
      obtain ⟨d1, e1⟩ : ∃ d, w2.cell? ⟨w.heap.size, k * 3 + 1, none⟩ = some d := HF2.out.cell hlt (j := 1) (by decide)
      have z1 := HF2.out.frozen (k * 3 + 1)
      obtain ⟨d2, e2⟩ : ∃ d, w2.cell? ⟨w.heap.size, k * 3 + 2, none⟩ = some d := HF2.out.cell hlt (j := 2) (by decide)
      have z2 := HF2.out.frozen (k * 3 + 2)
      go_wp2_with fail
      go_roundw
      case rel => exact ⟨k + 1, by omega, by go_num, HS.out⟩
      case measure => simp [intOf]; omega
    · obtain rfl : k = n := by omega
      go_wp2
      go_ret
      exact ⟨_, rfl, HF.out.done HN.out⟩

set_option maxHeartbeats 1600000 in
theorem toBeliefs_any (cs : List Value) (x : BeliefsD) (L : List Nat) (w : World) (hz : costBeliefs x ≤ 1048576) (h : cBeliefs.rep w cs x L) :
    Calls Tryd.prog 46 #[.agg cs.toArray] w (Gives cBeliefs w x) := by
  obtain ⟨A1, c1, L1, rfl, _hL, n1, m1, s1⟩ := h
  unfold maxLen at m1
  have S1 := Lib.hid s1
  clear s1
  simp only [costBeliefs] at hz
  go_enter Tryd.func46, Tryd.ntmps46
  go_wp2_with fail
  refine (toReasonS_any A1 _ c1 x.reasons L1 _ rfl (by omega) (S1.out.below (by repeat (first | refine Below.setCell ?_ (by dsimp only; omega) _ | refine Below.alloc ?_ (by first | (simp; done) | (simp; omega) | omega) _ | exact Below.refl _ _)))).mono ?_
  rintro e w1 ⟨v1, rfl, a1⟩
  obtain ⟨vA1, vc1, rfl⟩ := a1.shape
  have hb1 := a1.below
  obtain ⟨M1, g1⟩ := a1.got
  clear a1
  have G1 := Lib.hid (g1.mono (show w.heap.size + 3 ≤ _ by simp))
  have lt1 := Lib.hid g1.lt
  clear g1
  have B1 : Hid (Below w.heap.size w w1) := Below.trans (by repeat (first | refine Below.setCell ?_ (by dsimp only; omega) _ | refine Below.alloc ?_ (by first | (simp; done) | (simp; omega) | omega) _ | exact Below.refl _ _)) (hb1.mono (by first | (simp; done) | (simp; omega) | omega))
  have K0 : Hid (Blk w1 w.heap.size 45 #[.int .i64 x.nodes, .slice A1 x.reasons.length c1]) := Blk.later (Blk.alloc (Blk.alloc (Blk.new _ _ _) _) _) hb1
  have K1 : Hid (Blk w1 (w.heap.size + 1) 52 #[.int .i64 0, .slice none 0 0]) := Blk.later (Blk.alloc (Blk.new_at (by simp)) _) hb1
  have K2 : Hid (Blk w1 (w.heap.size + 1 + 1) 52 #[.int .i64 x.nodes, .slice none 0 0]) := Blk.later (Blk.new_at (by simp)) hb1
  have f0 := K0.out.at (i := 0) rfl
  have r0 := K1.out.at (i := 0) rfl
  have o0 := K2.out.at (i := 0) rfl
  have rz0 := K1.out.frozen 0
  have oz0 := K2.out.frozen 0
  have f1 := K0.out.at (i := 1) rfl
  have r1 := K1.out.at (i := 1) rfl
  have o1 := K2.out.at (i := 1) rfl
  have rz1 := K1.out.frozen 1
  have oz1 := K2.out.frozen 1
  have hz1 : w.heap.size + 2 < w1.heap.size := by have := hb1.size; simp at this; omega
  clear hb1
  go_wp2_with fail
  refine bodyPost_ret (v := .agg #[.int .i64 x.nodes, .slice vA1 x.reasons.length vc1]) (by simp [results, Tryd.results46, go_sem, r0, r1]) rfl ?_
  obtain ⟨nn1, mm1, ss1⟩ := sliceC_out G1.out.rep
  exact gives_of (wr := w1) (M1) ⟨⟨vA1, vc1, M1, rfl, rfl, nn1, mm1, ss1⟩, by have o := G1.out.own; simpa only [List.append_assoc] using o⟩ (by intro b hb; repeat rw [Below.heap_setCell _ _ _ _ (by dsimp only; omega)]) (by repeat (first | refine Below.setCell ?_ (by dsimp only; omega) _ | refine Below.alloc ?_ (by first | (simp; done) | (simp; omega) | omega) _ | exact B1.out))

set_option maxHeartbeats 1600000 in
theorem toFrame_any (cs : List Value) (x : FrameD) (L : List Nat) (w : World) (hz : costFrame x ≤ 1048576) (h : cFrame.rep w cs x L) :
    Calls Tryd.prog 18 #[.agg cs.toArray] w (Gives cFrame w x) := by
  obtain ⟨A1, c1, L1, A2, c2, L2, A3, c3, L3, rfl, _hL, n1, m1, s1, n2, m2, s2, n3, m3, s3⟩ := h
  unfold maxLen at m1 m2 m3
  have S1 := Lib.hid s1
  clear s1
  have S2 := Lib.hid s2
  clear s2
  have S3 := Lib.hid s3
  clear s3
  simp only [costFrame] at hz
  go_enter Tryd.func18, Tryd.ntmps18
  go_wp2_with fail
  refine (toBeliefs_any [.int .i64 x.beliefs.nodes, .slice A1 x.beliefs.reasons.length c1] x.beliefs _ _ (by omega) ⟨A1, c1, L1, rfl, rfl, n1, (by unfold maxLen; omega), S1.out.below (by repeat (first | refine Below.setCell ?_ (by dsimp only; omega) _ | refine Below.alloc ?_ (by first | (simp; done) | (simp; omega) | omega) _ | exact Below.refl _ _))⟩).mono ?_
  rintro e w1 ⟨cs1, M1, rfl, g1, hb1⟩
  obtain ⟨vA1, vc1, rfl⟩ := cBeliefs_cells g1.rep
  have G1 := Lib.hid (g1.mono (show w.heap.size + 3 ≤ _ by simp))
  have lt1 := Lib.hid g1.lt
  clear g1
  have B1 : Hid (Below w.heap.size w w1) := Below.trans (by repeat (first | refine Below.setCell ?_ (by dsimp only; omega) _ | refine Below.alloc ?_ (by first | (simp; done) | (simp; omega) | omega) _ | exact Below.refl _ _)) (hb1.mono (by first | (simp; done) | (simp; omega) | omega))
  have K0 : Hid (Blk w1 w.heap.size 47 #[.int .i64 x.beliefs.nodes, .slice A1 x.beliefs.reasons.length c1, .slice A2 x.assumed.length c2, .slice A3 x.bad.length c3]) := Blk.later (Blk.alloc (Blk.alloc (Blk.new _ _ _) _) _) hb1
  have K1 : Hid (Blk w1 (w.heap.size + 1) 54 #[.int .i64 0, .slice none 0 0, .slice none 0 0, .slice none 0 0]) := Blk.later (Blk.alloc (Blk.new_at (by simp)) _) hb1
  have K2 : Hid (Blk w1 (w.heap.size + 1 + 1) 54 #[.int .i64 0, .slice none 0 0, .slice none 0 0, .slice none 0 0]) := Blk.later (Blk.new_at (by simp)) hb1
  have f0 := K0.out.at (i := 0) rfl
  have r0 := K1.out.at (i := 0) rfl
  have o0 := K2.out.at (i := 0) rfl
  have rz0 := K1.out.frozen 0
  have oz0 := K2.out.frozen 0
  have f1 := K0.out.at (i := 1) rfl
  have r1 := K1.out.at (i := 1) rfl
  have o1 := K2.out.at (i := 1) rfl
  have rz1 := K1.out.frozen 1
  have oz1 := K2.out.frozen 1
  have f2 := K0.out.at (i := 2) rfl
  have r2 := K1.out.at (i := 2) rfl
  have o2 := K2.out.at (i := 2) rfl
  have rz2 := K1.out.frozen 2
  have oz2 := K2.out.frozen 2
  have f3 := K0.out.at (i := 3) rfl
  have r3 := K1.out.at (i := 3) rfl
  have o3 := K2.out.at (i := 3) rfl
  have rz3 := K1.out.frozen 3
  have oz3 := K2.out.frozen 3
  have hz1 : w.heap.size + 2 < w1.heap.size := by have := hb1.size; simp at this; omega
  clear hb1
  go_wp2_with fail
  refine (toIntS_any A2 _ c2 x.assumed L2 _ rfl (by omega) (S2.out.below (by repeat (first | refine Below.setCell ?_ (by dsimp only; omega) _ | refine Below.alloc ?_ (by first | (simp; done) | (simp; omega) | omega) _ | exact B1.out)))).mono ?_
  rintro e w2 ⟨v2, rfl, a2⟩
  obtain ⟨vA2, vc2, rfl⟩ := a2.shape
  have hb2 := a2.below
  obtain ⟨M2, g2⟩ := a2.got
  clear a2
  have G2 := Lib.hid (g2.mono (show w1.heap.size ≤ _ by simp))
  have lt2 := Lib.hid g2.lt
  clear g2
  have B2 : Hid (Below w.heap.size w w2) := Below.trans (by repeat (first | refine Below.setCell ?_ (by dsimp only; omega) _ | refine Below.alloc ?_ (by first | (simp; done) | (simp; omega) | omega) _ | exact B1.out)) (hb2.mono (by first | (simp; done) | (simp; omega) | omega))
  have G1 : Hid (Got cBeliefs (w.heap.size + 3) [.int .i64 x.beliefs.nodes, .slice vA1 x.beliefs.reasons.length vc1] x.beliefs M1 w2) := Got.later (by repeat (first | refine Got.setCell ?_ (by dsimp only; omega) _ | exact G1.out)) hb2
  have K0 := Lib.hid (Blk.later (Blk.far (Blk.far K0.out (by dsimp only; omega) _) (by dsimp only; omega) _) hb2)
  have K1 := Lib.hid (Blk.later (Blk.far (Blk.far K1.out (by dsimp only; omega) _) (by dsimp only; omega) _) hb2)
  have K2 := Lib.hid (Blk.later (Blk.set_ (Blk.set_ K2.out 0 _) 1 _) hb2)
  clear f0 r0 o0 rz0 oz0 f1 r1 o1 rz1 oz1 f2 r2 o2 rz2 oz2 f3 r3 o3 rz3 oz3
  have f0 := K0.out.at (i := 0) rfl
  have r0 := K1.out.at (i := 0) rfl
  have o0 := K2.out.at (i := 0) rfl
  have rz0 := K1.out.frozen 0
  have oz0 := K2.out.frozen 0
  have f1 := K0.out.at (i := 1) rfl
  have r1 := K1.out.at (i := 1) rfl
  have o1 := K2.out.at (i := 1) rfl
  have rz1 := K1.out.frozen 1
  have oz1 := K2.out.frozen 1
  have f2 := K0.out.at (i := 2) rfl
  have r2 := K1.out.at (i := 2) rfl
  have o2 := K2.out.at (i := 2) rfl
  have rz2 := K1.out.frozen 2
  have oz2 := K2.out.frozen 2
  have f3 := K0.out.at (i := 3) rfl
  have r3 := K1.out.at (i := 3) rfl
  have o3 := K2.out.at (i := 3) rfl
  have rz3 := K1.out.frozen 3
  have oz3 := K2.out.frozen 3
  have hz2 : w.heap.size + 2 < w2.heap.size := by have := hb2.size; simp at this; omega
  have hy2 : w1.heap.size ≤ w2.heap.size := by have := hb2.size; simp at this; omega
  clear hb2
  go_wp2_with fail
  refine (toIntS_any A3 _ c3 x.bad L3 _ rfl (by omega) (S3.out.below (by repeat (first | refine Below.setCell ?_ (by dsimp only; omega) _ | refine Below.alloc ?_ (by first | (simp; done) | (simp; omega) | omega) _ | exact B2.out)))).mono ?_
  rintro e w3 ⟨v3, rfl, a3⟩
  obtain ⟨vA3, vc3, rfl⟩ := a3.shape
  have hb3 := a3.below
  obtain ⟨M3, g3⟩ := a3.got
  clear a3
  have G3 := Lib.hid (g3.mono (show w2.heap.size ≤ _ by simp))
  have lt3 := Lib.hid g3.lt
  clear g3
  have B3 : Hid (Below w.heap.size w w3) := Below.trans (by repeat (first | refine Below.setCell ?_ (by dsimp only; omega) _ | refine Below.alloc ?_ (by first | (simp; done) | (simp; omega) | omega) _ | exact B2.out)) (hb3.mono (by first | (simp; done) | (simp; omega) | omega))
  have G1 : Hid (Got cBeliefs (w.heap.size + 3) [.int .i64 x.beliefs.nodes, .slice vA1 x.beliefs.reasons.length vc1] x.beliefs M1 w3) := Got.later (by repeat (first | refine Got.setCell ?_ (by dsimp only; omega) _ | exact G1.out)) hb3
  have G2 : Hid (Got (sliceC intC) (w1.heap.size) [.slice vA2 x.assumed.length vc2] x.assumed M2 w3) := Got.later (by repeat (first | refine Got.setCell ?_ (by dsimp only; omega) _ | exact G2.out)) hb3
  have K0 := Lib.hid (Blk.later (Blk.far K0.out (by dsimp only; omega) _) hb3)
  have K1 := Lib.hid (Blk.later (Blk.far K1.out (by dsimp only; omega) _) hb3)
  have K2 := Lib.hid (Blk.later (Blk.set_ K2.out 2 _) hb3)
  clear f0 r0 o0 rz0 oz0 f1 r1 o1 rz1 oz1 f2 r2 o2 rz2 oz2 f3 r3 o3 rz3 oz3
  have f0 := K0.out.at (i := 0) rfl
  have r0 := K1.out.at (i := 0) rfl
  have o0 := K2.out.at (i := 0) rfl
  have rz0 := K1.out.frozen 0
  have oz0 := K2.out.frozen 0
  have f1 := K0.out.at (i := 1) rfl
  have r1 := K1.out.at (i := 1) rfl
  have o1 := K2.out.at (i := 1) rfl
  have rz1 := K1.out.frozen 1
  have oz1 := K2.out.frozen 1
  have f2 := K0.out.at (i := 2) rfl
  have r2 := K1.out.at (i := 2) rfl
  have o2 := K2.out.at (i := 2) rfl
  have rz2 := K1.out.frozen 2
  have oz2 := K2.out.frozen 2
  have f3 := K0.out.at (i := 3) rfl
  have r3 := K1.out.at (i := 3) rfl
  have o3 := K2.out.at (i := 3) rfl
  have rz3 := K1.out.frozen 3
  have oz3 := K2.out.frozen 3
  have hz3 : w.heap.size + 2 < w3.heap.size := by have := hb3.size; simp at this; omega
  have hy3 : w2.heap.size ≤ w3.heap.size := by have := hb3.size; simp at this; omega
  clear hb3
  go_wp2_with fail
  refine bodyPost_ret (v := .agg #[.int .i64 x.beliefs.nodes, .slice vA1 x.beliefs.reasons.length vc1, .slice vA2 x.assumed.length vc2, .slice vA3 x.bad.length vc3]) (by simp [results, Tryd.results18, go_sem, r0, r1, r2, r3]) rfl ?_
  obtain ⟨_, _, N1, hcs1, hL1, nn1, mm1, ss1⟩ := G1.out.rep
  cases hcs1
  subst hL1
  obtain ⟨nn2, mm2, ss2⟩ := sliceC_out G2.out.rep
  obtain ⟨nn3, mm3, ss3⟩ := sliceC_out G3.out.rep
  exact gives_of (wr := w3) (M1 ++ (M2 ++ M3)) ⟨⟨vA1, vc1, M1, vA2, vc2, M2, vA3, vc3, M3, rfl, rfl, nn1, mm1, ss1, nn2, mm2, ss2, nn3, mm3, ss3⟩, by have o := (Own.append G1.out.own (Own.append G2.out.own G3.out.own (by omega) lt2.out) (by omega) lt1.out); simpa only [List.append_assoc] using o⟩ (by intro b hb; repeat rw [Below.heap_setCell _ _ _ _ (by dsimp only; omega)]) (by repeat (first | refine Below.setCell ?_ (by dsimp only; omega) _ | refine Below.alloc ?_ (by first | (simp; done) | (simp; omega) | omega) _ | exact B3.out))

end Go.Proofs.YtppjenkjopjeiaaDoor

namespace Go.Proofs.YtppjenkjopjeiaaDoor
open Go.RowKit

def TruePost (w : World) (e : Ending) (w' : World) : Prop := e = .returned (.bool true) ∧ Below w.heap.size w w'

set_option maxHeartbeats 1600000 in
theorem eqIntS_any (A B : Option Addr) (n c d : Nat) (ds : List Int) (L M : List Nat) (w : World) (hn : n = ds.length) (hm : n ≤ 9223372036854775807) (h1 : Sli intC w A ds L) (h2 : Sli intC w B ds M) :
    Calls Tryd.prog 42 #[.slice A n c, .slice B n d] w (TruePost w) := by
  have H1 := Lib.hid h1
  have H2 := Lib.hid h2
  have HN := Lib.hid hn
  clear h1 h2 hn
  have hne : ((n : Int) != n) = false := by simp
  go_enter Tryd.func42, Tryd.ntmps42
  go_wp2
  go_loopw [5] (fun i wr => ∃ (k : Nat), k ≤ n ∧ i = .int .i64 k ∧ Hid (∃ q, wr = w.drewN q)) (fun i _ => n - (intOf i).toNat)
  case atStart => exact ⟨0, Nat.zero_le _, rfl, 0, rfl⟩
  case round =>
    obtain ⟨k, hk, rfl, hq⟩ := hrel
    obtain ⟨q, rfl⟩ := hq.out
    by_cases hlt : k < n
    · have hkl : k < ds.length := by have := HN.out; omega
      obtain ⟨b, off, cs, Lk, rfl, _, _, hrep, hc⟩ := H1.out.at_ hkl
      obtain ⟨b', off', cs', Mk, rfl, _, _, hrep', hc'⟩ := H2.out.at_ hkl
      generalize ds[k] = x at *
      obtain ⟨rfl, _⟩ := hrep
      obtain ⟨rfl, _⟩ := hrep'
      have q0 := hc 0 _ rfl
      have p0 := hc' 0 _ rfl
      simp only [show intC.size = 1 from rfl, Nat.mul_one, Nat.add_zero] at q0 p0
      clear hc hc'
      have k0 : (0 : Int) ≤ k := by omega
      have k1 : (k : Int) < n := by omega
      go_wp2_with fail
      go_quiet (fail)
      go_wp2_with fail
      go_roundw
      case rel => exact ⟨k + 1, by omega, by go_num, by first | exact drew_ex _ _ _ | exact drew_ex1 _ _⟩
      case measure => simp [intOf]; omega
    · go_wp2
      go_ret
      exact ⟨rfl, below_of_drewN _ _ _⟩

set_option maxHeartbeats 1600000 in
theorem eqReason_any (cs ds : List Value) (x : ReasonD) (L M : List Nat) (w : World) (h1 : cReason.rep w cs x L) (h2 : cReason.rep w ds x M) :
    Calls Tryd.prog 88 #[.agg cs.toArray, .agg ds.toArray] w (TruePost w) := by
  obtain ⟨aA1, ac1, aL1, aA2, ac2, aL2, rfl, _ahL, an1, am1, as1, an2, am2, as2⟩ := h1
  obtain ⟨bA1, bc1, bL1, bA2, bc2, bL2, rfl, _bhL, bn1, bm1, bs1, bn2, bm2, bs2⟩ := h2
  unfold maxLen at am1 bm1 am2 bm2
  have SA1 := Lib.hid as1
  have SB1 := Lib.hid bs1
  clear as1 bs1
  have SA2 := Lib.hid as2
  have SB2 := Lib.hid bs2
  clear as2 bs2
  go_enter Tryd.func88, Tryd.ntmps88
  go_wp2_with fail
  refine (eqIntS_any aA1 bA1 _ ac1 bc1 x.inn aL1 bL1 _ rfl (by omega) (SA1.out.below (by repeat (first | refine Below.setCell ?_ (by dsimp only; omega) _ | refine Below.alloc ?_ (by first | (simp; done) | (simp; omega) | omega) _ | exact Below.refl _ _))) (SB1.out.below (by repeat (first | refine Below.setCell ?_ (by dsimp only; omega) _ | refine Below.alloc ?_ (by first | (simp; done) | (simp; omega) | omega) _ | exact Below.refl _ _)))).mono ?_
  rintro e w1 ⟨rfl, hb1⟩
  have B1 : Hid (Below w.heap.size w w1) := Below.trans (by repeat (first | refine Below.setCell ?_ (by dsimp only; omega) _ | refine Below.alloc ?_ (by first | (simp; done) | (simp; omega) | omega) _ | exact Below.refl _ _)) (hb1.mono (by first | (simp; done) | (simp; omega) | omega))
  have K0 : Hid (Blk w1 w.heap.size 99 #[.int .i64 x.for_, .slice aA1 x.inn.length ac1, .slice aA2 x.outs.length ac2]) := Blk.later (Blk.alloc (Blk.new _ _ _) _) hb1
  have K1 : Hid (Blk w1 (w.heap.size + 1) 99 #[.int .i64 x.for_, .slice bA1 x.inn.length bc1, .slice bA2 x.outs.length bc2]) := Blk.later (Blk.new_at (by simp)) hb1
  have f0 := K0.out.at (i := 0) rfl
  have r0 := K1.out.at (i := 0) rfl
  have f1 := K0.out.at (i := 1) rfl
  have r1 := K1.out.at (i := 1) rfl
  have f2 := K0.out.at (i := 2) rfl
  have r2 := K1.out.at (i := 2) rfl
  clear hb1
  have hz1 := B1.out.size
  go_wp2_with fail
  refine (eqIntS_any aA2 bA2 _ ac2 bc2 x.outs aL2 bL2 _ rfl (by omega) (SA2.out.below (by repeat (first | refine Below.setCell ?_ (by dsimp only; omega) _ | refine Below.alloc ?_ (by first | (simp; done) | (simp; omega) | omega) _ | exact B1.out))) (SB2.out.below (by repeat (first | refine Below.setCell ?_ (by dsimp only; omega) _ | refine Below.alloc ?_ (by first | (simp; done) | (simp; omega) | omega) _ | exact B1.out)))).mono ?_
  rintro e w2 ⟨rfl, hb2⟩
  have B2 : Hid (Below w.heap.size w w2) := Below.trans (by repeat (first | refine Below.setCell ?_ (by dsimp only; omega) _ | refine Below.alloc ?_ (by first | (simp; done) | (simp; omega) | omega) _ | exact B1.out)) (hb2.mono (by first | (simp; done) | (simp; omega) | omega))
  have K0 := Lib.hid (K0.out.later hb2)
  have K1 := Lib.hid (K1.out.later hb2)
  clear f0 r0 f1 r1 f2 r2
  have f0 := K0.out.at (i := 0) rfl
  have r0 := K1.out.at (i := 0) rfl
  have f1 := K0.out.at (i := 1) rfl
  have r1 := K1.out.at (i := 1) rfl
  have f2 := K0.out.at (i := 2) rfl
  have r2 := K1.out.at (i := 2) rfl
  clear hb2
  have hz2 := B2.out.size
  go_wp2_with fail
  go_ret
  exact ⟨rfl, (by repeat (first | refine Below.setCell ?_ (by dsimp only; omega) _ | refine Below.alloc ?_ (by first | (simp; done) | (simp; omega) | omega) _ | exact B2.out))⟩

set_option maxRecDepth 100000 in
set_option maxHeartbeats 1600000 in
theorem eqReasonS_any (A B : Option Addr) (n c d : Nat) (ds : List ReasonD) (L M : List Nat) (w : World) (hn : n = ds.length) (hm : n ≤ 9223372036854775807) (h1 : Sli cReason w A ds L) (h2 : Sli cReason w B ds M) :
    Calls Tryd.prog 74 #[.slice A n c, .slice B n d] w (TruePost w) := by
  have H1 := Lib.hid h1
  have H2 := Lib.hid h2
  have HN := Lib.hid hn
  clear h1 h2 hn
  have hne : ((n : Int) != n) = false := by simp
  go_enter Tryd.func74, Tryd.ntmps74
  go_wp2
  go_loopw [5] (fun i wr => ∃ (k : Nat), k ≤ n ∧ i = .int .i64 k ∧ Hid (Below w.heap.size w wr)) (fun i _ => n - (intOf i).toNat)
  case atStart => exact ⟨0, Nat.zero_le _, rfl, Below.refl _ _⟩
  case round =>
    obtain ⟨k, hk, rfl, HB⟩ := hrel
    by_cases hlt : k < n
    · have hkl : k < ds.length := by have := HN.out; omega
      obtain ⟨b, off, cs, Lk, rfl, hbL, hLk, hrep, hc⟩ := H1.out.at_ hkl
      obtain ⟨b', off', cs', Mk, rfl, hbM, hMk, hrep', hc'⟩ := H2.out.at_ hkl
      have hbl : b < w.heap.size := H1.out.lt b hbL
      have hbl' : b' < w.heap.size := H2.out.lt b' hbM
      have HR := Lib.hid (cReason.keep hrep (keep_below HB.out (fun y m => H1.out.lt y (hLk y m))))
      have HR' := Lib.hid (cReason.keep hrep' (keep_below HB.out (fun y m => H2.out.lt y (hMk y m))))
      generalize ds[k] = x at *
      obtain ⟨aA1, ac1, aA2, ac2, rfl⟩ := cReason_cells hrep
      obtain ⟨bA1, bc1, bA2, bc2, rfl⟩ := cReason_cells hrep'
      have q0 : wr.cell? ⟨b, off + k * 3, none⟩ = _ := (HB.out.cell (p := ⟨b, off + (k * 3 + 0), none⟩) hbl).trans (hc 0 _ rfl)
      have p0 : wr.cell? ⟨b', off' + k * 3, none⟩ = _ := (HB.out.cell (p := ⟨b', off' + (k * 3 + 0), none⟩) hbl').trans (hc' 0 _ rfl)
      have q1 : wr.cell? ⟨b, off + k * 3 + 1, none⟩ = _ := (HB.out.cell (p := ⟨b, off + (k * 3 + 1), none⟩) hbl).trans (hc 1 _ rfl)
      have p1 : wr.cell? ⟨b', off' + k * 3 + 1, none⟩ = _ := (HB.out.cell (p := ⟨b', off' + (k * 3 + 1), none⟩) hbl').trans (hc' 1 _ rfl)
      have q2 : wr.cell? ⟨b, off + k * 3 + 2, none⟩ = _ := (HB.out.cell (p := ⟨b, off + (k * 3 + 2), none⟩) hbl).trans (hc 2 _ rfl)
      have p2 : wr.cell? ⟨b', off' + k * 3 + 2, none⟩ = _ := (HB.out.cell (p := ⟨b', off' + (k * 3 + 2), none⟩) hbl').trans (hc' 2 _ rfl)
      clear hc hc' hrep hrep'
      have k0 : (0 : Int) ≤ k := by omega
      have k1 : (k : Int) < n := by omega
      go_wp2_with fail
      go_still_tail 8, (by kernel_rfl)
      change wpList _ _ _ _ _ wr.drew
      go_wp2_with (go_at_call 88; (refine (eqReason_any _ _ x Lk Mk wr.drew (cReason.keep HR.out (fun _ _ => rfl)) (cReason.keep HR'.out (fun _ _ => rfl))).mono ?_; rintro e w1 ⟨rfl, hb1⟩; have HB1 := Lib.hid (HB.out.drew.trans (hb1.mono HB.out.size)); clear hb1))
      go_roundw
      case rel => exact ⟨k + 1, by omega, by go_num, HB1.out⟩
      case measure => simp [intOf]; omega
    · go_wp2
      go_ret
      exact ⟨rfl, HB.out⟩

set_option maxHeartbeats 1600000 in
theorem eqBeliefs_any (cs ds : List Value) (x : BeliefsD) (L M : List Nat) (w : World) (h1 : cBeliefs.rep w cs x L) (h2 : cBeliefs.rep w ds x M) :
    Calls Tryd.prog 51 #[.agg cs.toArray, .agg ds.toArray] w (TruePost w) := by
  obtain ⟨aA1, ac1, aL1, rfl, _ahL, an1, am1, as1⟩ := h1
  obtain ⟨bA1, bc1, bL1, rfl, _bhL, bn1, bm1, bs1⟩ := h2
  unfold maxLen at am1 bm1
  have SA1 := Lib.hid as1
  have SB1 := Lib.hid bs1
  clear as1 bs1
  go_enter Tryd.func51, Tryd.ntmps51
  go_wp2_with fail
  refine (eqReasonS_any aA1 bA1 _ ac1 bc1 x.reasons aL1 bL1 _ rfl (by omega) (SA1.out.below (by repeat (first | refine Below.setCell ?_ (by dsimp only; omega) _ | refine Below.alloc ?_ (by first | (simp; done) | (simp; omega) | omega) _ | exact Below.refl _ _))) (SB1.out.below (by repeat (first | refine Below.setCell ?_ (by dsimp only; omega) _ | refine Below.alloc ?_ (by first | (simp; done) | (simp; omega) | omega) _ | exact Below.refl _ _)))).mono ?_
  rintro e w1 ⟨rfl, hb1⟩
  have B1 : Hid (Below w.heap.size w w1) := Below.trans (by repeat (first | refine Below.setCell ?_ (by dsimp only; omega) _ | refine Below.alloc ?_ (by first | (simp; done) | (simp; omega) | omega) _ | exact Below.refl _ _)) (hb1.mono (by first | (simp; done) | (simp; omega) | omega))
  have K0 : Hid (Blk w1 w.heap.size 52 #[.int .i64 x.nodes, .slice aA1 x.reasons.length ac1]) := Blk.later (Blk.alloc (Blk.new _ _ _) _) hb1
  have K1 : Hid (Blk w1 (w.heap.size + 1) 52 #[.int .i64 x.nodes, .slice bA1 x.reasons.length bc1]) := Blk.later (Blk.new_at (by simp)) hb1
  have f0 := K0.out.at (i := 0) rfl
  have r0 := K1.out.at (i := 0) rfl
  have f1 := K0.out.at (i := 1) rfl
  have r1 := K1.out.at (i := 1) rfl
  clear hb1
  have hz1 := B1.out.size
  go_wp2_with fail
  go_ret
  exact ⟨rfl, (by repeat (first | refine Below.setCell ?_ (by dsimp only; omega) _ | refine Below.alloc ?_ (by first | (simp; done) | (simp; omega) | omega) _ | exact B1.out))⟩

set_option maxHeartbeats 1600000 in
theorem eqFrame_any (cs ds : List Value) (x : FrameD) (L M : List Nat) (w : World) (h1 : cFrame.rep w cs x L) (h2 : cFrame.rep w ds x M) :
    Calls Tryd.prog 20 #[.agg cs.toArray, .agg ds.toArray] w (TruePost w) := by
  obtain ⟨aA1, ac1, aL1, aA2, ac2, aL2, aA3, ac3, aL3, rfl, _ahL, an1, am1, as1, an2, am2, as2, an3, am3, as3⟩ := h1
  obtain ⟨bA1, bc1, bL1, bA2, bc2, bL2, bA3, bc3, bL3, rfl, _bhL, bn1, bm1, bs1, bn2, bm2, bs2, bn3, bm3, bs3⟩ := h2
  unfold maxLen at am1 bm1 am2 bm2 am3 bm3
  have SA1 := Lib.hid as1
  have SB1 := Lib.hid bs1
  clear as1 bs1
  have SA2 := Lib.hid as2
  have SB2 := Lib.hid bs2
  clear as2 bs2
  have SA3 := Lib.hid as3
  have SB3 := Lib.hid bs3
  clear as3 bs3
  go_enter Tryd.func20, Tryd.ntmps20
  go_wp2_with fail
  refine (eqBeliefs_any [.int .i64 x.beliefs.nodes, .slice aA1 x.beliefs.reasons.length ac1] [.int .i64 x.beliefs.nodes, .slice bA1 x.beliefs.reasons.length bc1] x.beliefs _ _ _ ⟨aA1, ac1, aL1, rfl, rfl, an1, (by unfold maxLen; omega), SA1.out.below (by repeat (first | refine Below.setCell ?_ (by dsimp only; omega) _ | refine Below.alloc ?_ (by first | (simp; done) | (simp; omega) | omega) _ | exact Below.refl _ _))⟩ ⟨bA1, bc1, bL1, rfl, rfl, bn1, (by unfold maxLen; omega), SB1.out.below (by repeat (first | refine Below.setCell ?_ (by dsimp only; omega) _ | refine Below.alloc ?_ (by first | (simp; done) | (simp; omega) | omega) _ | exact Below.refl _ _))⟩).mono ?_
  rintro e w1 ⟨rfl, hb1⟩
  have B1 : Hid (Below w.heap.size w w1) := Below.trans (by repeat (first | refine Below.setCell ?_ (by dsimp only; omega) _ | refine Below.alloc ?_ (by first | (simp; done) | (simp; omega) | omega) _ | exact Below.refl _ _)) (hb1.mono (by first | (simp; done) | (simp; omega) | omega))
  have K0 : Hid (Blk w1 w.heap.size 54 #[.int .i64 x.beliefs.nodes, .slice aA1 x.beliefs.reasons.length ac1, .slice aA2 x.assumed.length ac2, .slice aA3 x.bad.length ac3]) := Blk.later (Blk.alloc (Blk.new _ _ _) _) hb1
  have K1 : Hid (Blk w1 (w.heap.size + 1) 54 #[.int .i64 x.beliefs.nodes, .slice bA1 x.beliefs.reasons.length bc1, .slice bA2 x.assumed.length bc2, .slice bA3 x.bad.length bc3]) := Blk.later (Blk.new_at (by simp)) hb1
  have f0 := K0.out.at (i := 0) rfl
  have r0 := K1.out.at (i := 0) rfl
  have f1 := K0.out.at (i := 1) rfl
  have r1 := K1.out.at (i := 1) rfl
  have f2 := K0.out.at (i := 2) rfl
  have r2 := K1.out.at (i := 2) rfl
  have f3 := K0.out.at (i := 3) rfl
  have r3 := K1.out.at (i := 3) rfl
  clear hb1
  have hz1 := B1.out.size
  go_wp2_with fail
  refine (eqIntS_any aA2 bA2 _ ac2 bc2 x.assumed aL2 bL2 _ rfl (by omega) (SA2.out.below (by repeat (first | refine Below.setCell ?_ (by dsimp only; omega) _ | refine Below.alloc ?_ (by first | (simp; done) | (simp; omega) | omega) _ | exact B1.out))) (SB2.out.below (by repeat (first | refine Below.setCell ?_ (by dsimp only; omega) _ | refine Below.alloc ?_ (by first | (simp; done) | (simp; omega) | omega) _ | exact B1.out)))).mono ?_
  rintro e w2 ⟨rfl, hb2⟩
  have B2 : Hid (Below w.heap.size w w2) := Below.trans (by repeat (first | refine Below.setCell ?_ (by dsimp only; omega) _ | refine Below.alloc ?_ (by first | (simp; done) | (simp; omega) | omega) _ | exact B1.out)) (hb2.mono (by first | (simp; done) | (simp; omega) | omega))
  have K0 := Lib.hid (K0.out.later hb2)
  have K1 := Lib.hid (K1.out.later hb2)
  clear f0 r0 f1 r1 f2 r2 f3 r3
  have f0 := K0.out.at (i := 0) rfl
  have r0 := K1.out.at (i := 0) rfl
  have f1 := K0.out.at (i := 1) rfl
  have r1 := K1.out.at (i := 1) rfl
  have f2 := K0.out.at (i := 2) rfl
  have r2 := K1.out.at (i := 2) rfl
  have f3 := K0.out.at (i := 3) rfl
  have r3 := K1.out.at (i := 3) rfl
  clear hb2
  have hz2 := B2.out.size
  go_wp2_with fail
  refine (eqIntS_any aA3 bA3 _ ac3 bc3 x.bad aL3 bL3 _ rfl (by omega) (SA3.out.below (by repeat (first | refine Below.setCell ?_ (by dsimp only; omega) _ | refine Below.alloc ?_ (by first | (simp; done) | (simp; omega) | omega) _ | exact B2.out))) (SB3.out.below (by repeat (first | refine Below.setCell ?_ (by dsimp only; omega) _ | refine Below.alloc ?_ (by first | (simp; done) | (simp; omega) | omega) _ | exact B2.out)))).mono ?_
  rintro e w3 ⟨rfl, hb3⟩
  have B3 : Hid (Below w.heap.size w w3) := Below.trans (by repeat (first | refine Below.setCell ?_ (by dsimp only; omega) _ | refine Below.alloc ?_ (by first | (simp; done) | (simp; omega) | omega) _ | exact B2.out)) (hb3.mono (by first | (simp; done) | (simp; omega) | omega))
  have K0 := Lib.hid (K0.out.later hb3)
  have K1 := Lib.hid (K1.out.later hb3)
  clear f0 r0 f1 r1 f2 r2 f3 r3
  have f0 := K0.out.at (i := 0) rfl
  have r0 := K1.out.at (i := 0) rfl
  have f1 := K0.out.at (i := 1) rfl
  have r1 := K1.out.at (i := 1) rfl
  have f2 := K0.out.at (i := 2) rfl
  have r2 := K1.out.at (i := 2) rfl
  have f3 := K0.out.at (i := 3) rfl
  have r3 := K1.out.at (i := 3) rfl
  clear hb3
  have hz3 := B3.out.size
  go_wp2_with fail
  go_ret
  exact ⟨rfl, (by repeat (first | refine Below.setCell ?_ (by dsimp only; omega) _ | refine Below.alloc ?_ (by first | (simp; done) | (simp; omega) | omega) _ | exact B3.out))⟩

end Go.Proofs.YtppjenkjopjeiaaDoor

namespace Go.Proofs.YtppjenkjopjeiaaDoor
open Go.RowKit Go.Deep

def Opens {α : Type} (P : Program) (t : TypeId) (c : Codec α) (wf : α → Prop) : Prop :=
  ∀ {H : Type} {enc : TypeId × Value → H} {w : World} {base : Nat} {spare : Nat → Bool} {held : Bool} {fuel : Nat} {cs : List Value} {x : DataW H × List MemPlace},
    DataW.trod enc P w base spare held fuel t cs = some x → ∃ d L, c.rep w cs d L ∧ wf d

theorem opens_int {P : Program} {t : TypeId} (ht : P.underlying t = some (.int .i64)) : Opens P t intC wfInt := by
  intro H enc w base spare held fuel cs x h
  obtain ⟨n, rfl, _, hw⟩ := DataW.trod_int ht h
  refine ⟨n, [], ⟨rfl, rfl⟩, ?_⟩
  simp [Lit.wf, IntKind.min, IntKind.max, IntKind.signed, IntKind.bits] at hw
  exact ⟨by omega, by omega⟩
theorem opens_slice {α : Type} {c : Codec α} {wf : α → Prop} {P : Program} {t e : TypeId} (ht : P.underlying t = some (.slice e)) (hc : P.cellsOf e = c.size) (ho : Opens P e c wf) : Opens P t (sliceC c) (fun ds => ∀ d ∈ ds, wf d) := by
  intro H enc w base spare held fuel cs x h
  rcases open_slice ht h with ⟨rfl, _⟩ | ⟨a, len, cap, m, n, D, Pl, rfl, hb, hl, hm, hmm, _, hx⟩
  · exact ⟨[], [], ⟨none, 0, rfl, Nat.le_refl _, Nat.zero_le _, Sli.nil _ _⟩, by simp⟩
  · have hlm : len ≤ m := by rw [hmm]; split <;> omega
    have key : ∀ q, q ≤ len → ∃ (xs : List Value) (ds : List α) (L : List Nat), ds.length = q ∧ (∀ j u, xs[j]? = some u → w.cell? (a.add j) = some u) ∧ c.reps w xs ds L ∧ ∀ d ∈ ds, wf d := by
      intro q
      induction q with
      | zero => exact fun _ => ⟨[], [], [], rfl, by simp, ⟨rfl, rfl⟩, by simp⟩
      | succ q ih =>
        intro hq
        obtain ⟨xs, ds, L, hd, hcell, hr, hwf⟩ := ih (by omega)
        obtain ⟨cs', h1, h2⟩ := hx q (by omega)
        obtain ⟨d, Lq, hrep, hwd⟩ := ho h2
        obtain ⟨_, hlen, hat⟩ := World.cells?_some h1
        refine ⟨xs ++ cs', ds ++ [d], L ++ Lq, by simp [hd], fun j u hu => ?_, reps_append hr (reps_one_of hrep), ?_⟩
        · have hxl : xs.length = q * c.size := by rw [reps_len hr, hd]
          rw [List.getElem?_append] at hu
          split at hu
          · exact hcell j u hu
          · rename_i hj
            have hj2 := (List.getElem?_eq_some_iff.1 hu).1
            have := hat (j - xs.length) (by omega)
            rw [← hu, ← this, Go.Deep.add_add, hc, ← hxl]
            congr 2
            omega
        · intro y hy
          rcases List.mem_append.1 hy with hy | hy
          · exact hwf y hy
          · simp at hy; subst hy; exact hwd
    obtain ⟨xs, ds, L, hd, hcell, hr, hwf⟩ := key len (Nat.le_refl _)
    have hxl := reps_len hr
    rcases Nat.eq_zero_or_pos len with h0 | h0
    · have : ds = [] := List.eq_nil_of_length_eq_zero (by omega)
      subst this
      refine ⟨[], [], ⟨some a, cap, by simp at hd; rw [← hd]; rfl, by simp, hm, Sli.nil _ _⟩, by simp⟩
    · obtain ⟨b, off, sp⟩ := a
      have hp : 0 < xs.length := by rw [hxl, hd]; exact Nat.mul_pos h0 c.pos
      have hsp : sp = none := by
        have h1 := hcell 0 _ (List.getElem?_eq_getElem hp)
        have e : (⟨b, off, sp⟩ : Addr).add 0 = ⟨b, off, sp⟩ := by simp [Addr.add]
        rw [e] at h1
        cases sp with
        | none => rfl
        | some q =>
          simp only [World.cell?] at h1
          split at h1 <;> simp at h1
      subst hsp
      refine ⟨ds, [b] ++ L, ⟨some ⟨b, off, none⟩, cap, by rw [hd], by omega, hm, xs, [b], L, rfl, ⟨by rw [hxl], .inr ⟨by omega, b, off, rfl, rfl, fun j u hu => ?_⟩⟩, hr⟩, hwf⟩
      have := hcell j u hu
      rwa [add_lit0] at this

end Go.Proofs.YtppjenkjopjeiaaDoor

namespace Go.Proofs.YtppjenkjopjeiaaDoor
open Go.RowKit

theorem below_of_drew0 {w w1 : World} {B : Nat} (h : Below w.drew.heap.size w.drew w1) (hB : B ≤ w.heap.size) : Below B w w1 := ⟨h.os, h.tape, h.output, h.size, fun k hk => h.block k (Nat.lt_of_lt_of_le hk hB)⟩

theorem sSetText_std {aF : FrameD} {aSet : Int} {r : ByteArray} (hh : s_SetText aF aSet = some r) (w : World) (hj : J0 w) (qaF : List Value) (LaF : List Nat) (haF : cFrame.rep w qaF aF LaF) :
    Calls Tryd.prog 17 #[.agg qaF.toArray, .int .i64 aSet] w (fun e w' => e = .returned (.string r) ∧ Below w.heap.size w w') :=
  Sound.givesT (s_SetText_ok hh) hj (vs := [_, _]) ⟨arg_agg encFrame haF, arg_int _ _, trivial⟩

theorem iSetText_std {aF : FrameD} {aSet : Int} {r : ByteArray} (hh : i_SetText aF aSet = some r) (w : World) (hj : J0 w) (qaF : List Value) (LaF : List Nat) (haF : cFrame.rep w qaF aF LaF) :
    Calls Tryd.prog 19 #[.agg qaF.toArray, .int .i64 aSet] w (fun e w' => e = .returned (.string r) ∧ Below w.heap.size w w') :=
  Sound.givesT (i_SetText_ok hh) hj (vs := [_, _]) ⟨arg_agg encFrame haF, arg_int _ _, trivial⟩

set_option maxRecDepth 100000 in
set_option maxHeartbeats 8000000 in
theorem FnExactSetText_walk (w : World) (hJ : J0 w) (cs_aF : List Value) (aF : FrameD) (L_aF : List Nat) (h_aF : cFrame.rep w cs_aF aF L_aF) (aSet : Int) (wf_aSet : wfInt aSet) (wf_aF : wfFrame aF) :
    Calls Tryd.prog 5 #[.agg cs_aF.toArray, .int .i64 aSet] w fun e w' => e = .returned (.bool true) ∧ Below w.heap.size w w' := by
  have HJ := Lib.hid hJ
  clear hJ
  have H_aF := Lib.hid h_aF
  clear h_aF
  obtain ⟨aF_A1, aF_c1, aF_A2, aF_c2, aF_A3, aF_c3, rfl⟩ := cFrame_cells H_aF.out
  have B0 : Hid (Below w.heap.size w (w.alloc (.cells #[.int .i64 aF.beliefs.nodes, .slice aF_A1 aF.beliefs.reasons.length aF_c1, .slice aF_A2 aF.assumed.length aF_c2, .slice aF_A3 aF.bad.length aF_c3] 47))) := (Below.alloc (Below.refl _ _) (Nat.le_refl _) _)
  have sz0 : w.heap.size + 1 ≤ ((w.alloc (.cells #[.int .i64 aF.beliefs.nodes, .slice aF_A1 aF.beliefs.reasons.length aF_c1, .slice aF_A2 aF.assumed.length aF_c2, .slice aF_A3 aF.bad.length aF_c3] 47))).heap.size := Nat.le_of_eq (by simp only [World.alloc, Array.size_push])
  have K_aF : Hid (Blk (w.alloc (.cells #[.int .i64 aF.beliefs.nodes, .slice aF_A1 aF.beliefs.reasons.length aF_c1, .slice aF_A2 aF.assumed.length aF_c2, .slice aF_A3 aF.bad.length aF_c3] 47)) (w.heap.size) 47 #[.int .i64 aF.beliefs.nodes, .slice aF_A1 aF.beliefs.reasons.length aF_c1, .slice aF_A2 aF.assumed.length aF_c2, .slice aF_A3 aF.bad.length aF_c3]) := (Blk.new _ _ _)
  go_enter Tryd.func5, Tryd.ntmps5
  go_wp2_with fail
  refine (szFrame_any [.int .i64 aF.beliefs.nodes, .slice aF_A1 aF.beliefs.reasons.length aF_c1, .slice aF_A2 aF.assumed.length aF_c2, .slice aF_A3 aF.bad.length aF_c3] aF L_aF _ _ (by omega) (by omega) (cFrame.keep H_aF.out (keep_below B0.out (cFrame.lt H_aF.out)))).mono ?_
  rintro e w1 ⟨rfl, hb⟩
  have B1 := Lib.hid (B0.out.trans (hb.mono B0.out.size))
  have sz1 := hb.size
  have K_aF := Lib.hid (K_aF.out.later hb)
  have f_aF_0 := K_aF.out.at (i := 0) rfl
  have f_aF_1 := K_aF.out.at (i := 1) rfl
  have f_aF_2 := K_aF.out.at (i := 2) rfl
  have f_aF_3 := K_aF.out.at (i := 3) rfl
  clear hb
  by_cases cc_aF : ((costFrame aF : Nat) : Int) ≤ 1048576
  rotate_left
  · rw [szR_neg cc_aF]
    go_wp2
    go_ret
    exact ⟨rfl, B1.out⟩
  rw [szR_pos cc_aF]
  have cz_aF : costFrame aF ≤ 1048576 := by omega
  have nn_aF : ¬ (1048576 - ((costFrame aF : Nat) : Int) < 0) := by omega
  obtain ⟨R0, hs0, hi0⟩ := SetText_plain aF cz_aF wf_aF aSet wf_aSet
  go_wp2_with fail
  refine (toFrame_any [.int .i64 aF.beliefs.nodes, .slice aF_A1 aF.beliefs.reasons.length aF_c1, .slice aF_A2 aF.assumed.length aF_c2, .slice aF_A3 aF.bad.length aF_c3] aF L_aF _ cz_aF (cFrame.keep H_aF.out (keep_below B1.out (cFrame.lt H_aF.out)))).mono ?_
  rintro e w2 ⟨cs, L_t1aF, rfl, gt, hb⟩
  obtain ⟨t1aF_A1, t1aF_c1, t1aF_A2, t1aF_c2, t1aF_A3, t1aF_c3, rfl⟩ := cFrame_cells gt.rep
  have B2 := Lib.hid (B1.out.trans (hb.mono B1.out.size))
  have sz2 := hb.size
  have K_aF := Lib.hid (K_aF.out.later hb)
  clear f_aF_0 f_aF_1 f_aF_2 f_aF_3
  have f_aF_0 := K_aF.out.at (i := 0) rfl
  have f_aF_1 := K_aF.out.at (i := 1) rfl
  have f_aF_2 := K_aF.out.at (i := 2) rfl
  have f_aF_3 := K_aF.out.at (i := 3) rfl
  clear B1
  have V_t1aF := Lib.hid gt
  have ge_t1aF := Lib.hid gt.own.ge
  have lt_t1aF := Lib.hid gt.lt
  clear gt hb
  go_wp2_with fail
  refine (sSetText_std hs0 _ (jok_below hJ0 HJ.out B2.out) [.int .i64 aF.beliefs.nodes, .slice t1aF_A1 aF.beliefs.reasons.length t1aF_c1, .slice t1aF_A2 aF.assumed.length t1aF_c2, .slice t1aF_A3 aF.bad.length t1aF_c3] L_t1aF V_t1aF.out.rep).mono ?_
  rintro e w3 ⟨rfl, hb⟩
  have B3 := Lib.hid (B2.out.trans (hb.mono B2.out.size))
  have sz3 := hb.size
  have V_t1aF := Lib.hid (V_t1aF.out.later hb)
  have K_aF := Lib.hid (K_aF.out.later hb)
  clear f_aF_0 f_aF_1 f_aF_2 f_aF_3
  have f_aF_0 := K_aF.out.at (i := 0) rfl
  have f_aF_1 := K_aF.out.at (i := 1) rfl
  have f_aF_2 := K_aF.out.at (i := 2) rfl
  have f_aF_3 := K_aF.out.at (i := 3) rfl
  clear B2
  clear hb
  clear V_t1aF
  go_wp2_with fail
  refine (toFrame_any [.int .i64 aF.beliefs.nodes, .slice aF_A1 aF.beliefs.reasons.length aF_c1, .slice aF_A2 aF.assumed.length aF_c2, .slice aF_A3 aF.bad.length aF_c3] aF L_aF _ cz_aF (cFrame.keep H_aF.out (keep_below B3.out (cFrame.lt H_aF.out)))).mono ?_
  rintro e w4 ⟨cs, L_x0, rfl, gt, hb⟩
  obtain ⟨x0_A1, x0_c1, x0_A2, x0_c2, x0_A3, x0_c3, rfl⟩ := cFrame_cells gt.rep
  have B4 := Lib.hid (B3.out.trans (hb.mono B3.out.size))
  have sz4 := hb.size
  have K_aF := Lib.hid (K_aF.out.later hb)
  clear f_aF_0 f_aF_1 f_aF_2 f_aF_3
  have f_aF_0 := K_aF.out.at (i := 0) rfl
  have f_aF_1 := K_aF.out.at (i := 1) rfl
  have f_aF_2 := K_aF.out.at (i := 2) rfl
  have f_aF_3 := K_aF.out.at (i := 3) rfl
  clear B3
  have V_x0 := Lib.hid gt
  have ge_x0 := Lib.hid gt.own.ge
  have lt_x0 := Lib.hid gt.lt
  clear gt hb
  have hb := (Below.refl w4.heap.size w4).alloc (Nat.le_refl _) (.cells #[.int .i64 aF.beliefs.nodes, .slice x0_A1 aF.beliefs.reasons.length x0_c1, .slice x0_A2 aF.assumed.length x0_c2, .slice x0_A3 aF.bad.length x0_c3] 54)
  have B5 := Lib.hid (B4.out.trans (hb.mono B4.out.size))
  have sz5 := hb.size
  have V_x0 := Lib.hid (V_x0.out.later hb)
  have K_aF := Lib.hid (K_aF.out.later hb)
  clear f_aF_0 f_aF_1 f_aF_2 f_aF_3
  have f_aF_0 := K_aF.out.at (i := 0) rfl
  have f_aF_1 := K_aF.out.at (i := 1) rfl
  have f_aF_2 := K_aF.out.at (i := 2) rfl
  have f_aF_3 := K_aF.out.at (i := 3) rfl
  clear B4
  have szb_x0 : w4.heap.size + 1 ≤ (w4.alloc (.cells #[.int .i64 aF.beliefs.nodes, .slice x0_A1 aF.beliefs.reasons.length x0_c1, .slice x0_A2 aF.assumed.length x0_c2, .slice x0_A3 aF.bad.length x0_c3] 54)).heap.size := Nat.le_of_eq (by simp only [World.alloc, Array.size_push])
  have K_x0 : Hid (Blk (w4.alloc (.cells #[.int .i64 aF.beliefs.nodes, .slice x0_A1 aF.beliefs.reasons.length x0_c1, .slice x0_A2 aF.assumed.length x0_c2, .slice x0_A3 aF.bad.length x0_c3] 54)) w4.heap.size 54 #[.int .i64 aF.beliefs.nodes, .slice x0_A1 aF.beliefs.reasons.length x0_c1, .slice x0_A2 aF.assumed.length x0_c2, .slice x0_A3 aF.bad.length x0_c3]) := Blk.new _ _ _
  have f_x0_0 := K_x0.out.at (i := 0) rfl
  have f_x0_1 := K_x0.out.at (i := 1) rfl
  have f_x0_2 := K_x0.out.at (i := 2) rfl
  have f_x0_3 := K_x0.out.at (i := 3) rfl
  clear hb
  go_wp2_with fail
  refine (iSetText_std hi0 _ (jok_below hJ0 HJ.out B5.out) [.int .i64 aF.beliefs.nodes, .slice x0_A1 aF.beliefs.reasons.length x0_c1, .slice x0_A2 aF.assumed.length x0_c2, .slice x0_A3 aF.bad.length x0_c3] L_x0 V_x0.out.rep).mono ?_
  rintro e w6 ⟨rfl, hb⟩
  have B6 := Lib.hid (B5.out.trans (hb.mono B5.out.size))
  have sz6 := hb.size
  have V_x0 := Lib.hid (V_x0.out.later hb)
  have K_aF := Lib.hid (K_aF.out.later hb)
  clear f_aF_0 f_aF_1 f_aF_2 f_aF_3
  have f_aF_0 := K_aF.out.at (i := 0) rfl
  have f_aF_1 := K_aF.out.at (i := 1) rfl
  have f_aF_2 := K_aF.out.at (i := 2) rfl
  have f_aF_3 := K_aF.out.at (i := 3) rfl
  have K_x0 := Lib.hid (K_x0.out.later hb)
  clear f_x0_0 f_x0_1 f_x0_2 f_x0_3
  have f_x0_0 := K_x0.out.at (i := 0) rfl
  have f_x0_1 := K_x0.out.at (i := 1) rfl
  have f_x0_2 := K_x0.out.at (i := 2) rfl
  have f_x0_3 := K_x0.out.at (i := 3) rfl
  clear B5
  clear hb
  have hne : True := trivial
  go_wp2_with fail
  go_region_held3 (fun W => W.cell? ⟨w4.heap.size, 0, none⟩ = some (.int .i64 aF.beliefs.nodes) ∧ W.cell? ⟨w4.heap.size, 1, none⟩ = some (.slice x0_A1 aF.beliefs.reasons.length x0_c1) ∧ W.cell? ⟨w4.heap.size, 2, none⟩ = some (.slice x0_A2 aF.assumed.length x0_c2) ∧ W.cell? ⟨w4.heap.size, 3, none⟩ = some (.slice x0_A3 aF.bad.length x0_c3) ∧ W.cell? ⟨w.heap.size, 0, none⟩ = some (.int .i64 aF.beliefs.nodes) ∧ W.cell? ⟨w.heap.size, 1, none⟩ = some (.slice aF_A1 aF.beliefs.reasons.length aF_c1) ∧ W.cell? ⟨w.heap.size, 2, none⟩ = some (.slice aF_A2 aF.assumed.length aF_c2) ∧ W.cell? ⟨w.heap.size, 3, none⟩ = some (.slice aF_A3 aF.bad.length aF_c3)) (first | exact ⟨f_x0_0, f_x0_1, f_x0_2, f_x0_3, f_aF_0, f_aF_1, f_aF_2, f_aF_3⟩ | exact ⟨r_x0_0, r_x0_1, r_x0_2, r_x0_3, r_aF_0, r_aF_1, r_aF_2, r_aF_3⟩) (first | (go_at_call 18; refine (toFrame_any [.int .i64 aF.beliefs.nodes, .slice aF_A1 aF.beliefs.reasons.length aF_c1, .slice aF_A2 aF.assumed.length aF_c2, .slice aF_A3 aF.bad.length aF_c3] aF L_aF _ cz_aF (cFrame.keep H_aF.out (keep_below B6.out.drew (cFrame.lt H_aF.out)))).mono ?_; rintro e w7 ⟨cs, L_t6aF, rfl, gt, hb⟩; obtain ⟨t6aF_A1, t6aF_c1, t6aF_A2, t6aF_c2, t6aF_A3, t6aF_c3, rfl⟩ := cFrame_cells gt.rep; replace hb := below_of_drew0 hb (Nat.le_refl _); have KA := K_aF.out.later hb; have KX := K_x0.out.later hb; have r_x0_0 := KX.at (i := 0) rfl; have r_x0_1 := KX.at (i := 1) rfl; have r_x0_2 := KX.at (i := 2) rfl; have r_x0_3 := KX.at (i := 3) rfl; have r_aF_0 := KA.at (i := 0) rfl; have r_aF_1 := KA.at (i := 1) rfl; have r_aF_2 := KA.at (i := 2) rfl; have r_aF_3 := KA.at (i := 3) rfl) | (go_at_call 20; refine (eqFrame_any [.int .i64 aF.beliefs.nodes, .slice x0_A1 aF.beliefs.reasons.length x0_c1, .slice x0_A2 aF.assumed.length x0_c2, .slice x0_A3 aF.bad.length x0_c3] [.int .i64 aF.beliefs.nodes, .slice t6aF_A1 aF.beliefs.reasons.length t6aF_c1, .slice t6aF_A2 aF.assumed.length t6aF_c2, .slice t6aF_A3 aF.bad.length t6aF_c3] aF L_x0 L_t6aF _ (V_x0.out.later hb).rep gt.rep).mono ?_; rintro e w8 ⟨rfl, hb2⟩; have KX2 := KX.later hb2; have KA2 := KA.later hb2; replace r_x0_0 := KX2.at (i := 0) rfl; replace r_x0_1 := KX2.at (i := 1) rfl; replace r_x0_2 := KX2.at (i := 2) rfl; replace r_x0_3 := KX2.at (i := 3) rfl; replace r_aF_0 := KA2.at (i := 0) rfl; replace r_aF_1 := KA2.at (i := 1) rfl; replace r_aF_2 := KA2.at (i := 2) rfl; replace r_aF_3 := KA2.at (i := 3) rfl))
  clear KA KX KA2 KX2 r_x0_0 r_x0_1 r_x0_2 r_x0_3 r_aF_0 r_aF_1 r_aF_2 r_aF_3
  have B7 := Lib.hid (B6.out.trans (hb.mono B6.out.size))
  have sz7 := hb.size
  have V_x0 := Lib.hid (V_x0.out.later hb)
  have K_aF := Lib.hid (K_aF.out.later hb)
  clear f_aF_0 f_aF_1 f_aF_2 f_aF_3
  have f_aF_0 := K_aF.out.at (i := 0) rfl
  have f_aF_1 := K_aF.out.at (i := 1) rfl
  have f_aF_2 := K_aF.out.at (i := 2) rfl
  have f_aF_3 := K_aF.out.at (i := 3) rfl
  have K_x0 := Lib.hid (K_x0.out.later hb)
  clear f_x0_0 f_x0_1 f_x0_2 f_x0_3
  have f_x0_0 := K_x0.out.at (i := 0) rfl
  have f_x0_1 := K_x0.out.at (i := 1) rfl
  have f_x0_2 := K_x0.out.at (i := 2) rfl
  have f_x0_3 := K_x0.out.at (i := 3) rfl
  clear B6
  clear hb gt
  have B8 := Lib.hid (B7.out.trans (hb2.mono B7.out.size))
  have sz8 := hb2.size
  have V_x0 := Lib.hid (V_x0.out.later hb2)
  have K_aF := Lib.hid (K_aF.out.later hb2)
  clear f_aF_0 f_aF_1 f_aF_2 f_aF_3
  have f_aF_0 := K_aF.out.at (i := 0) rfl
  have f_aF_1 := K_aF.out.at (i := 1) rfl
  have f_aF_2 := K_aF.out.at (i := 2) rfl
  have f_aF_3 := K_aF.out.at (i := 3) rfl
  have K_x0 := Lib.hid (K_x0.out.later hb2)
  clear f_x0_0 f_x0_1 f_x0_2 f_x0_3
  have f_x0_0 := K_x0.out.at (i := 0) rfl
  have f_x0_1 := K_x0.out.at (i := 1) rfl
  have f_x0_2 := K_x0.out.at (i := 2) rfl
  have f_x0_3 := K_x0.out.at (i := 3) rfl
  clear B7
  clear hb2
  go_wp2_with fail
  go_ret
  exact ⟨rfl, B8.out⟩

end Go.Proofs.YtppjenkjopjeiaaDoor

namespace Go.Proofs.YtppjenkjopjeiaaDoor
open Go.RowKit

set_option maxRecDepth 100000 in
theorem opensReason : Opens Tryd.prog 104 cReason wfReason := by
  intro H enc w base spare held fuel cs x h
  obtain ⟨xs, n, _, _, hlen, hxl, hf⟩ := DataW.trod_struct Tryd.underlying104 h
  have hl : cs.length = 3 := hlen.trans (by kernel_rfl)
  have hx : xs.length = 3 := hxl
  match cs, hl with
  | [a0, a1, a2], _ =>
    have f0 : DataW.trod enc Tryd.prog w base spare held n 3 [a0] = some (xs[0]'(by omega)) := by
      have this : DataW.trod enc Tryd.prog w base spare held n 3 (List.take (Tryd.prog.cellsOf 3) (List.drop 0 [a0, a1, a2])) = _ := (hf 0 _ rfl).trans (List.getElem?_eq_getElem (show 0 < xs.length by omega))
      rw [show Tryd.prog.cellsOf 3 = 1 by kernel_rfl] at this
      exact this
    have f1 : DataW.trod enc Tryd.prog w base spare held n 32 [a1] = some (xs[1]'(by omega)) := by
      have this : DataW.trod enc Tryd.prog w base spare held n 32 (List.take (Tryd.prog.cellsOf 32) (List.drop 1 [a0, a1, a2])) = _ := (hf 1 _ rfl).trans (List.getElem?_eq_getElem (show 1 < xs.length by omega))
      rw [show Tryd.prog.cellsOf 32 = 1 by kernel_rfl] at this
      exact this
    have f2 : DataW.trod enc Tryd.prog w base spare held n 32 [a2] = some (xs[2]'(by omega)) := by
      have this : DataW.trod enc Tryd.prog w base spare held n 32 (List.take (Tryd.prog.cellsOf 32) (List.drop 2 [a0, a1, a2])) = _ := (hf 2 _ rfl).trans (List.getElem?_eq_getElem (show 2 < xs.length by omega))
      rw [show Tryd.prog.cellsOf 32 = 1 by kernel_rfl] at this
      exact this
    obtain ⟨d0, M0, r0, w0⟩ := (opens_int Tryd.underlying3) f0
    obtain ⟨e0, _⟩ := r0
    cases e0
    obtain ⟨d1, M1, r1, w1⟩ := (opens_slice Tryd.underlying32 (by kernel_rfl) (opens_int Tryd.underlying3)) f1
    obtain ⟨A1, c1, e1, n1, m1, s1⟩ := r1
    cases e1
    obtain ⟨d2, M2, r2, w2⟩ := (opens_slice Tryd.underlying32 (by kernel_rfl) (opens_int Tryd.underlying3)) f2
    obtain ⟨A2, c2, e2, n2, m2, s2⟩ := r2
    cases e2
    exact ⟨⟨d0, d1, d2⟩, _, ⟨A1, c1, M1, A2, c2, M2, rfl, rfl, n1, m1, s1, n2, m2, s2⟩, ⟨w0, w1, w2⟩⟩

set_option maxRecDepth 100000 in
theorem opensBeliefs : Opens Tryd.prog 45 cBeliefs wfBeliefs := by
  intro H enc w base spare held fuel cs x h
  obtain ⟨xs, n, _, _, hlen, hxl, hf⟩ := DataW.trod_struct Tryd.underlying45 h
  have hl : cs.length = 2 := hlen.trans (by kernel_rfl)
  have hx : xs.length = 2 := hxl
  match cs, hl with
  | [a0, a1], _ =>
    have f0 : DataW.trod enc Tryd.prog w base spare held n 3 [a0] = some (xs[0]'(by omega)) := by
      have this : DataW.trod enc Tryd.prog w base spare held n 3 (List.take (Tryd.prog.cellsOf 3) (List.drop 0 [a0, a1])) = _ := (hf 0 _ rfl).trans (List.getElem?_eq_getElem (show 0 < xs.length by omega))
      rw [show Tryd.prog.cellsOf 3 = 1 by kernel_rfl] at this
      exact this
    have f1 : DataW.trod enc Tryd.prog w base spare held n 43 [a1] = some (xs[1]'(by omega)) := by
      have this : DataW.trod enc Tryd.prog w base spare held n 43 (List.take (Tryd.prog.cellsOf 43) (List.drop 1 [a0, a1])) = _ := (hf 1 _ rfl).trans (List.getElem?_eq_getElem (show 1 < xs.length by omega))
      rw [show Tryd.prog.cellsOf 43 = 1 by kernel_rfl] at this
      exact this
    obtain ⟨d0, M0, r0, w0⟩ := (opens_int Tryd.underlying3) f0
    obtain ⟨e0, _⟩ := r0
    cases e0
    obtain ⟨d1, M1, r1, w1⟩ := (opens_slice Tryd.underlying43 (by kernel_rfl) opensReason) f1
    obtain ⟨A1, c1, e1, n1, m1, s1⟩ := r1
    cases e1
    exact ⟨⟨d0, d1⟩, _, ⟨A1, c1, M1, rfl, rfl, n1, m1, s1⟩, ⟨w0, w1⟩⟩

set_option maxRecDepth 100000 in
theorem opensFrame : Opens Tryd.prog 47 cFrame wfFrame := by
  intro H enc w base spare held fuel cs x h
  obtain ⟨xs, n, _, _, hlen, hxl, hf⟩ := DataW.trod_struct Tryd.underlying47 h
  have hl : cs.length = 4 := hlen.trans (by kernel_rfl)
  have hx : xs.length = 3 := hxl
  match cs, hl with
  | [a0, a1, a2, a3], _ =>
    have f0 : DataW.trod enc Tryd.prog w base spare held n 45 [a0, a1] = some (xs[0]'(by omega)) := by
      have this : DataW.trod enc Tryd.prog w base spare held n 45 (List.take (Tryd.prog.cellsOf 45) (List.drop 0 [a0, a1, a2, a3])) = _ := (hf 0 _ rfl).trans (List.getElem?_eq_getElem (show 0 < xs.length by omega))
      rw [show Tryd.prog.cellsOf 45 = 2 by kernel_rfl] at this
      exact this
    have f1 : DataW.trod enc Tryd.prog w base spare held n 32 [a2] = some (xs[1]'(by omega)) := by
      have this : DataW.trod enc Tryd.prog w base spare held n 32 (List.take (Tryd.prog.cellsOf 32) (List.drop 2 [a0, a1, a2, a3])) = _ := (hf 1 _ rfl).trans (List.getElem?_eq_getElem (show 1 < xs.length by omega))
      rw [show Tryd.prog.cellsOf 32 = 1 by kernel_rfl] at this
      exact this
    have f2 : DataW.trod enc Tryd.prog w base spare held n 32 [a3] = some (xs[2]'(by omega)) := by
      have this : DataW.trod enc Tryd.prog w base spare held n 32 (List.take (Tryd.prog.cellsOf 32) (List.drop 3 [a0, a1, a2, a3])) = _ := (hf 2 _ rfl).trans (List.getElem?_eq_getElem (show 2 < xs.length by omega))
      rw [show Tryd.prog.cellsOf 32 = 1 by kernel_rfl] at this
      exact this
    obtain ⟨d0, M0, r0, w0⟩ := opensBeliefs f0
    obtain ⟨A1, c1, N1, e0, g0, n1, m1, s1⟩ := r0
    cases e0
    subst g0
    obtain ⟨d1, M1, r1, w1⟩ := (opens_slice Tryd.underlying32 (by kernel_rfl) (opens_int Tryd.underlying3)) f1
    obtain ⟨A2, c2, e1, n2, m2, s2⟩ := r1
    cases e1
    obtain ⟨d2, M2, r2, w2⟩ := (opens_slice Tryd.underlying32 (by kernel_rfl) (opens_int Tryd.underlying3)) f2
    obtain ⟨A3, c3, e2, n3, m3, s3⟩ := r2
    cases e2
    exact ⟨⟨d0, d1, d2⟩, _, ⟨A1, c1, M0, A2, c2, M1, A3, c3, M2, rfl, rfl, n1, m1, s1, n2, m2, s2, n3, m3, s3⟩, ⟨w0, w1, w2⟩⟩

end Go.Proofs.YtppjenkjopjeiaaDoor
