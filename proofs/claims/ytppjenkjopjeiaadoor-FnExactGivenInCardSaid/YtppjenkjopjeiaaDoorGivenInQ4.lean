/- Texts of this proof, joined: Dp5, Dp6, Dp7, Dp8, BStd, DE, Sz, To, Eq, MText, Mk, Mark, Held, Open, ExactGivenIn, Opens. What each holds is said at its theorems. -/
import Derived.Test.YtppjenkjopjeiaaDoorGivenInQ3
import Derived.Test.YtppjenkjopjeiaaDoorGivenInQ2
import Derived.Test.YtppjenkjopjeiaaDoorGivenInQ1
import Derived.Test.YtppjenkjopjeiaaDoorProg
import Derived.Outline
import Derived.WalkSpells
import Derived.StillTailTactics
import Derived.WalkLawsBesides
import Derived.Deep.RegionHeld3
import Derived.Deep.Slices
import Derived.ChangeArms
import Derived.ProofKit
set_option linter.unusedSimpArgs false
set_option linter.unusedVariables false
namespace Go.Proofs.YtppjenkjopjeiaaDoor
open Go.Proofs.Tryd
set_option linter.unusedSimpArgs false
set_option linter.unusedVariables false
set_option maxRecDepth 1000000
set_option maxHeartbeats 4000000
theorem s_CompareFacts_ok {a_0 : FactD} {b_1 : FactD} {r : Int} (h : s_CompareFacts a_0 b_1 = some r) : Sound Tryd.prog J0 75 [(true, eFact a_0), (true, eFact b_1)] [(false, [(false, .int .i64 r)])] := by
  refine fnk Tryd.func75 (by kernel_rfl) rfl (by kernel_rfl) (by kernel_rfl) ?_
  unfold s_CompareFacts at h
  simp only [fnS, f75, argSt, go_sem, Int.reduceLT, Int.reduceLE, Int.reduceBEq, Int.reduceBNe, Nat.reduceBNe, Nat.reduceAdd, Nat.reduceMul, Nat.reduceEqDiff, Nat.reduceLeDiff, Nat.reduceLT, Nat.reduceBEq, reduceCtorEq, reduceIte]
  refine ite_K h (fun c1 h => ?_) (fun c1 h => ?_)
  · try simp only [go_sem, Int.reduceLT, Int.reduceLE, Int.reduceBEq, Int.reduceBNe, Nat.reduceBNe, Nat.reduceAdd, Nat.reduceMul, Nat.reduceEqDiff, Nat.reduceLeDiff, Nat.reduceLT, Nat.reduceBEq, reduceCtorEq, reduceIte, c1]
    refine swp_for h (fun i _ st => IV [(2, .bp 0 0), (3, .bp 1 0), (5, .p false [.c (.int .i64 ((i : Nat) : Int))])] [.box 37 [.c (.str a_0.rel), .c (.sl 9 1 (List.map eStr a_0.args))], .box 37 [.c (.str b_1.rel), .c (.sl 9 1 (List.map eStr b_1.args))]] st) [] [0, 16] (by decide) ?_ ?_ ?_
    · simp only [go_sem, Int.reduceLT, Int.reduceLE, Int.reduceBEq, Int.reduceBNe, Nat.reduceBNe, Nat.reduceAdd, Nat.reduceMul, Nat.reduceEqDiff, Nat.reduceLeDiff, Nat.reduceLT, Nat.reduceBEq, reduceCtorEq, reduceIte, IV, sts_cons, sts_nil, obs_cons, obs_nil, c1]
    · rintro i8 x9 ⟨⟩ ⟨sl, ob, n⟩ y2 hx3 hI4 hW5 h hy2
      simp only [IV, sts_cons, sts_nil, obs_cons, obs_nil, and_true, true_and, Nat.reduceAdd, str_len] at hI4
      obtain ⟨⟨g6_2, g6_3, g6_5⟩, og6_0, og6_1, hn⟩ := hI4
      subst hn
      have hlhx3 := WF.boxL hW5 og6_0 (j := 1) rfl
      try simp only [go_sem, Int.reduceLT, Int.reduceLE, Int.reduceBEq, Int.reduceBNe, Nat.reduceBNe, Nat.reduceAdd, Nat.reduceMul, Nat.reduceEqDiff, Nat.reduceLeDiff, Nat.reduceLT, Nat.reduceBEq, reduceCtorEq, reduceIte, c1, hx3, lt_t hx3, lt_p hx3, nat_in (lt_n hx3) hlhx3, g6_2, g6_3, g6_5, og6_0, og6_1]
      refine ite_K h (fun c7 h => ?_) (fun c7 h => ?_)
      · obtain ⟨x10, a8, a9, e10, h⟩ := at_K h
        simp only [Int.toNat_natCast] at e10
        try simp only [go_sem, Int.reduceLT, Int.reduceLE, Int.reduceBEq, Int.reduceBNe, Nat.reduceBNe, Nat.reduceAdd, Nat.reduceMul, Nat.reduceEqDiff, Nat.reduceLeDiff, Nat.reduceLT, Nat.reduceBEq, reduceCtorEq, reduceIte, c1, hx3, lt_t hx3, lt_p hx3, nat_in (lt_n hx3) hlhx3, c7, a8, a9, e10, g6_2, g6_3, g6_5, og6_0, og6_1]
        obtain ⟨v11, e11, h⟩ := bind_K h
        refine call_K (by first | exact s_CompareAtoms_ok e11 | simpa only [go_sem, Int.reduceLT, Int.reduceLE, Int.reduceBEq, Int.reduceBNe, Nat.reduceBNe, Nat.reduceAdd, Nat.reduceMul, Nat.reduceEqDiff, Nat.reduceLeDiff, Nat.reduceLT, Nat.reduceBEq, reduceCtorEq, reduceIte, c1, hx3, lt_t hx3, lt_p hx3, nat_in (lt_n hx3) hlhx3, c7, a8, a9, e10, g6_2, g6_3, g6_5, og6_0, og6_1] using s_CompareAtoms_ok e11) ?_
        try simp only [go_sem, Int.reduceLT, Int.reduceLE, Int.reduceBEq, Int.reduceBNe, Nat.reduceBNe, Nat.reduceAdd, Nat.reduceMul, Nat.reduceEqDiff, Nat.reduceLeDiff, Nat.reduceLT, Nat.reduceBEq, reduceCtorEq, reduceIte, c1, hx3, lt_t hx3, lt_p hx3, nat_in (lt_n hx3) hlhx3, c7, a8, a9, e10, g6_2, g6_3, g6_5, og6_0, og6_1]
        refine ite_K h (fun c12 h => ?_) (fun c12 h => ?_)
        · replace h := inr_K h hy2
          obtain rfl := Option.some.inj h
          try simp only [go_sem, Int.reduceLT, Int.reduceLE, Int.reduceBEq, Int.reduceBNe, Nat.reduceBNe, Nat.reduceAdd, Nat.reduceMul, Nat.reduceEqDiff, Nat.reduceLeDiff, Nat.reduceLT, Nat.reduceBEq, reduceCtorEq, reduceIte, c1, hx3, lt_t hx3, lt_p hx3, nat_in (lt_n hx3) hlhx3, c7, a8, a9, e10, c12, g6_2, g6_3, g6_5, og6_0, og6_1]
        · try simp only [go_sem, Int.reduceLT, Int.reduceLE, Int.reduceBEq, Int.reduceBNe, Nat.reduceBNe, Nat.reduceAdd, Nat.reduceMul, Nat.reduceEqDiff, Nat.reduceLeDiff, Nat.reduceLT, Nat.reduceBEq, reduceCtorEq, reduceIte, c1, hx3, lt_t hx3, lt_p hx3, nat_in (lt_n hx3) hlhx3, c7, a8, a9, e10, c12, g6_2, g6_3, g6_5, og6_0, og6_1]
          refine ⟨_, [], [0, 1], (Option.some.inj h).symm, by decide, ?_⟩
          try simp only [go_sem, Int.reduceLT, Int.reduceLE, Int.reduceBEq, Int.reduceBNe, Nat.reduceBNe, Nat.reduceAdd, Nat.reduceMul, Nat.reduceEqDiff, Nat.reduceLeDiff, Nat.reduceLT, Nat.reduceBEq, reduceCtorEq, reduceIte, c1, hx3, lt_t hx3, lt_p hx3, nat_in (lt_n hx3) hlhx3, c7, a8, a9, e10, c12, g6_2, g6_3, g6_5, og6_0, og6_1, IV, sts_cons, sts_nil, obs_cons, obs_nil]
      · try simp only [go_sem, Int.reduceLT, Int.reduceLE, Int.reduceBEq, Int.reduceBNe, Nat.reduceBNe, Nat.reduceAdd, Nat.reduceMul, Nat.reduceEqDiff, Nat.reduceLeDiff, Nat.reduceLT, Nat.reduceBEq, reduceCtorEq, reduceIte, c1, hx3, lt_t hx3, lt_p hx3, nat_in (lt_n hx3) hlhx3, c7, g6_2, g6_3, g6_5, og6_0, og6_1]
        refine ite_K h (fun c13 h => ?_) (fun c13 h => ?_)
        · replace h := inr_K h hy2
          obtain rfl := Option.some.inj h
          try simp only [go_sem, Int.reduceLT, Int.reduceLE, Int.reduceBEq, Int.reduceBNe, Nat.reduceBNe, Nat.reduceAdd, Nat.reduceMul, Nat.reduceEqDiff, Nat.reduceLeDiff, Nat.reduceLT, Nat.reduceBEq, reduceCtorEq, reduceIte, c1, hx3, lt_t hx3, lt_p hx3, nat_in (lt_n hx3) hlhx3, c7, c13, g6_2, g6_3, g6_5, og6_0, og6_1]
        · try simp only [go_sem, Int.reduceLT, Int.reduceLE, Int.reduceBEq, Int.reduceBNe, Nat.reduceBNe, Nat.reduceAdd, Nat.reduceMul, Nat.reduceEqDiff, Nat.reduceLeDiff, Nat.reduceLT, Nat.reduceBEq, reduceCtorEq, reduceIte, c1, hx3, lt_t hx3, lt_p hx3, nat_in (lt_n hx3) hlhx3, c7, c13, g6_2, g6_3, g6_5, og6_0, og6_1]
          refine ite_K h (fun c14 h => ?_) (fun c14 h => ?_)
          · replace h := inr_K h hy2
            obtain rfl := Option.some.inj h
            try simp only [go_sem, Int.reduceLT, Int.reduceLE, Int.reduceBEq, Int.reduceBNe, Nat.reduceBNe, Nat.reduceAdd, Nat.reduceMul, Nat.reduceEqDiff, Nat.reduceLeDiff, Nat.reduceLT, Nat.reduceBEq, reduceCtorEq, reduceIte, c1, hx3, lt_t hx3, lt_p hx3, nat_in (lt_n hx3) hlhx3, c7, c13, c14, g6_2, g6_3, g6_5, og6_0, og6_1]
          · replace h := inr_K h hy2
            obtain rfl := Option.some.inj h
            try simp only [go_sem, Int.reduceLT, Int.reduceLE, Int.reduceBEq, Int.reduceBNe, Nat.reduceBNe, Nat.reduceAdd, Nat.reduceMul, Nat.reduceEqDiff, Nat.reduceLeDiff, Nat.reduceLT, Nat.reduceBEq, reduceCtorEq, reduceIte, c1, hx3, lt_t hx3, lt_p hx3, nat_in (lt_n hx3) hlhx3, c7, c13, c14, g6_2, g6_3, g6_5, og6_0, og6_1]
    · rintro ⟨⟩ ⟨sl, ob, n⟩ hI15 hW16 h
      simp only [IV, sts_cons, sts_nil, obs_cons, obs_nil, and_true, true_and, Nat.reduceAdd, str_len] at hI15
      obtain ⟨⟨g17_2, g17_3, g17_5⟩, og17_0, og17_1, hn⟩ := hI15
      subst hn
      try simp only [go_sem, Int.reduceLT, Int.reduceLE, Int.reduceBEq, Int.reduceBNe, Nat.reduceBNe, Nat.reduceAdd, Nat.reduceMul, Nat.reduceEqDiff, Nat.reduceLeDiff, Nat.reduceLT, Nat.reduceBEq, reduceCtorEq, reduceIte, c1, lt_f (a_0.args.length), g17_2, g17_3, g17_5, og17_0, og17_1]
      refine ite_K h (fun c18 h => ?_) (fun c18 h => ?_)
      · obtain rfl := Option.some.inj h
        try simp only [go_sem, Int.reduceLT, Int.reduceLE, Int.reduceBEq, Int.reduceBNe, Nat.reduceBNe, Nat.reduceAdd, Nat.reduceMul, Nat.reduceEqDiff, Nat.reduceLeDiff, Nat.reduceLT, Nat.reduceBEq, reduceCtorEq, reduceIte, c1, lt_f (a_0.args.length), c18, g17_2, g17_3, g17_5, og17_0, og17_1]
      · try simp only [go_sem, Int.reduceLT, Int.reduceLE, Int.reduceBEq, Int.reduceBNe, Nat.reduceBNe, Nat.reduceAdd, Nat.reduceMul, Nat.reduceEqDiff, Nat.reduceLeDiff, Nat.reduceLT, Nat.reduceBEq, reduceCtorEq, reduceIte, c1, lt_f (a_0.args.length), c18, g17_2, g17_3, g17_5, og17_0, og17_1]
        refine ite_K h (fun c19 h => ?_) (fun c19 h => ?_)
        · obtain rfl := Option.some.inj h
          try simp only [go_sem, Int.reduceLT, Int.reduceLE, Int.reduceBEq, Int.reduceBNe, Nat.reduceBNe, Nat.reduceAdd, Nat.reduceMul, Nat.reduceEqDiff, Nat.reduceLeDiff, Nat.reduceLT, Nat.reduceBEq, reduceCtorEq, reduceIte, c1, lt_f (a_0.args.length), c18, c19, g17_2, g17_3, g17_5, og17_0, og17_1]
        · obtain rfl := Option.some.inj h
          try simp only [go_sem, Int.reduceLT, Int.reduceLE, Int.reduceBEq, Int.reduceBNe, Nat.reduceBNe, Nat.reduceAdd, Nat.reduceMul, Nat.reduceEqDiff, Nat.reduceLeDiff, Nat.reduceLT, Nat.reduceBEq, reduceCtorEq, reduceIte, c1, lt_f (a_0.args.length), c18, c19, g17_2, g17_3, g17_5, og17_0, og17_1]
  · try simp only [go_sem, Int.reduceLT, Int.reduceLE, Int.reduceBEq, Int.reduceBNe, Nat.reduceBNe, Nat.reduceAdd, Nat.reduceMul, Nat.reduceEqDiff, Nat.reduceLeDiff, Nat.reduceLT, Nat.reduceBEq, reduceCtorEq, reduceIte, c1]
    obtain ⟨v12, e20, h⟩ := bind_K h
    refine call_K (by first | exact s_l1Cmp_ok e20 | simpa only [go_sem, Int.reduceLT, Int.reduceLE, Int.reduceBEq, Int.reduceBNe, Nat.reduceBNe, Nat.reduceAdd, Nat.reduceMul, Nat.reduceEqDiff, Nat.reduceLeDiff, Nat.reduceLT, Nat.reduceBEq, reduceCtorEq, reduceIte, c1] using s_l1Cmp_ok e20) ?_
    obtain rfl := Option.some.inj h
    try simp only [go_sem, Int.reduceLT, Int.reduceLE, Int.reduceBEq, Int.reduceBNe, Nat.reduceBNe, Nat.reduceAdd, Nat.reduceMul, Nat.reduceEqDiff, Nat.reduceLeDiff, Nat.reduceLT, Nat.reduceBEq, reduceCtorEq, reduceIte, c1]
end Go.Proofs.YtppjenkjopjeiaaDoor

namespace Go.Proofs.YtppjenkjopjeiaaDoor
open Go.Proofs.Tryd
set_option linter.unusedSimpArgs false
set_option linter.unusedVariables false
set_option maxRecDepth 1000000
set_option maxHeartbeats 4000000
theorem i_CompareFacts_ok {a_0 : FactD} {b_1 : FactD} {r : Int} (h : i_CompareFacts a_0 b_1 = some r) : Sound Tryd.prog J0 78 [(true, eFact a_0), (true, eFact b_1)] [(false, [(false, .int .i64 r)])] := by
  refine fnk Tryd.func78 (by kernel_rfl) rfl (by kernel_rfl) (by kernel_rfl) ?_
  unfold i_CompareFacts at h
  simp only [fnS, f78, argSt, go_sem, Int.reduceLT, Int.reduceLE, Int.reduceBEq, Int.reduceBNe, Nat.reduceBNe, Nat.reduceAdd, Nat.reduceMul, Nat.reduceEqDiff, Nat.reduceLeDiff, Nat.reduceLT, Nat.reduceBEq, reduceCtorEq, reduceIte]
  obtain ⟨v1, e1, h⟩ := bind_K h
  refine call_K (by first | exact x_Compare_ok e1 | simpa only [go_sem, Int.reduceLT, Int.reduceLE, Int.reduceBEq, Int.reduceBNe, Nat.reduceBNe, Nat.reduceAdd, Nat.reduceMul, Nat.reduceEqDiff, Nat.reduceLeDiff, Nat.reduceLT, Nat.reduceBEq, reduceCtorEq, reduceIte] using x_Compare_ok e1) ?_
  try simp only [go_sem, Int.reduceLT, Int.reduceLE, Int.reduceBEq, Int.reduceBNe, Nat.reduceBNe, Nat.reduceAdd, Nat.reduceMul, Nat.reduceEqDiff, Nat.reduceLeDiff, Nat.reduceLT, Nat.reduceBEq, reduceCtorEq, reduceIte]
  refine ite_K h (fun c2 h => ?_) (fun c2 h => ?_)
  · obtain rfl := Option.some.inj h
    try simp only [go_sem, Int.reduceLT, Int.reduceLE, Int.reduceBEq, Int.reduceBNe, Nat.reduceBNe, Nat.reduceAdd, Nat.reduceMul, Nat.reduceEqDiff, Nat.reduceLeDiff, Nat.reduceLT, Nat.reduceBEq, reduceCtorEq, reduceIte, c2]
  · try simp only [go_sem, Int.reduceLT, Int.reduceLE, Int.reduceBEq, Int.reduceBNe, Nat.reduceBNe, Nat.reduceAdd, Nat.reduceMul, Nat.reduceEqDiff, Nat.reduceLeDiff, Nat.reduceLT, Nat.reduceBEq, reduceCtorEq, reduceIte, c2]
    refine swp_for h (fun i _ st => IV [(2, .bp 0 0), (3, .bp 1 0), (6, .p false [.c (.int .i64 ((i : Nat) : Int))])] [.box 37 [.c (.str a_0.rel), .c (.sl 9 1 (List.map eStr a_0.args))], .box 37 [.c (.str b_1.rel), .c (.sl 9 1 (List.map eStr b_1.args))]] st) [] [0, 16] (by decide) ?_ ?_ ?_
    · simp only [go_sem, Int.reduceLT, Int.reduceLE, Int.reduceBEq, Int.reduceBNe, Nat.reduceBNe, Nat.reduceAdd, Nat.reduceMul, Nat.reduceEqDiff, Nat.reduceLeDiff, Nat.reduceLT, Nat.reduceBEq, reduceCtorEq, reduceIte, IV, sts_cons, sts_nil, obs_cons, obs_nil, c2]
    · rintro i11 x12 ⟨⟩ ⟨sl, ob, n⟩ y3 hx4 hI5 hW6 h hy3
      simp only [IV, sts_cons, sts_nil, obs_cons, obs_nil, and_true, true_and, Nat.reduceAdd, str_len] at hI5
      obtain ⟨⟨g7_2, g7_3, g7_6⟩, og7_0, og7_1, hn⟩ := hI5
      subst hn
      have hlhx4 := WF.boxL hW6 og7_0 (j := 1) rfl
      try simp only [go_sem, Int.reduceLT, Int.reduceLE, Int.reduceBEq, Int.reduceBNe, Nat.reduceBNe, Nat.reduceAdd, Nat.reduceMul, Nat.reduceEqDiff, Nat.reduceLeDiff, Nat.reduceLT, Nat.reduceBEq, reduceCtorEq, reduceIte, c2, hx4, lt_t hx4, lt_p hx4, nat_in (lt_n hx4) hlhx4, g7_2, g7_3, g7_6, og7_0, og7_1]
      refine ite_K h (fun c8 h => ?_) (fun c8 h => ?_)
      · obtain ⟨x13, a9, a10, e11, h⟩ := at_K h
        simp only [Int.toNat_natCast] at e11
        try simp only [go_sem, Int.reduceLT, Int.reduceLE, Int.reduceBEq, Int.reduceBNe, Nat.reduceBNe, Nat.reduceAdd, Nat.reduceMul, Nat.reduceEqDiff, Nat.reduceLeDiff, Nat.reduceLT, Nat.reduceBEq, reduceCtorEq, reduceIte, c2, hx4, lt_t hx4, lt_p hx4, nat_in (lt_n hx4) hlhx4, c8, a9, a10, e11, g7_2, g7_3, g7_6, og7_0, og7_1]
        obtain ⟨v14, e12, h⟩ := bind_K h
        refine call_K (by first | exact i_CompareAtoms_ok e12 | simpa only [go_sem, Int.reduceLT, Int.reduceLE, Int.reduceBEq, Int.reduceBNe, Nat.reduceBNe, Nat.reduceAdd, Nat.reduceMul, Nat.reduceEqDiff, Nat.reduceLeDiff, Nat.reduceLT, Nat.reduceBEq, reduceCtorEq, reduceIte, c2, hx4, lt_t hx4, lt_p hx4, nat_in (lt_n hx4) hlhx4, c8, a9, a10, e11, g7_2, g7_3, g7_6, og7_0, og7_1] using i_CompareAtoms_ok e12) ?_
        try simp only [go_sem, Int.reduceLT, Int.reduceLE, Int.reduceBEq, Int.reduceBNe, Nat.reduceBNe, Nat.reduceAdd, Nat.reduceMul, Nat.reduceEqDiff, Nat.reduceLeDiff, Nat.reduceLT, Nat.reduceBEq, reduceCtorEq, reduceIte, c2, hx4, lt_t hx4, lt_p hx4, nat_in (lt_n hx4) hlhx4, c8, a9, a10, e11, g7_2, g7_3, g7_6, og7_0, og7_1]
        refine ite_K h (fun c13 h => ?_) (fun c13 h => ?_)
        · replace h := inr_K h hy3
          obtain rfl := Option.some.inj h
          try simp only [go_sem, Int.reduceLT, Int.reduceLE, Int.reduceBEq, Int.reduceBNe, Nat.reduceBNe, Nat.reduceAdd, Nat.reduceMul, Nat.reduceEqDiff, Nat.reduceLeDiff, Nat.reduceLT, Nat.reduceBEq, reduceCtorEq, reduceIte, c2, hx4, lt_t hx4, lt_p hx4, nat_in (lt_n hx4) hlhx4, c8, a9, a10, e11, c13, g7_2, g7_3, g7_6, og7_0, og7_1]
        · try simp only [go_sem, Int.reduceLT, Int.reduceLE, Int.reduceBEq, Int.reduceBNe, Nat.reduceBNe, Nat.reduceAdd, Nat.reduceMul, Nat.reduceEqDiff, Nat.reduceLeDiff, Nat.reduceLT, Nat.reduceBEq, reduceCtorEq, reduceIte, c2, hx4, lt_t hx4, lt_p hx4, nat_in (lt_n hx4) hlhx4, c8, a9, a10, e11, c13, g7_2, g7_3, g7_6, og7_0, og7_1]
          refine ⟨_, [], [0, 1], (Option.some.inj h).symm, by decide, ?_⟩
          try simp only [go_sem, Int.reduceLT, Int.reduceLE, Int.reduceBEq, Int.reduceBNe, Nat.reduceBNe, Nat.reduceAdd, Nat.reduceMul, Nat.reduceEqDiff, Nat.reduceLeDiff, Nat.reduceLT, Nat.reduceBEq, reduceCtorEq, reduceIte, c2, hx4, lt_t hx4, lt_p hx4, nat_in (lt_n hx4) hlhx4, c8, a9, a10, e11, c13, g7_2, g7_3, g7_6, og7_0, og7_1, IV, sts_cons, sts_nil, obs_cons, obs_nil]
      · try simp only [go_sem, Int.reduceLT, Int.reduceLE, Int.reduceBEq, Int.reduceBNe, Nat.reduceBNe, Nat.reduceAdd, Nat.reduceMul, Nat.reduceEqDiff, Nat.reduceLeDiff, Nat.reduceLT, Nat.reduceBEq, reduceCtorEq, reduceIte, c2, hx4, lt_t hx4, lt_p hx4, nat_in (lt_n hx4) hlhx4, c8, g7_2, g7_3, g7_6, og7_0, og7_1]
        obtain ⟨v15, e14, h⟩ := bind_K h
        refine call_K (by first | exact i_compareInts_ok e14 | simpa only [go_sem, Int.reduceLT, Int.reduceLE, Int.reduceBEq, Int.reduceBNe, Nat.reduceBNe, Nat.reduceAdd, Nat.reduceMul, Nat.reduceEqDiff, Nat.reduceLeDiff, Nat.reduceLT, Nat.reduceBEq, reduceCtorEq, reduceIte, c2, hx4, lt_t hx4, lt_p hx4, nat_in (lt_n hx4) hlhx4, c8, g7_2, g7_3, g7_6, og7_0, og7_1] using i_compareInts_ok e14) ?_
        replace h := inr_K h hy3
        obtain rfl := Option.some.inj h
        try simp only [go_sem, Int.reduceLT, Int.reduceLE, Int.reduceBEq, Int.reduceBNe, Nat.reduceBNe, Nat.reduceAdd, Nat.reduceMul, Nat.reduceEqDiff, Nat.reduceLeDiff, Nat.reduceLT, Nat.reduceBEq, reduceCtorEq, reduceIte, c2, hx4, lt_t hx4, lt_p hx4, nat_in (lt_n hx4) hlhx4, c8, g7_2, g7_3, g7_6, og7_0, og7_1]
    · rintro ⟨⟩ ⟨sl, ob, n⟩ hI15 hW16 h
      simp only [IV, sts_cons, sts_nil, obs_cons, obs_nil, and_true, true_and, Nat.reduceAdd, str_len] at hI15
      obtain ⟨⟨g17_2, g17_3, g17_6⟩, og17_0, og17_1, hn⟩ := hI15
      subst hn
      try simp only [go_sem, Int.reduceLT, Int.reduceLE, Int.reduceBEq, Int.reduceBNe, Nat.reduceBNe, Nat.reduceAdd, Nat.reduceMul, Nat.reduceEqDiff, Nat.reduceLeDiff, Nat.reduceLT, Nat.reduceBEq, reduceCtorEq, reduceIte, c2, lt_f (a_0.args.length), g17_2, g17_3, g17_6, og17_0, og17_1]
      obtain ⟨v16, e18, h⟩ := bind_K h
      refine call_K (by first | exact i_compareInts_ok e18 | simpa only [go_sem, Int.reduceLT, Int.reduceLE, Int.reduceBEq, Int.reduceBNe, Nat.reduceBNe, Nat.reduceAdd, Nat.reduceMul, Nat.reduceEqDiff, Nat.reduceLeDiff, Nat.reduceLT, Nat.reduceBEq, reduceCtorEq, reduceIte, c2, lt_f (a_0.args.length), g17_2, g17_3, g17_6, og17_0, og17_1] using i_compareInts_ok e18) ?_
      obtain rfl := Option.some.inj h
      try simp only [go_sem, Int.reduceLT, Int.reduceLE, Int.reduceBEq, Int.reduceBNe, Nat.reduceBNe, Nat.reduceAdd, Nat.reduceMul, Nat.reduceEqDiff, Nat.reduceLeDiff, Nat.reduceLT, Nat.reduceBEq, reduceCtorEq, reduceIte, c2, lt_f (a_0.args.length), g17_2, g17_3, g17_6, og17_0, og17_1]
end Go.Proofs.YtppjenkjopjeiaaDoor

namespace Go.Proofs.YtppjenkjopjeiaaDoor
open Go.Proofs.Tryd
set_option linter.unusedSimpArgs false
set_option linter.unusedVariables false
set_option maxRecDepth 1000000
set_option maxHeartbeats 4000000
theorem s_l2Put_ok {l_0 : (List FactD)} {f_1 : FactD} {r : (List FactD)} (h : s_l2Put l_0 f_1 = some r) : Sound Tryd.prog J0 52 [(false, [.sl 37 2 (List.map eFact l_0)]), (true, eFact f_1)] [(false, [(false, .sl 37 2 (List.map eFact r))])] := by
  refine fnk Tryd.func52 (by kernel_rfl) rfl (by kernel_rfl) (by kernel_rfl) ?_
  unfold s_l2Put at h
  simp only [fnS, f52, argSt, go_sem, Int.reduceLT, Int.reduceLE, Int.reduceBEq, Int.reduceBNe, Nat.reduceBNe, Nat.reduceAdd, Nat.reduceMul, Nat.reduceEqDiff, Nat.reduceLeDiff, Nat.reduceLT, Nat.reduceBEq, reduceCtorEq, reduceIte]
  refine swp_for h (fun i s st => match s with | (row_8, done_9) => IV [(0, .p false [.c (.sl 37 2 (List.map eFact l_0))]), (3, .bp 0 0), (5, .p false [.row 1]), (6, .p false [.c (.bool done_9)]), (7, .p false [.c (.int .i64 ((i : Nat) : Int))])] [.box 37 [.c (.str f_1.rel), .c (.sl 9 1 (List.map eStr f_1.args))], .row 37 2 (List.map eFact row_8) 2] st) [] [0, 32] (by decide) ?_ ?_ ?_
  · simp only [go_sem, Int.reduceLT, Int.reduceLE, Int.reduceBEq, Int.reduceBNe, Nat.reduceBNe, Nat.reduceAdd, Nat.reduceMul, Nat.reduceEqDiff, Nat.reduceLeDiff, Nat.reduceLT, Nat.reduceBEq, reduceCtorEq, reduceIte, IV, sts_cons, sts_nil, obs_cons, obs_nil]
  · rintro i21 x22 ⟨row_8, done_9⟩ ⟨sl, ob, n⟩ y1 hx2 hI3 hW4 h hy1
    simp only [IV, sts_cons, sts_nil, obs_cons, obs_nil, and_true, true_and, Nat.reduceAdd, str_len] at hI3
    obtain ⟨⟨g5_0, g5_3, g5_5, g5_6, g5_7⟩, og5_0, og5_1, hn⟩ := hI3
    subst hn
    have hlhx2 := WF.slotL hW4 g5_0 (j := 0) rfl
    try simp only [go_sem, Int.reduceLT, Int.reduceLE, Int.reduceBEq, Int.reduceBNe, Nat.reduceBNe, Nat.reduceAdd, Nat.reduceMul, Nat.reduceEqDiff, Nat.reduceLeDiff, Nat.reduceLT, Nat.reduceBEq, reduceCtorEq, reduceIte, hx2, lt_t hx2, lt_p hx2, nat_in (lt_n hx2) hlhx2, g5_0, g5_3, g5_5, g5_6, g5_7, og5_0, og5_1]
    refine ite_K h (fun c6 h => ?_) (fun c6 h => ?_)
    · try simp only [go_sem, Int.reduceLT, Int.reduceLE, Int.reduceBEq, Int.reduceBNe, Nat.reduceBNe, Nat.reduceAdd, Nat.reduceMul, Nat.reduceEqDiff, Nat.reduceLeDiff, Nat.reduceLT, Nat.reduceBEq, reduceCtorEq, reduceIte, hx2, lt_t hx2, lt_p hx2, nat_in (lt_n hx2) hlhx2, c6, g5_0, g5_3, g5_5, g5_6, g5_7, og5_0, og5_1]
      obtain ⟨v23, e7, h⟩ := bind_K h
      refine call_K (by first | exact s_l2Copy_ok e7 | simpa only [go_sem, Int.reduceLT, Int.reduceLE, Int.reduceBEq, Int.reduceBNe, Nat.reduceBNe, Nat.reduceAdd, Nat.reduceMul, Nat.reduceEqDiff, Nat.reduceLeDiff, Nat.reduceLT, Nat.reduceBEq, reduceCtorEq, reduceIte, hx2, lt_t hx2, lt_p hx2, nat_in (lt_n hx2) hlhx2, c6, g5_0, g5_3, g5_5, g5_6, g5_7, og5_0, og5_1] using s_l2Copy_ok e7) ?_
      obtain ⟨p8, h⟩ := chk_K h
      try simp only [Nat.reduceLeDiff] at p8
      try simp only [go_sem, Int.reduceLT, Int.reduceLE, Int.reduceBEq, Int.reduceBNe, Nat.reduceBNe, Nat.reduceAdd, Nat.reduceMul, Nat.reduceEqDiff, Nat.reduceLeDiff, Nat.reduceLT, Nat.reduceBEq, reduceCtorEq, reduceIte, hx2, lt_t hx2, lt_p hx2, nat_in (lt_n hx2) hlhx2, c6, p8, g5_0, g5_3, g5_5, g5_6, g5_7, og5_0, og5_1]
      refine ⟨_, [], [0, 354], (Option.some.inj h).symm, by decide, ?_⟩
      try simp only [go_sem, Int.reduceLT, Int.reduceLE, Int.reduceBEq, Int.reduceBNe, Nat.reduceBNe, Nat.reduceAdd, Nat.reduceMul, Nat.reduceEqDiff, Nat.reduceLeDiff, Nat.reduceLT, Nat.reduceBEq, reduceCtorEq, reduceIte, hx2, lt_t hx2, lt_p hx2, nat_in (lt_n hx2) hlhx2, c6, p8, g5_0, g5_3, g5_5, g5_6, g5_7, og5_0, og5_1, IV, sts_cons, sts_nil, obs_cons, obs_nil]
    · try simp only [go_sem, Int.reduceLT, Int.reduceLE, Int.reduceBEq, Int.reduceBNe, Nat.reduceBNe, Nat.reduceAdd, Nat.reduceMul, Nat.reduceEqDiff, Nat.reduceLeDiff, Nat.reduceLT, Nat.reduceBEq, reduceCtorEq, reduceIte, hx2, lt_t hx2, lt_p hx2, nat_in (lt_n hx2) hlhx2, c6, g5_0, g5_3, g5_5, g5_6, g5_7, og5_0, og5_1]
      obtain ⟨v24, e9, h⟩ := bind_K h
      refine call_K (by first | exact s_CompareFacts_ok e9 | simpa only [go_sem, Int.reduceLT, Int.reduceLE, Int.reduceBEq, Int.reduceBNe, Nat.reduceBNe, Nat.reduceAdd, Nat.reduceMul, Nat.reduceEqDiff, Nat.reduceLeDiff, Nat.reduceLT, Nat.reduceBEq, reduceCtorEq, reduceIte, hx2, lt_t hx2, lt_p hx2, nat_in (lt_n hx2) hlhx2, c6, g5_0, g5_3, g5_5, g5_6, g5_7, og5_0, og5_1] using s_CompareFacts_ok e9) ?_
      try simp only [go_sem, Int.reduceLT, Int.reduceLE, Int.reduceBEq, Int.reduceBNe, Nat.reduceBNe, Nat.reduceAdd, Nat.reduceMul, Nat.reduceEqDiff, Nat.reduceLeDiff, Nat.reduceLT, Nat.reduceBEq, reduceCtorEq, reduceIte, hx2, lt_t hx2, lt_p hx2, nat_in (lt_n hx2) hlhx2, c6, g5_0, g5_3, g5_5, g5_6, g5_7, og5_0, og5_1]
      refine ite_K h (fun c10 h => ?_) (fun c10 h => ?_)
      · try simp only [go_sem, Int.reduceLT, Int.reduceLE, Int.reduceBEq, Int.reduceBNe, Nat.reduceBNe, Nat.reduceAdd, Nat.reduceMul, Nat.reduceEqDiff, Nat.reduceLeDiff, Nat.reduceLT, Nat.reduceBEq, reduceCtorEq, reduceIte, hx2, lt_t hx2, lt_p hx2, nat_in (lt_n hx2) hlhx2, c6, c10, g5_0, g5_3, g5_5, g5_6, g5_7, og5_0, og5_1]
        obtain ⟨v25, e11, h⟩ := bind_K h
        refine call_K (by first | exact s_CompareFacts_ok e11 | simpa only [go_sem, Int.reduceLT, Int.reduceLE, Int.reduceBEq, Int.reduceBNe, Nat.reduceBNe, Nat.reduceAdd, Nat.reduceMul, Nat.reduceEqDiff, Nat.reduceLeDiff, Nat.reduceLT, Nat.reduceBEq, reduceCtorEq, reduceIte, hx2, lt_t hx2, lt_p hx2, nat_in (lt_n hx2) hlhx2, c6, c10, g5_0, g5_3, g5_5, g5_6, g5_7, og5_0, og5_1] using s_CompareFacts_ok e11) ?_
        try simp only [go_sem, Int.reduceLT, Int.reduceLE, Int.reduceBEq, Int.reduceBNe, Nat.reduceBNe, Nat.reduceAdd, Nat.reduceMul, Nat.reduceEqDiff, Nat.reduceLeDiff, Nat.reduceLT, Nat.reduceBEq, reduceCtorEq, reduceIte, hx2, lt_t hx2, lt_p hx2, nat_in (lt_n hx2) hlhx2, c6, c10, g5_0, g5_3, g5_5, g5_6, g5_7, og5_0, og5_1]
        refine ite_K h (fun c12 h => ?_) (fun c12 h => ?_)
        · try simp only [go_sem, Int.reduceLT, Int.reduceLE, Int.reduceBEq, Int.reduceBNe, Nat.reduceBNe, Nat.reduceAdd, Nat.reduceMul, Nat.reduceEqDiff, Nat.reduceLeDiff, Nat.reduceLT, Nat.reduceBEq, reduceCtorEq, reduceIte, hx2, lt_t hx2, lt_p hx2, nat_in (lt_n hx2) hlhx2, c6, c10, c12, g5_0, g5_3, g5_5, g5_6, g5_7, og5_0, og5_1]
          obtain ⟨v26, e13, h⟩ := bind_K h
          refine call_K (by first | exact s_l2Copy_ok e13 | simpa only [go_sem, Int.reduceLT, Int.reduceLE, Int.reduceBEq, Int.reduceBNe, Nat.reduceBNe, Nat.reduceAdd, Nat.reduceMul, Nat.reduceEqDiff, Nat.reduceLeDiff, Nat.reduceLT, Nat.reduceBEq, reduceCtorEq, reduceIte, hx2, lt_t hx2, lt_p hx2, nat_in (lt_n hx2) hlhx2, c6, c10, c12, g5_0, g5_3, g5_5, g5_6, g5_7, og5_0, og5_1] using s_l2Copy_ok e13) ?_
          obtain ⟨p14, h⟩ := chk_K h
          try simp only [Nat.reduceLeDiff] at p14
          try simp only [go_sem, Int.reduceLT, Int.reduceLE, Int.reduceBEq, Int.reduceBNe, Nat.reduceBNe, Nat.reduceAdd, Nat.reduceMul, Nat.reduceEqDiff, Nat.reduceLeDiff, Nat.reduceLT, Nat.reduceBEq, reduceCtorEq, reduceIte, hx2, lt_t hx2, lt_p hx2, nat_in (lt_n hx2) hlhx2, c6, c10, c12, p14, g5_0, g5_3, g5_5, g5_6, g5_7, og5_0, og5_1]
          obtain ⟨v27, e15, h⟩ := bind_K h
          refine call_K (by first | exact s_l2Copy_ok e15 | simpa only [go_sem, Int.reduceLT, Int.reduceLE, Int.reduceBEq, Int.reduceBNe, Nat.reduceBNe, Nat.reduceAdd, Nat.reduceMul, Nat.reduceEqDiff, Nat.reduceLeDiff, Nat.reduceLT, Nat.reduceBEq, reduceCtorEq, reduceIte, hx2, lt_t hx2, lt_p hx2, nat_in (lt_n hx2) hlhx2, c6, c10, c12, p14, g5_0, g5_3, g5_5, g5_6, g5_7, og5_0, og5_1] using s_l2Copy_ok e15) ?_
          obtain ⟨p16, h⟩ := chk_K h
          try simp only [Nat.reduceLeDiff] at p16
          try simp only [go_sem, Int.reduceLT, Int.reduceLE, Int.reduceBEq, Int.reduceBNe, Nat.reduceBNe, Nat.reduceAdd, Nat.reduceMul, Nat.reduceEqDiff, Nat.reduceLeDiff, Nat.reduceLT, Nat.reduceBEq, reduceCtorEq, reduceIte, hx2, lt_t hx2, lt_p hx2, nat_in (lt_n hx2) hlhx2, c6, c10, c12, p14, p16, g5_0, g5_3, g5_5, g5_6, g5_7, og5_0, og5_1]
          refine ⟨_, [], [0, 578], (Option.some.inj h).symm, by decide, ?_⟩
          try simp only [go_sem, Int.reduceLT, Int.reduceLE, Int.reduceBEq, Int.reduceBNe, Nat.reduceBNe, Nat.reduceAdd, Nat.reduceMul, Nat.reduceEqDiff, Nat.reduceLeDiff, Nat.reduceLT, Nat.reduceBEq, reduceCtorEq, reduceIte, hx2, lt_t hx2, lt_p hx2, nat_in (lt_n hx2) hlhx2, c6, c10, c12, p14, p16, g5_0, g5_3, g5_5, g5_6, g5_7, og5_0, og5_1, IV, sts_cons, sts_nil, obs_cons, obs_nil]
        · try simp only [go_sem, Int.reduceLT, Int.reduceLE, Int.reduceBEq, Int.reduceBNe, Nat.reduceBNe, Nat.reduceAdd, Nat.reduceMul, Nat.reduceEqDiff, Nat.reduceLeDiff, Nat.reduceLT, Nat.reduceBEq, reduceCtorEq, reduceIte, hx2, lt_t hx2, lt_p hx2, nat_in (lt_n hx2) hlhx2, c6, c10, c12, g5_0, g5_3, g5_5, g5_6, g5_7, og5_0, og5_1]
          obtain ⟨v28, e17, h⟩ := bind_K h
          refine call_K (by first | exact s_l2Copy_ok e17 | simpa only [go_sem, Int.reduceLT, Int.reduceLE, Int.reduceBEq, Int.reduceBNe, Nat.reduceBNe, Nat.reduceAdd, Nat.reduceMul, Nat.reduceEqDiff, Nat.reduceLeDiff, Nat.reduceLT, Nat.reduceBEq, reduceCtorEq, reduceIte, hx2, lt_t hx2, lt_p hx2, nat_in (lt_n hx2) hlhx2, c6, c10, c12, g5_0, g5_3, g5_5, g5_6, g5_7, og5_0, og5_1] using s_l2Copy_ok e17) ?_
          obtain ⟨p18, h⟩ := chk_K h
          try simp only [Nat.reduceLeDiff] at p18
          try simp only [go_sem, Int.reduceLT, Int.reduceLE, Int.reduceBEq, Int.reduceBNe, Nat.reduceBNe, Nat.reduceAdd, Nat.reduceMul, Nat.reduceEqDiff, Nat.reduceLeDiff, Nat.reduceLT, Nat.reduceBEq, reduceCtorEq, reduceIte, hx2, lt_t hx2, lt_p hx2, nat_in (lt_n hx2) hlhx2, c6, c10, c12, p18, g5_0, g5_3, g5_5, g5_6, g5_7, og5_0, og5_1]
          refine ⟨_, [], [0, 482], (Option.some.inj h).symm, by decide, ?_⟩
          try simp only [go_sem, Int.reduceLT, Int.reduceLE, Int.reduceBEq, Int.reduceBNe, Nat.reduceBNe, Nat.reduceAdd, Nat.reduceMul, Nat.reduceEqDiff, Nat.reduceLeDiff, Nat.reduceLT, Nat.reduceBEq, reduceCtorEq, reduceIte, hx2, lt_t hx2, lt_p hx2, nat_in (lt_n hx2) hlhx2, c6, c10, c12, p18, g5_0, g5_3, g5_5, g5_6, g5_7, og5_0, og5_1, IV, sts_cons, sts_nil, obs_cons, obs_nil]
      · try simp only [go_sem, Int.reduceLT, Int.reduceLE, Int.reduceBEq, Int.reduceBNe, Nat.reduceBNe, Nat.reduceAdd, Nat.reduceMul, Nat.reduceEqDiff, Nat.reduceLeDiff, Nat.reduceLT, Nat.reduceBEq, reduceCtorEq, reduceIte, hx2, lt_t hx2, lt_p hx2, nat_in (lt_n hx2) hlhx2, c6, c10, g5_0, g5_3, g5_5, g5_6, g5_7, og5_0, og5_1]
        obtain ⟨v29, e19, h⟩ := bind_K h
        refine call_K (by first | exact s_l2Copy_ok e19 | simpa only [go_sem, Int.reduceLT, Int.reduceLE, Int.reduceBEq, Int.reduceBNe, Nat.reduceBNe, Nat.reduceAdd, Nat.reduceMul, Nat.reduceEqDiff, Nat.reduceLeDiff, Nat.reduceLT, Nat.reduceBEq, reduceCtorEq, reduceIte, hx2, lt_t hx2, lt_p hx2, nat_in (lt_n hx2) hlhx2, c6, c10, g5_0, g5_3, g5_5, g5_6, g5_7, og5_0, og5_1] using s_l2Copy_ok e19) ?_
        obtain ⟨p20, h⟩ := chk_K h
        try simp only [Nat.reduceLeDiff] at p20
        try simp only [go_sem, Int.reduceLT, Int.reduceLE, Int.reduceBEq, Int.reduceBNe, Nat.reduceBNe, Nat.reduceAdd, Nat.reduceMul, Nat.reduceEqDiff, Nat.reduceLeDiff, Nat.reduceLT, Nat.reduceBEq, reduceCtorEq, reduceIte, hx2, lt_t hx2, lt_p hx2, nat_in (lt_n hx2) hlhx2, c6, c10, p20, g5_0, g5_3, g5_5, g5_6, g5_7, og5_0, og5_1]
        refine ⟨_, [], [0, 354], (Option.some.inj h).symm, by decide, ?_⟩
        try simp only [go_sem, Int.reduceLT, Int.reduceLE, Int.reduceBEq, Int.reduceBNe, Nat.reduceBNe, Nat.reduceAdd, Nat.reduceMul, Nat.reduceEqDiff, Nat.reduceLeDiff, Nat.reduceLT, Nat.reduceBEq, reduceCtorEq, reduceIte, hx2, lt_t hx2, lt_p hx2, nat_in (lt_n hx2) hlhx2, c6, c10, p20, g5_0, g5_3, g5_5, g5_6, g5_7, og5_0, og5_1, IV, sts_cons, sts_nil, obs_cons, obs_nil]
  · rintro ⟨row_8, done_9⟩ ⟨sl, ob, n⟩ hI21 hW22 h
    simp only [IV, sts_cons, sts_nil, obs_cons, obs_nil, and_true, true_and, Nat.reduceAdd, str_len] at hI21
    obtain ⟨⟨g23_0, g23_3, g23_5, g23_6, g23_7⟩, og23_0, og23_1, hn⟩ := hI21
    subst hn
    try simp only [go_sem, Int.reduceLT, Int.reduceLE, Int.reduceBEq, Int.reduceBNe, Nat.reduceBNe, Nat.reduceAdd, Nat.reduceMul, Nat.reduceEqDiff, Nat.reduceLeDiff, Nat.reduceLT, Nat.reduceBEq, reduceCtorEq, reduceIte, lt_f (l_0.length), g23_0, g23_3, g23_5, g23_6, g23_7, og23_0, og23_1]
    refine ite_K h (fun c24 h => ?_) (fun c24 h => ?_)
    · obtain rfl := Option.some.inj h
      try simp only [go_sem, Int.reduceLT, Int.reduceLE, Int.reduceBEq, Int.reduceBNe, Nat.reduceBNe, Nat.reduceAdd, Nat.reduceMul, Nat.reduceEqDiff, Nat.reduceLeDiff, Nat.reduceLT, Nat.reduceBEq, reduceCtorEq, reduceIte, lt_f (l_0.length), c24, g23_0, g23_3, g23_5, g23_6, g23_7, og23_0, og23_1]
    · try simp only [go_sem, Int.reduceLT, Int.reduceLE, Int.reduceBEq, Int.reduceBNe, Nat.reduceBNe, Nat.reduceAdd, Nat.reduceMul, Nat.reduceEqDiff, Nat.reduceLeDiff, Nat.reduceLT, Nat.reduceBEq, reduceCtorEq, reduceIte, lt_f (l_0.length), c24, g23_0, g23_3, g23_5, g23_6, g23_7, og23_0, og23_1]
      obtain ⟨v30, e25, h⟩ := bind_K h
      refine call_K (by first | exact s_l2Copy_ok e25 | simpa only [go_sem, Int.reduceLT, Int.reduceLE, Int.reduceBEq, Int.reduceBNe, Nat.reduceBNe, Nat.reduceAdd, Nat.reduceMul, Nat.reduceEqDiff, Nat.reduceLeDiff, Nat.reduceLT, Nat.reduceBEq, reduceCtorEq, reduceIte, lt_f (l_0.length), c24, g23_0, g23_3, g23_5, g23_6, g23_7, og23_0, og23_1] using s_l2Copy_ok e25) ?_
      obtain ⟨p26, h⟩ := chk_K h
      try simp only [Nat.reduceLeDiff] at p26
      obtain rfl := Option.some.inj h
      try simp only [go_sem, Int.reduceLT, Int.reduceLE, Int.reduceBEq, Int.reduceBNe, Nat.reduceBNe, Nat.reduceAdd, Nat.reduceMul, Nat.reduceEqDiff, Nat.reduceLeDiff, Nat.reduceLT, Nat.reduceBEq, reduceCtorEq, reduceIte, lt_f (l_0.length), c24, p26, g23_0, g23_3, g23_5, g23_6, g23_7, og23_0, og23_1]
theorem i_putFact_ok {l_0 : (List FactD)} {f_1 : FactD} {r : (List FactD)} (h : i_putFact l_0 f_1 = some r) : Sound Tryd.prog J0 54 [(false, [.sl 37 2 (List.map eFact l_0)]), (true, eFact f_1)] [(false, [(false, .sl 37 2 (List.map eFact r))])] := by
  refine fnk Tryd.func54 (by kernel_rfl) rfl (by kernel_rfl) (by kernel_rfl) ?_
  unfold i_putFact at h
  simp only [fnS, f54, argSt, go_sem, Int.reduceLT, Int.reduceLE, Int.reduceBEq, Int.reduceBNe, Nat.reduceBNe, Nat.reduceAdd, Nat.reduceMul, Nat.reduceEqDiff, Nat.reduceLeDiff, Nat.reduceLT, Nat.reduceBEq, reduceCtorEq, reduceIte]
  refine swp_for h (fun i s st => match s with | (row_11, done_13) => IV [(3, .bp 0 0), (5, .p false [.row 1]), (6, .p false [.c (.bool done_13)]), (9, .p false [.c (.sl 37 2 (List.map eFact l_0))]), (10, .p false [.c (.int .i64 ((l_0.length : Nat) : Int))]), (11, .p false [.c (.int .i64 ((i : Nat) : Int))])] [.box 37 [.c (.str f_1.rel), .c (.sl 9 1 (List.map eStr f_1.args))], .row 37 2 (List.map eFact row_11) 2] st) [(false, 5, 0)] [0, 112] (by decide) ?_ ?_ ?_
  · simp only [go_sem, Int.reduceLT, Int.reduceLE, Int.reduceBEq, Int.reduceBNe, Nat.reduceBNe, Nat.reduceAdd, Nat.reduceMul, Nat.reduceEqDiff, Nat.reduceLeDiff, Nat.reduceLT, Nat.reduceBEq, reduceCtorEq, reduceIte, IV, sts_cons, sts_nil, obs_cons, obs_nil]
  · rintro i21 x22 ⟨row_11, done_13⟩ ⟨sl, ob, n⟩ y1 hx2 hI3 hW4 h hy1
    simp only [IV, sts_cons, sts_nil, obs_cons, obs_nil, and_true, true_and, Nat.reduceAdd, str_len] at hI3
    obtain ⟨⟨g5_3, g5_5, g5_6, g5_9, g5_10, g5_11⟩, og5_0, og5_1, hn⟩ := hI3
    subst hn
    have hlhx2 := WF.slotL hW4 g5_9 (j := 0) rfl
    try simp only [go_sem, Int.reduceLT, Int.reduceLE, Int.reduceBEq, Int.reduceBNe, Nat.reduceBNe, Nat.reduceAdd, Nat.reduceMul, Nat.reduceEqDiff, Nat.reduceLeDiff, Nat.reduceLT, Nat.reduceBEq, reduceCtorEq, reduceIte, hx2, lt_t hx2, lt_p hx2, nat_in (lt_n hx2) hlhx2, g5_3, g5_5, g5_6, g5_9, g5_10, g5_11, og5_0, og5_1]
    refine ite_K h (fun c6 h => ?_) (fun c6 h => ?_)
    · try simp only [go_sem, Int.reduceLT, Int.reduceLE, Int.reduceBEq, Int.reduceBNe, Nat.reduceBNe, Nat.reduceAdd, Nat.reduceMul, Nat.reduceEqDiff, Nat.reduceLeDiff, Nat.reduceLT, Nat.reduceBEq, reduceCtorEq, reduceIte, hx2, lt_t hx2, lt_p hx2, nat_in (lt_n hx2) hlhx2, c6, g5_3, g5_5, g5_6, g5_9, g5_10, g5_11, og5_0, og5_1]
      obtain ⟨v23, e7, h⟩ := bind_K h
      refine call_K (by first | exact i_copyFact_ok e7 | simpa only [go_sem, Int.reduceLT, Int.reduceLE, Int.reduceBEq, Int.reduceBNe, Nat.reduceBNe, Nat.reduceAdd, Nat.reduceMul, Nat.reduceEqDiff, Nat.reduceLeDiff, Nat.reduceLT, Nat.reduceBEq, reduceCtorEq, reduceIte, hx2, lt_t hx2, lt_p hx2, nat_in (lt_n hx2) hlhx2, c6, g5_3, g5_5, g5_6, g5_9, g5_10, g5_11, og5_0, og5_1] using i_copyFact_ok e7) ?_
      obtain ⟨p8, h⟩ := chk_K h
      try simp only [Nat.reduceLeDiff] at p8
      try simp only [go_sem, Int.reduceLT, Int.reduceLE, Int.reduceBEq, Int.reduceBNe, Nat.reduceBNe, Nat.reduceAdd, Nat.reduceMul, Nat.reduceEqDiff, Nat.reduceLeDiff, Nat.reduceLT, Nat.reduceBEq, reduceCtorEq, reduceIte, hx2, lt_t hx2, lt_p hx2, nat_in (lt_n hx2) hlhx2, c6, p8, g5_3, g5_5, g5_6, g5_9, g5_10, g5_11, og5_0, og5_1]
      refine ⟨_, [], [0, 274], (Option.some.inj h).symm, by decide, ?_⟩
      try simp only [go_sem, Int.reduceLT, Int.reduceLE, Int.reduceBEq, Int.reduceBNe, Nat.reduceBNe, Nat.reduceAdd, Nat.reduceMul, Nat.reduceEqDiff, Nat.reduceLeDiff, Nat.reduceLT, Nat.reduceBEq, reduceCtorEq, reduceIte, hx2, lt_t hx2, lt_p hx2, nat_in (lt_n hx2) hlhx2, c6, p8, g5_3, g5_5, g5_6, g5_9, g5_10, g5_11, og5_0, og5_1, IV, sts_cons, sts_nil, obs_cons, obs_nil]
    · try simp only [go_sem, Int.reduceLT, Int.reduceLE, Int.reduceBEq, Int.reduceBNe, Nat.reduceBNe, Nat.reduceAdd, Nat.reduceMul, Nat.reduceEqDiff, Nat.reduceLeDiff, Nat.reduceLT, Nat.reduceBEq, reduceCtorEq, reduceIte, hx2, lt_t hx2, lt_p hx2, nat_in (lt_n hx2) hlhx2, c6, g5_3, g5_5, g5_6, g5_9, g5_10, g5_11, og5_0, og5_1]
      obtain ⟨v24, e9, h⟩ := bind_K h
      refine call_K (by first | exact i_CompareFacts_ok e9 | simpa only [go_sem, Int.reduceLT, Int.reduceLE, Int.reduceBEq, Int.reduceBNe, Nat.reduceBNe, Nat.reduceAdd, Nat.reduceMul, Nat.reduceEqDiff, Nat.reduceLeDiff, Nat.reduceLT, Nat.reduceBEq, reduceCtorEq, reduceIte, hx2, lt_t hx2, lt_p hx2, nat_in (lt_n hx2) hlhx2, c6, g5_3, g5_5, g5_6, g5_9, g5_10, g5_11, og5_0, og5_1] using i_CompareFacts_ok e9) ?_
      try simp only [go_sem, Int.reduceLT, Int.reduceLE, Int.reduceBEq, Int.reduceBNe, Nat.reduceBNe, Nat.reduceAdd, Nat.reduceMul, Nat.reduceEqDiff, Nat.reduceLeDiff, Nat.reduceLT, Nat.reduceBEq, reduceCtorEq, reduceIte, hx2, lt_t hx2, lt_p hx2, nat_in (lt_n hx2) hlhx2, c6, g5_3, g5_5, g5_6, g5_9, g5_10, g5_11, og5_0, og5_1]
      refine ite_K h (fun c10 h => ?_) (fun c10 h => ?_)
      · try simp only [go_sem, Int.reduceLT, Int.reduceLE, Int.reduceBEq, Int.reduceBNe, Nat.reduceBNe, Nat.reduceAdd, Nat.reduceMul, Nat.reduceEqDiff, Nat.reduceLeDiff, Nat.reduceLT, Nat.reduceBEq, reduceCtorEq, reduceIte, hx2, lt_t hx2, lt_p hx2, nat_in (lt_n hx2) hlhx2, c6, c10, g5_3, g5_5, g5_6, g5_9, g5_10, g5_11, og5_0, og5_1]
        obtain ⟨v25, e11, h⟩ := bind_K h
        refine call_K (by first | exact i_copyFact_ok e11 | simpa only [go_sem, Int.reduceLT, Int.reduceLE, Int.reduceBEq, Int.reduceBNe, Nat.reduceBNe, Nat.reduceAdd, Nat.reduceMul, Nat.reduceEqDiff, Nat.reduceLeDiff, Nat.reduceLT, Nat.reduceBEq, reduceCtorEq, reduceIte, hx2, lt_t hx2, lt_p hx2, nat_in (lt_n hx2) hlhx2, c6, c10, g5_3, g5_5, g5_6, g5_9, g5_10, g5_11, og5_0, og5_1] using i_copyFact_ok e11) ?_
        obtain ⟨p12, h⟩ := chk_K h
        try simp only [Nat.reduceLeDiff] at p12
        try simp only [go_sem, Int.reduceLT, Int.reduceLE, Int.reduceBEq, Int.reduceBNe, Nat.reduceBNe, Nat.reduceAdd, Nat.reduceMul, Nat.reduceEqDiff, Nat.reduceLeDiff, Nat.reduceLT, Nat.reduceBEq, reduceCtorEq, reduceIte, hx2, lt_t hx2, lt_p hx2, nat_in (lt_n hx2) hlhx2, c6, c10, p12, g5_3, g5_5, g5_6, g5_9, g5_10, g5_11, og5_0, og5_1]
        obtain ⟨v26, e13, h⟩ := bind_K h
        refine call_K (by first | exact i_copyFact_ok e13 | simpa only [go_sem, Int.reduceLT, Int.reduceLE, Int.reduceBEq, Int.reduceBNe, Nat.reduceBNe, Nat.reduceAdd, Nat.reduceMul, Nat.reduceEqDiff, Nat.reduceLeDiff, Nat.reduceLT, Nat.reduceBEq, reduceCtorEq, reduceIte, hx2, lt_t hx2, lt_p hx2, nat_in (lt_n hx2) hlhx2, c6, c10, p12, g5_3, g5_5, g5_6, g5_9, g5_10, g5_11, og5_0, og5_1] using i_copyFact_ok e13) ?_
        obtain ⟨p14, h⟩ := chk_K h
        try simp only [Nat.reduceLeDiff] at p14
        try simp only [go_sem, Int.reduceLT, Int.reduceLE, Int.reduceBEq, Int.reduceBNe, Nat.reduceBNe, Nat.reduceAdd, Nat.reduceMul, Nat.reduceEqDiff, Nat.reduceLeDiff, Nat.reduceLT, Nat.reduceBEq, reduceCtorEq, reduceIte, hx2, lt_t hx2, lt_p hx2, nat_in (lt_n hx2) hlhx2, c6, c10, p12, p14, g5_3, g5_5, g5_6, g5_9, g5_10, g5_11, og5_0, og5_1]
        refine ⟨_, [], [0, 386], (Option.some.inj h).symm, by decide, ?_⟩
        try simp only [go_sem, Int.reduceLT, Int.reduceLE, Int.reduceBEq, Int.reduceBNe, Nat.reduceBNe, Nat.reduceAdd, Nat.reduceMul, Nat.reduceEqDiff, Nat.reduceLeDiff, Nat.reduceLT, Nat.reduceBEq, reduceCtorEq, reduceIte, hx2, lt_t hx2, lt_p hx2, nat_in (lt_n hx2) hlhx2, c6, c10, p12, p14, g5_3, g5_5, g5_6, g5_9, g5_10, g5_11, og5_0, og5_1, IV, sts_cons, sts_nil, obs_cons, obs_nil]
      · try simp only [go_sem, Int.reduceLT, Int.reduceLE, Int.reduceBEq, Int.reduceBNe, Nat.reduceBNe, Nat.reduceAdd, Nat.reduceMul, Nat.reduceEqDiff, Nat.reduceLeDiff, Nat.reduceLT, Nat.reduceBEq, reduceCtorEq, reduceIte, hx2, lt_t hx2, lt_p hx2, nat_in (lt_n hx2) hlhx2, c6, c10, g5_3, g5_5, g5_6, g5_9, g5_10, g5_11, og5_0, og5_1]
        obtain ⟨v27, e15, h⟩ := bind_K h
        refine call_K (by first | exact i_copyFact_ok e15 | simpa only [go_sem, Int.reduceLT, Int.reduceLE, Int.reduceBEq, Int.reduceBNe, Nat.reduceBNe, Nat.reduceAdd, Nat.reduceMul, Nat.reduceEqDiff, Nat.reduceLeDiff, Nat.reduceLT, Nat.reduceBEq, reduceCtorEq, reduceIte, hx2, lt_t hx2, lt_p hx2, nat_in (lt_n hx2) hlhx2, c6, c10, g5_3, g5_5, g5_6, g5_9, g5_10, g5_11, og5_0, og5_1] using i_copyFact_ok e15) ?_
        obtain ⟨p16, h⟩ := chk_K h
        try simp only [Nat.reduceLeDiff] at p16
        try simp only [go_sem, Int.reduceLT, Int.reduceLE, Int.reduceBEq, Int.reduceBNe, Nat.reduceBNe, Nat.reduceAdd, Nat.reduceMul, Nat.reduceEqDiff, Nat.reduceLeDiff, Nat.reduceLT, Nat.reduceBEq, reduceCtorEq, reduceIte, hx2, lt_t hx2, lt_p hx2, nat_in (lt_n hx2) hlhx2, c6, c10, p16, g5_3, g5_5, g5_6, g5_9, g5_10, g5_11, og5_0, og5_1]
        refine ⟨_, [], [0, 274], (Option.some.inj h).symm, by decide, ?_⟩
        try simp only [go_sem, Int.reduceLT, Int.reduceLE, Int.reduceBEq, Int.reduceBNe, Nat.reduceBNe, Nat.reduceAdd, Nat.reduceMul, Nat.reduceEqDiff, Nat.reduceLeDiff, Nat.reduceLT, Nat.reduceBEq, reduceCtorEq, reduceIte, hx2, lt_t hx2, lt_p hx2, nat_in (lt_n hx2) hlhx2, c6, c10, p16, g5_3, g5_5, g5_6, g5_9, g5_10, g5_11, og5_0, og5_1, IV, sts_cons, sts_nil, obs_cons, obs_nil]
  · rintro ⟨row_11, done_13⟩ ⟨sl, ob, n⟩ hI17 hW18 h
    simp only [IV, sts_cons, sts_nil, obs_cons, obs_nil, and_true, true_and, Nat.reduceAdd, str_len] at hI17
    obtain ⟨⟨g19_3, g19_5, g19_6, g19_9, g19_10, g19_11⟩, og19_0, og19_1, hn⟩ := hI17
    subst hn
    try simp only [go_sem, Int.reduceLT, Int.reduceLE, Int.reduceBEq, Int.reduceBNe, Nat.reduceBNe, Nat.reduceAdd, Nat.reduceMul, Nat.reduceEqDiff, Nat.reduceLeDiff, Nat.reduceLT, Nat.reduceBEq, reduceCtorEq, reduceIte, lt_f (l_0.length), g19_3, g19_5, g19_6, g19_9, g19_10, g19_11, og19_0, og19_1]
    refine ite_K h (fun c20 h => ?_) (fun c20 h => ?_)
    · obtain rfl := Option.some.inj h
      try simp only [go_sem, Int.reduceLT, Int.reduceLE, Int.reduceBEq, Int.reduceBNe, Nat.reduceBNe, Nat.reduceAdd, Nat.reduceMul, Nat.reduceEqDiff, Nat.reduceLeDiff, Nat.reduceLT, Nat.reduceBEq, reduceCtorEq, reduceIte, lt_f (l_0.length), c20, g19_3, g19_5, g19_6, g19_9, g19_10, g19_11, og19_0, og19_1]
    · try simp only [go_sem, Int.reduceLT, Int.reduceLE, Int.reduceBEq, Int.reduceBNe, Nat.reduceBNe, Nat.reduceAdd, Nat.reduceMul, Nat.reduceEqDiff, Nat.reduceLeDiff, Nat.reduceLT, Nat.reduceBEq, reduceCtorEq, reduceIte, lt_f (l_0.length), c20, g19_3, g19_5, g19_6, g19_9, g19_10, g19_11, og19_0, og19_1]
      obtain ⟨v28, e21, h⟩ := bind_K h
      refine call_K (by first | exact i_copyFact_ok e21 | simpa only [go_sem, Int.reduceLT, Int.reduceLE, Int.reduceBEq, Int.reduceBNe, Nat.reduceBNe, Nat.reduceAdd, Nat.reduceMul, Nat.reduceEqDiff, Nat.reduceLeDiff, Nat.reduceLT, Nat.reduceBEq, reduceCtorEq, reduceIte, lt_f (l_0.length), c20, g19_3, g19_5, g19_6, g19_9, g19_10, g19_11, og19_0, og19_1] using i_copyFact_ok e21) ?_
      obtain ⟨p22, h⟩ := chk_K h
      try simp only [Nat.reduceLeDiff] at p22
      obtain rfl := Option.some.inj h
      try simp only [go_sem, Int.reduceLT, Int.reduceLE, Int.reduceBEq, Int.reduceBNe, Nat.reduceBNe, Nat.reduceAdd, Nat.reduceMul, Nat.reduceEqDiff, Nat.reduceLeDiff, Nat.reduceLT, Nat.reduceBEq, reduceCtorEq, reduceIte, lt_f (l_0.length), c20, p22, g19_3, g19_5, g19_6, g19_9, g19_10, g19_11, og19_0, og19_1]
end Go.Proofs.YtppjenkjopjeiaaDoor

namespace Go.Proofs.YtppjenkjopjeiaaDoor
open Go.Proofs.Tryd
set_option linter.unusedSimpArgs false
set_option linter.unusedVariables false
set_option maxRecDepth 1000000
set_option maxHeartbeats 4000000
theorem s_GivenIn_ok {steps_0 : (List StepD)} {r : (List FactD)} (h : s_GivenIn steps_0 = some r) : Sound Tryd.prog J0 22 [(false, [.sl 39 4 (List.map eStep steps_0)])] [(false, [(false, .sl 37 2 (List.map eFact r))])] := by
  refine fnk Tryd.func22 (by kernel_rfl) rfl (by kernel_rfl) (by kernel_rfl) ?_
  unfold s_GivenIn at h
  have ks0 : strOk ⟨#[]⟩ = true := by decide
  simp only [fnS, f22, argSt, go_sem, Int.reduceLT, Int.reduceLE, Int.reduceBEq, Int.reduceBNe, Nat.reduceBNe, Nat.reduceAdd, Nat.reduceMul, Nat.reduceEqDiff, Nat.reduceLeDiff, Nat.reduceLT, Nat.reduceBEq, reduceCtorEq, reduceIte, ks0]
  refine swp_for h (fun i row_3 st => IV [(0, .p false [.c (.sl 39 4 (List.map eStep steps_0))]), (3, .p false [.row 0]), (4, .p false [.c (.int .i64 ((i : Nat) : Int))])] [.row 37 2 (List.map eFact row_3) 2] st) [] [16] (by decide) ?_ ?_ ?_
  · simp only [go_sem, Int.reduceLT, Int.reduceLE, Int.reduceBEq, Int.reduceBNe, Nat.reduceBNe, Nat.reduceAdd, Nat.reduceMul, Nat.reduceEqDiff, Nat.reduceLeDiff, Nat.reduceLT, Nat.reduceBEq, reduceCtorEq, reduceIte, IV, sts_cons, sts_nil, obs_cons, obs_nil, ks0]
  · rintro i7 x8 row_3 ⟨sl, ob, n⟩ y1 hx2 hI3 hW4 h hy1
    simp only [IV, sts_cons, sts_nil, obs_cons, obs_nil, and_true, true_and, Nat.reduceAdd, str_len] at hI3
    obtain ⟨⟨g5_0, g5_3, g5_4⟩, og5_0, hn⟩ := hI3
    subst hn
    have hlhx2 := WF.slotL hW4 g5_0 (j := 0) rfl
    try simp only [go_sem, Int.reduceLT, Int.reduceLE, Int.reduceBEq, Int.reduceBNe, Nat.reduceBNe, Nat.reduceAdd, Nat.reduceMul, Nat.reduceEqDiff, Nat.reduceLeDiff, Nat.reduceLT, Nat.reduceBEq, reduceCtorEq, reduceIte, ks0, hx2, lt_t hx2, lt_p hx2, nat_in (lt_n hx2) hlhx2, g5_0, g5_3, g5_4, og5_0]
    refine ite_K h (fun c6 h => ?_) (fun c6 h => ?_)
    · try simp only [go_sem, Int.reduceLT, Int.reduceLE, Int.reduceBEq, Int.reduceBNe, Nat.reduceBNe, Nat.reduceAdd, Nat.reduceMul, Nat.reduceEqDiff, Nat.reduceLeDiff, Nat.reduceLT, Nat.reduceBEq, reduceCtorEq, reduceIte, ks0, hx2, lt_t hx2, lt_p hx2, nat_in (lt_n hx2) hlhx2, c6, g5_0, g5_3, g5_4, og5_0]
      obtain ⟨v9, e7, h⟩ := bind_K h
      refine call_K (by first | exact s_l2Put_ok e7 | simpa only [go_sem, Int.reduceLT, Int.reduceLE, Int.reduceBEq, Int.reduceBNe, Nat.reduceBNe, Nat.reduceAdd, Nat.reduceMul, Nat.reduceEqDiff, Nat.reduceLeDiff, Nat.reduceLT, Nat.reduceBEq, reduceCtorEq, reduceIte, ks0, hx2, lt_t hx2, lt_p hx2, nat_in (lt_n hx2) hlhx2, c6, g5_0, g5_3, g5_4, og5_0] using s_l2Put_ok e7) ?_
      try simp only [go_sem, Int.reduceLT, Int.reduceLE, Int.reduceBEq, Int.reduceBNe, Nat.reduceBNe, Nat.reduceAdd, Nat.reduceMul, Nat.reduceEqDiff, Nat.reduceLeDiff, Nat.reduceLT, Nat.reduceBEq, reduceCtorEq, reduceIte, ks0, hx2, lt_t hx2, lt_p hx2, nat_in (lt_n hx2) hlhx2, c6, g5_0, g5_3, g5_4, og5_0]
      refine ⟨_, [], [257], (Option.some.inj h).symm, by decide, ?_⟩
      try simp only [go_sem, Int.reduceLT, Int.reduceLE, Int.reduceBEq, Int.reduceBNe, Nat.reduceBNe, Nat.reduceAdd, Nat.reduceMul, Nat.reduceEqDiff, Nat.reduceLeDiff, Nat.reduceLT, Nat.reduceBEq, reduceCtorEq, reduceIte, ks0, hx2, lt_t hx2, lt_p hx2, nat_in (lt_n hx2) hlhx2, c6, g5_0, g5_3, g5_4, og5_0, IV, sts_cons, sts_nil, obs_cons, obs_nil]
    · try simp only [go_sem, Int.reduceLT, Int.reduceLE, Int.reduceBEq, Int.reduceBNe, Nat.reduceBNe, Nat.reduceAdd, Nat.reduceMul, Nat.reduceEqDiff, Nat.reduceLeDiff, Nat.reduceLT, Nat.reduceBEq, reduceCtorEq, reduceIte, ks0, hx2, lt_t hx2, lt_p hx2, nat_in (lt_n hx2) hlhx2, c6, g5_0, g5_3, g5_4, og5_0]
      refine ⟨_, [], [0], (Option.some.inj h).symm, by decide, ?_⟩
      try simp only [go_sem, Int.reduceLT, Int.reduceLE, Int.reduceBEq, Int.reduceBNe, Nat.reduceBNe, Nat.reduceAdd, Nat.reduceMul, Nat.reduceEqDiff, Nat.reduceLeDiff, Nat.reduceLT, Nat.reduceBEq, reduceCtorEq, reduceIte, ks0, hx2, lt_t hx2, lt_p hx2, nat_in (lt_n hx2) hlhx2, c6, g5_0, g5_3, g5_4, og5_0, IV, sts_cons, sts_nil, obs_cons, obs_nil]
  · rintro row_3 ⟨sl, ob, n⟩ hI8 hW9 h
    simp only [IV, sts_cons, sts_nil, obs_cons, obs_nil, and_true, true_and, Nat.reduceAdd, str_len] at hI8
    obtain ⟨⟨g10_0, g10_3, g10_4⟩, og10_0, hn⟩ := hI8
    subst hn
    obtain rfl := Option.some.inj h
    try simp only [go_sem, Int.reduceLT, Int.reduceLE, Int.reduceBEq, Int.reduceBNe, Nat.reduceBNe, Nat.reduceAdd, Nat.reduceMul, Nat.reduceEqDiff, Nat.reduceLeDiff, Nat.reduceLT, Nat.reduceBEq, reduceCtorEq, reduceIte, ks0, lt_f (steps_0.length), g10_0, g10_3, g10_4, og10_0]
theorem i_GivenIn_ok {steps_0 : (List StepD)} {r : (List FactD)} (h : i_GivenIn steps_0 = some r) : Sound Tryd.prog J0 24 [(false, [.sl 39 4 (List.map eStep steps_0)])] [(false, [(false, .sl 37 2 (List.map eFact r))])] := by
  refine fnk Tryd.func24 (by kernel_rfl) rfl (by kernel_rfl) (by kernel_rfl) ?_
  unfold i_GivenIn at h
  have ks0 : strOk ⟨#[]⟩ = true := by decide
  simp only [fnS, f24, argSt, go_sem, Int.reduceLT, Int.reduceLE, Int.reduceBEq, Int.reduceBNe, Nat.reduceBNe, Nat.reduceAdd, Nat.reduceMul, Nat.reduceEqDiff, Nat.reduceLeDiff, Nat.reduceLT, Nat.reduceBEq, reduceCtorEq, reduceIte, ks0]
  refine swp_for h (fun i row_7 st => IV [(3, .p false [.row 0]), (6, .p false [.c (.sl 39 4 (List.map eStep steps_0))]), (7, .p false [.c (.int .i64 ((steps_0.length : Nat) : Int))]), (8, .p false [.c (.int .i64 ((i : Nat) : Int))])] [.row 37 2 (List.map eFact row_7) 2] st) [(false, 3, 0)] [80] (by decide) ?_ ?_ ?_
  · simp only [go_sem, Int.reduceLT, Int.reduceLE, Int.reduceBEq, Int.reduceBNe, Nat.reduceBNe, Nat.reduceAdd, Nat.reduceMul, Nat.reduceEqDiff, Nat.reduceLeDiff, Nat.reduceLT, Nat.reduceBEq, reduceCtorEq, reduceIte, IV, sts_cons, sts_nil, obs_cons, obs_nil, ks0]
  · rintro i12 x13 row_7 ⟨sl, ob, n⟩ y1 hx2 hI3 hW4 h hy1
    simp only [IV, sts_cons, sts_nil, obs_cons, obs_nil, and_true, true_and, Nat.reduceAdd, str_len] at hI3
    obtain ⟨⟨g5_3, g5_6, g5_7, g5_8⟩, og5_0, hn⟩ := hI3
    subst hn
    have hlhx2 := WF.slotL hW4 g5_6 (j := 0) rfl
    try simp only [go_sem, Int.reduceLT, Int.reduceLE, Int.reduceBEq, Int.reduceBNe, Nat.reduceBNe, Nat.reduceAdd, Nat.reduceMul, Nat.reduceEqDiff, Nat.reduceLeDiff, Nat.reduceLT, Nat.reduceBEq, reduceCtorEq, reduceIte, ks0, hx2, lt_t hx2, lt_p hx2, nat_in (lt_n hx2) hlhx2, g5_3, g5_6, g5_7, g5_8, og5_0]
    refine ite_K h (fun c6 h => ?_) (fun c6 h => ?_)
    · try simp only [go_sem, Int.reduceLT, Int.reduceLE, Int.reduceBEq, Int.reduceBNe, Nat.reduceBNe, Nat.reduceAdd, Nat.reduceMul, Nat.reduceEqDiff, Nat.reduceLeDiff, Nat.reduceLT, Nat.reduceBEq, reduceCtorEq, reduceIte, ks0, hx2, lt_t hx2, lt_p hx2, nat_in (lt_n hx2) hlhx2, c6, g5_3, g5_6, g5_7, g5_8, og5_0]
      obtain ⟨v14, e7, h⟩ := bind_K h
      refine call_K (by first | exact i_FindFact_ok e7 | simpa only [go_sem, Int.reduceLT, Int.reduceLE, Int.reduceBEq, Int.reduceBNe, Nat.reduceBNe, Nat.reduceAdd, Nat.reduceMul, Nat.reduceEqDiff, Nat.reduceLeDiff, Nat.reduceLT, Nat.reduceBEq, reduceCtorEq, reduceIte, ks0, hx2, lt_t hx2, lt_p hx2, nat_in (lt_n hx2) hlhx2, c6, g5_3, g5_6, g5_7, g5_8, og5_0] using i_FindFact_ok e7) ?_
      try simp only [go_sem, Int.reduceLT, Int.reduceLE, Int.reduceBEq, Int.reduceBNe, Nat.reduceBNe, Nat.reduceAdd, Nat.reduceMul, Nat.reduceEqDiff, Nat.reduceLeDiff, Nat.reduceLT, Nat.reduceBEq, reduceCtorEq, reduceIte, ks0, hx2, lt_t hx2, lt_p hx2, nat_in (lt_n hx2) hlhx2, c6, g5_3, g5_6, g5_7, g5_8, og5_0]
      refine ite_K h (fun c8 h => ?_) (fun c8 h => ?_)
      · try simp only [go_sem, Int.reduceLT, Int.reduceLE, Int.reduceBEq, Int.reduceBNe, Nat.reduceBNe, Nat.reduceAdd, Nat.reduceMul, Nat.reduceEqDiff, Nat.reduceLeDiff, Nat.reduceLT, Nat.reduceBEq, reduceCtorEq, reduceIte, ks0, hx2, lt_t hx2, lt_p hx2, nat_in (lt_n hx2) hlhx2, c6, c8, g5_3, g5_6, g5_7, g5_8, og5_0]
        obtain ⟨v15, e9, h⟩ := bind_K h
        refine call_K (by first | exact i_putFact_ok e9 | simpa only [go_sem, Int.reduceLT, Int.reduceLE, Int.reduceBEq, Int.reduceBNe, Nat.reduceBNe, Nat.reduceAdd, Nat.reduceMul, Nat.reduceEqDiff, Nat.reduceLeDiff, Nat.reduceLT, Nat.reduceBEq, reduceCtorEq, reduceIte, ks0, hx2, lt_t hx2, lt_p hx2, nat_in (lt_n hx2) hlhx2, c6, c8, g5_3, g5_6, g5_7, g5_8, og5_0] using i_putFact_ok e9) ?_
        try simp only [go_sem, Int.reduceLT, Int.reduceLE, Int.reduceBEq, Int.reduceBNe, Nat.reduceBNe, Nat.reduceAdd, Nat.reduceMul, Nat.reduceEqDiff, Nat.reduceLeDiff, Nat.reduceLT, Nat.reduceBEq, reduceCtorEq, reduceIte, ks0, hx2, lt_t hx2, lt_p hx2, nat_in (lt_n hx2) hlhx2, c6, c8, g5_3, g5_6, g5_7, g5_8, og5_0]
        refine ⟨_, [], [289], (Option.some.inj h).symm, by decide, ?_⟩
        try simp only [go_sem, Int.reduceLT, Int.reduceLE, Int.reduceBEq, Int.reduceBNe, Nat.reduceBNe, Nat.reduceAdd, Nat.reduceMul, Nat.reduceEqDiff, Nat.reduceLeDiff, Nat.reduceLT, Nat.reduceBEq, reduceCtorEq, reduceIte, ks0, hx2, lt_t hx2, lt_p hx2, nat_in (lt_n hx2) hlhx2, c6, c8, g5_3, g5_6, g5_7, g5_8, og5_0, IV, sts_cons, sts_nil, obs_cons, obs_nil]
      · try simp only [go_sem, Int.reduceLT, Int.reduceLE, Int.reduceBEq, Int.reduceBNe, Nat.reduceBNe, Nat.reduceAdd, Nat.reduceMul, Nat.reduceEqDiff, Nat.reduceLeDiff, Nat.reduceLT, Nat.reduceBEq, reduceCtorEq, reduceIte, ks0, hx2, lt_t hx2, lt_p hx2, nat_in (lt_n hx2) hlhx2, c6, c8, g5_3, g5_6, g5_7, g5_8, og5_0]
        refine ⟨_, [], [0], (Option.some.inj h).symm, by decide, ?_⟩
        try simp only [go_sem, Int.reduceLT, Int.reduceLE, Int.reduceBEq, Int.reduceBNe, Nat.reduceBNe, Nat.reduceAdd, Nat.reduceMul, Nat.reduceEqDiff, Nat.reduceLeDiff, Nat.reduceLT, Nat.reduceBEq, reduceCtorEq, reduceIte, ks0, hx2, lt_t hx2, lt_p hx2, nat_in (lt_n hx2) hlhx2, c6, c8, g5_3, g5_6, g5_7, g5_8, og5_0, IV, sts_cons, sts_nil, obs_cons, obs_nil]
    · try simp only [go_sem, Int.reduceLT, Int.reduceLE, Int.reduceBEq, Int.reduceBNe, Nat.reduceBNe, Nat.reduceAdd, Nat.reduceMul, Nat.reduceEqDiff, Nat.reduceLeDiff, Nat.reduceLT, Nat.reduceBEq, reduceCtorEq, reduceIte, ks0, hx2, lt_t hx2, lt_p hx2, nat_in (lt_n hx2) hlhx2, c6, g5_3, g5_6, g5_7, g5_8, og5_0]
      refine ⟨_, [], [0], (Option.some.inj h).symm, by decide, ?_⟩
      try simp only [go_sem, Int.reduceLT, Int.reduceLE, Int.reduceBEq, Int.reduceBNe, Nat.reduceBNe, Nat.reduceAdd, Nat.reduceMul, Nat.reduceEqDiff, Nat.reduceLeDiff, Nat.reduceLT, Nat.reduceBEq, reduceCtorEq, reduceIte, ks0, hx2, lt_t hx2, lt_p hx2, nat_in (lt_n hx2) hlhx2, c6, g5_3, g5_6, g5_7, g5_8, og5_0, IV, sts_cons, sts_nil, obs_cons, obs_nil]
  · rintro row_7 ⟨sl, ob, n⟩ hI10 hW11 h
    simp only [IV, sts_cons, sts_nil, obs_cons, obs_nil, and_true, true_and, Nat.reduceAdd, str_len] at hI10
    obtain ⟨⟨g12_3, g12_6, g12_7, g12_8⟩, og12_0, hn⟩ := hI10
    subst hn
    obtain rfl := Option.some.inj h
    try simp only [go_sem, Int.reduceLT, Int.reduceLE, Int.reduceBEq, Int.reduceBNe, Nat.reduceBNe, Nat.reduceAdd, Nat.reduceMul, Nat.reduceEqDiff, Nat.reduceLeDiff, Nat.reduceLT, Nat.reduceBEq, reduceCtorEq, reduceIte, ks0, lt_f (steps_0.length), g12_3, g12_6, g12_7, g12_8, og12_0]
end Go.Proofs.YtppjenkjopjeiaaDoor

namespace Go.Proofs.YtppjenkjopjeiaaDoor
open Go.RowKit
/-- a codec and trees say the same -/
structure Enc {α : Type} (c : Codec α) (f : α → List CT) : Prop where
  to : ∀ {w : World} {cs : List Value} {x : α} {L : List Nat}, c.rep w cs x L → RCs w (f x) cs L
  of : ∀ {w : World} {cs : List Value} {x : α} {L : List Nat}, RCs w (f x) cs L → c.rep w cs x L
section
variable {α : Type} {c : Codec α} {f : α → List CT} {w : World}
theorem Enc.reps (h : Enc c f) : ∀ {ds : List α} {xs : List Value} {L : List Nat}, c.reps w xs ds L → REs w c.size (ds.map f) xs L
  | [], _, _, h1 => h1
  | _ :: _, _, _, ⟨c1, c2, L1, L2, h1, h2, h3, h4⟩ => ⟨c1, c2, L1, L2, h1, h2, ⟨h.to h3, c.len h3⟩, h.reps h4⟩
theorem Enc.reps_of (h : Enc c f) : ∀ {ds : List α} {xs : List Value} {L : List Nat}, REs w c.size (ds.map f) xs L → c.reps w xs ds L
  | [], _, _, h1 => h1
  | _ :: _, _, _, ⟨c1, c2, L1, L2, h1, h2, h3, h4⟩ => ⟨c1, c2, L1, L2, h1, h2, h.of h3.1, h.reps_of h4⟩
theorem Enc.sl (h : Enc c f) (e : Nat) {v : Value} {ds : List α} {L : List Nat} : (sliceC c).rep w [v] ds L ↔ RC w (.sl e c.size (ds.map f)) v L := by
  constructor
  · rintro ⟨A, cap, hv, h1, h2, xs, L0, L1, hL, h3, h4⟩
    obtain rfl : v = _ := by simpa using hv
    exact ⟨A, cap, xs, L0, L1, by simp, by simpa using h1, h2, hL, c.pos, by simpa using h3, h.reps h4⟩
  · rintro ⟨A, cap, xs, L0, L1, hv, h1, h2, hL, h0, h3, h4⟩
    exact ⟨A, cap, by simpa using hv, by simpa using h1, h2, xs, L0, L1, hL, by simpa using h3, h.reps_of h4⟩
theorem RCs.solo {x : CT} {v : Value} {L : List Nat} (h : RC w x v L) : RCs w [x] [v] L := ⟨v, [], L, [], rfl, by simp, h, rfl, rfl⟩
theorem RCs.more {x : CT} {v : Value} {L M : List Nat} {r : List CT} {cs : List Value} (h : RC w x v L) (k : RCs w r cs M) : RCs w (x :: r) (v :: cs) (L ++ M) := ⟨v, cs, L, M, rfl, rfl, h, k⟩
theorem Enc.slice (h : Enc c f) (e : Nat) : Enc (sliceC c) (fun l => [.sl e c.size (l.map f)]) where
  to := fun {w cs x L} hr => by
    obtain ⟨A, cap, rfl, h1⟩ := id hr
    exact RCs.solo ((h.sl e).1 hr)
  of := fun {w cs x L} hr => by
    obtain ⟨v, cs', L1, L2, rfl, rfl, h1, rfl, rfl⟩ := hr
    rw [List.append_nil]
    exact (h.sl e).2 h1
end
theorem encInt : Enc intC eInt where
  to := fun ⟨h1, h2⟩ => by subst h1; subst h2; exact RCs.solo ⟨rfl, rfl⟩
  of := fun ⟨v, cs', L1, L2, h1, h2, h3, h4, h5⟩ => by
    obtain ⟨rfl, rfl⟩ := h3
    subst h4; subst h5; exact ⟨h1, h2⟩
theorem encByte : Enc byteC eByte where
  to := fun ⟨h1, h2⟩ => by subst h1; subst h2; exact RCs.solo ⟨rfl, rfl⟩
  of := fun ⟨v, cs', L1, L2, h1, h2, h3, h4, h5⟩ => by
    obtain ⟨rfl, rfl⟩ := h3
    subst h4; subst h5; exact ⟨h1, h2⟩
theorem encBool : Enc boolC eBool where
  to := fun ⟨h1, h2⟩ => by subst h1; subst h2; exact RCs.solo ⟨rfl, rfl⟩
  of := fun ⟨v, cs', L1, L2, h1, h2, h3, h4, h5⟩ => by
    obtain ⟨rfl, rfl⟩ := h3
    subst h4; subst h5; exact ⟨h1, h2⟩
theorem encStr : Enc strC eStr where
  to := fun ⟨h1, h2, h3⟩ => by subst h1; subst h2; exact RCs.solo ⟨rfl, rfl, h3⟩
  of := fun ⟨v, cs', L1, L2, h1, h2, h3, h4, h5⟩ => by
    obtain ⟨rfl, rfl, t⟩ := h3
    subst h4; subst h5; exact ⟨h1, h2, t⟩
/-- an argument; nothing is written to in the meantime -/
def Arg0 (w : World) : Bool × List CT → Value → Prop := ArgR w fun _ => False
theorem arg_sl {α : Type} {c : Codec α} {f : α → List CT} (h : Enc c f) (e : Nat) {w : World} {v : Value} {ds : List α} {L : List Nat} (hr : (sliceC c).rep w [v] ds L) : Arg0 w (false, [.sl e c.size (ds.map f)]) v := .inr ⟨rfl, _, L, rfl, (h.sl e).1 hr, fun _ _ h => h⟩
theorem arg_int (w : World) (n : Int) : Arg0 w (false, [.int .i64 n]) (.int .i64 n) := .inr ⟨rfl, _, [], rfl, ⟨rfl, rfl⟩, fun _ _ h => h⟩
theorem arg_bool (w : World) (b : Bool) : Arg0 w (false, [.bool b]) (.bool b) := .inr ⟨rfl, _, [], rfl, ⟨rfl, rfl⟩, fun _ _ h => h⟩
theorem arg_str (w : World) (s : ByteArray) (h : s.size ≤ 9223372036854775807) : Arg0 w (false, [.str s]) (.string s) := .inr ⟨rfl, _, [], rfl, ⟨rfl, rfl, h⟩, fun _ _ h => h⟩
theorem arg_agg {α : Type} {c : Codec α} {f : α → List CT} (h : Enc c f) {w : World} {vs : List Value} {x : α} {L : List Nat} (hr : c.rep w vs x L) : Arg0 w (true, f x) (.agg vs.toArray) := .inl ⟨rfl, vs, L, rfl, h.to hr, fun _ _ h => h⟩
section
variable {w w' : World} {v : Value} {e : Ending}
theorem res_one {B : Nat} {n : Nat → Prop} {x : RT} (h : ResR w B n [x] v) : ∃ F, OP w B n x v F ∧ Own w B F := by
  obtain ⟨vs, F, ⟨u, vs', F1, F2, rfl, rfl, h1, rfl, rfl⟩, h2, rfl⟩ := h
  rw [List.append_nil] at h2
  exact ⟨F1, by simpa using h1, h2⟩
theorem res_sl {α : Type} {c : Codec α} {f : α → List CT} (h : Enc c f) {t : Nat} {ds : List α} {n : Nat → Prop} (hr : ResR w' w.heap.size n [(false, [(false, .sl t c.size (ds.map f))])] v) (hb : Below w.heap.size w w') : AccC c t w v ds w' := by
  obtain ⟨F, h1, h2⟩ := res_one hr
  rcases h1 with ⟨h1, _⟩ | ⟨_, ct, h1, h3⟩
  · simp at h1
  · obtain rfl : _ = ct := by simpa using h1
    obtain ⟨_, cs, L, h4, h5, rfl, _⟩ := h3
    exact ⟨⟨cs, L, by simpa using h4, h.reps_of h5, h2⟩, hb⟩
theorem res_int {n : Int} {B : Nat} {m : Nat → Prop} (hr : ResR w B m [(false, [(false, .int .i64 n)])] v) : v = .int .i64 n := by
  obtain ⟨F, h1, h2⟩ := res_one hr
  rcases h1 with ⟨h1, _⟩ | ⟨_, ct, h1, h3⟩
  · simp at h1
  · obtain rfl : _ = ct := by simpa using h1
    exact h3.1.1
theorem res_bool {b : Bool} {B : Nat} {m : Nat → Prop} (hr : ResR w B m [(false, [(false, .bool b)])] v) : v = .bool b := by
  obtain ⟨F, h1, h2⟩ := res_one hr
  rcases h1 with ⟨h1, _⟩ | ⟨_, ct, h1, h3⟩
  · simp at h1
  · obtain rfl : _ = ct := by simpa using h1
    exact h3.1.1
theorem res_str {s : ByteArray} {B : Nat} {m : Nat → Prop} (hr : ResR w B m [(false, [(false, .str s)])] v) : v = .string s := by
  obtain ⟨F, h1, h2⟩ := res_one hr
  rcases h1 with ⟨h1, _⟩ | ⟨_, ct, h1, h3⟩
  · simp at h1
  · obtain rfl : _ = ct := by simpa using h1
    exact h3.1.1
/-- a slice that is only lent: what it leads to lies in the world -/
theorem res_lent {α : Type} {c : Codec α} {f : α → List CT} (h : Enc c f) {t B : Nat} {ds : List α} {n : Nat → Prop} (hr : ResR w B n [(false, [(true, .sl t c.size (ds.map f))])] v) : ∃ L, (sliceC c).rep w [v] ds L := by
  obtain ⟨F, h1, h2⟩ := res_one hr
  rcases h1 with ⟨h1, _⟩ | ⟨_, ct, h1, h3⟩
  · simp at h1
  · obtain rfl : _ = ct := by simpa using h1
    obtain ⟨_, L, h4, _⟩ := h3
    exact ⟨L, (h.sl t).2 h4⟩
end
section
variable {P : Program} {J : World → Prop} {f : FuncId} {args : List (Bool × List CT)} {res : List RT}
theorem Sound.calls (h : Sound P J f args res) {w : World} {vs : List Value} (hj : J w) (ha : All2 (Arg0 w) args vs) : Calls P f vs.toArray w fun e w' => ∃ v n, e = .returned v ∧ ResR w' w.heap.size n res v ∧ Below w.heap.size w w' :=
  (h.2 w (fun _ => False) vs hj (fun _ h => h.elim) ha).mono fun _ _ ⟨v, n, h1, h2, _, h3⟩ => ⟨v, n, h1, h2, h3⟩
/-- a slice as the result -/
theorem Sound.givesS {α : Type} {c : Codec α} {g : α → List CT} {t : Nat} {ds : List α} (h : Sound P J f args [(false, [(false, .sl t c.size (ds.map g))])]) (hg : Enc c g) {w : World} {vs : List Value} (hj : J w) (ha : All2 (Arg0 w) args vs) : Calls P f vs.toArray w (GivesS c t w ds) :=
  (h.calls hj ha).mono fun _ _ ⟨v, _, h1, h2, h3⟩ => ⟨v, h1, res_sl hg h2 h3⟩
theorem Sound.givesB {b : Bool} (h : Sound P J f args [(false, [(false, .bool b)])]) {w : World} {vs : List Value} (hj : J w) (ha : All2 (Arg0 w) args vs) : Calls P f vs.toArray w fun e w' => e = .returned (.bool b) ∧ Below w.heap.size w w' :=
  (h.calls hj ha).mono fun _ _ ⟨v, _, h1, h2, h3⟩ => ⟨by rw [h1, res_bool h2], h3⟩
theorem Sound.givesI {b : Int} (h : Sound P J f args [(false, [(false, .int .i64 b)])]) {w : World} {vs : List Value} (hj : J w) (ha : All2 (Arg0 w) args vs) : Calls P f vs.toArray w fun e w' => e = .returned (.int .i64 b) ∧ Below w.heap.size w w' :=
  (h.calls hj ha).mono fun _ _ ⟨v, _, h1, h2, h3⟩ => ⟨by rw [h1, res_int h2], h3⟩
theorem Sound.givesT {b : ByteArray} (h : Sound P J f args [(false, [(false, .str b)])]) {w : World} {vs : List Value} (hj : J w) (ha : All2 (Arg0 w) args vs) : Calls P f vs.toArray w fun e w' => e = .returned (.string b) ∧ Below w.heap.size w w' :=
  (h.calls hj ha).mono fun _ _ ⟨v, _, h1, h2, h3⟩ => ⟨by rw [h1, res_str h2], h3⟩
end
end Go.Proofs.YtppjenkjopjeiaaDoor

namespace Go.Proofs.YtppjenkjopjeiaaDoor
theorem encFact : Enc cFact eFact where
  to := fun {w cs x L} h => by
    obtain ⟨A1, c1, L1, rfl, rfl, t0, n1, m1, s1⟩ := h
    have hh : RCs w (eFact x) _ _ := RCs.more ⟨rfl, rfl, t0⟩ (RCs.solo ((encStr.sl 9).1 ⟨A1, c1, rfl, n1, m1, s1⟩))
    simpa only [List.nil_append, List.append_nil, List.append_assoc] using hh
  of := fun {w cs x L} h => by
    obtain ⟨v0, r0, K0, M0, rfl, rfl, h0, v1, r1, K1, M1, rfl, rfl, h1, rfl, rfl⟩ := h
    obtain ⟨rfl, rfl, t0⟩ := h0
    obtain ⟨A1, c1, e1, n1, m1, s1⟩ := (encStr.sl 9).2 h1
    cases e1
    exact ⟨A1, c1, _, rfl, by simp only [List.nil_append, List.append_nil, List.append_assoc], t0, n1, m1, s1⟩
theorem encStep : Enc cStep eStep where
  to := fun {w cs x L} h => by
    obtain ⟨A1, c1, L1, A2, c2, L2, rfl, rfl, t0, t1, n1, m1, s1, n2, m2, s2⟩ := h
    have hh : RCs w (eStep x) _ _ := RCs.more ⟨rfl, rfl, t0⟩ (RCs.more ((encStr.sl 9).1 ⟨A1, c1, rfl, n1, m1, s1⟩) (RCs.more ⟨rfl, rfl, t1⟩ (RCs.solo ((encInt.sl 3).1 ⟨A2, c2, rfl, n2, m2, s2⟩))))
    simpa only [List.nil_append, List.append_nil, List.append_assoc] using hh
  of := fun {w cs x L} h => by
    obtain ⟨v0, r0, K0, M0, rfl, rfl, h0, v1, r1, K1, M1, rfl, rfl, h1, v2, r2, K2, M2, rfl, rfl, h2, v3, r3, K3, M3, rfl, rfl, h3, rfl, rfl⟩ := h
    obtain ⟨rfl, rfl, t0⟩ := h0
    obtain ⟨A1, c1, e1, n1, m1, s1⟩ := (encStr.sl 9).2 h1
    cases e1
    obtain ⟨rfl, rfl, t1⟩ := h2
    obtain ⟨A2, c2, e2, n2, m2, s2⟩ := (encInt.sl 3).2 h3
    cases e2
    exact ⟨A1, c1, _, A2, c2, _, rfl, by simp only [List.nil_append, List.append_nil, List.append_assoc], t0, t1, n1, m1, s1, n2, m2, s2⟩
end Go.Proofs.YtppjenkjopjeiaaDoor

namespace Go.Proofs.YtppjenkjopjeiaaDoor
open Go.RowKit

set_option maxHeartbeats 400000 in
theorem szStringS_any (A : Option Addr) (n c : Nat) (ds : List ByteArray) (L : List Nat) (left : Int) (w : World) (hn : n = ds.length) (hm : n ≤ 9223372036854775807) (h0 : 0 ≤ left) (h1 : left ≤ 1048576) (h : Sli strC w A ds L) :
    Calls Tryd.prog 60 #[.slice A n c, .int .i64 left] w (SzPost (costStrs ds) left w) := by
  have H := Lib.hid h
  have HN := Lib.hid hn
  clear h hn
  by_cases hlen : (n : Int) ≤ left
  · go_enter Tryd.func60, Tryd.ntmps60
    go_wp2
    go_loop [1, 5] (fun q i => ∃ (k : Nat) (l : Int), k ≤ n ∧ i = .int .i64 k ∧ q = .int .i64 l ∧ 0 ≤ l ∧ l ≤ left ∧ Hid (szR ((ds.drop k).map ByteArray.size).sum l = szR (costStrs ds) left)) (fun _ i => n - (intOf i).toNat)
    case atStart => exact ⟨0, left - n, Nat.zero_le _, rfl, rfl, by omega, by omega, Lib.hid (by
        have e := HN.out
        exact szR_step _ _ _ _ (by omega) (by simp [costStrs]; omega))⟩
    case round =>
      obtain ⟨k, l, hk, rfl, rfl, hl0, hl1, HE⟩ := hrel
      by_cases hlt : k < n
      · obtain ⟨b, off, cs, Lk, rfl, _, _, hrep, hc⟩ := H.out.at_ (show k < ds.length by have := HN.out; omega)
        obtain ⟨rfl, _, hss⟩ := str_rep hrep
        have hc0 := hc 0 _ rfl
        clear hc hrep
        have hd : Hid (ds.drop k = ds[k]'(by have := HN.out; omega) :: ds.drop (k + 1)) := List.drop_eq_getElem_cons _
        generalize ds[k]'(by have := HN.out; omega) = s at hc0 hd hss
        simp only [show strC.size = 1 from rfl, Nat.mul_one, Nat.add_zero] at hc0
        by_cases hs : (s.size : Int) ≤ l
        · go_wp2
          go_round
          case rel => exact ⟨k + 1, l - s.size, by omega, by go_num, rfl, by omega, by omega, Lib.hid (by rw [← HE.out, hd.out]; exact szR_step _ _ _ _ (by omega) (by simp))⟩
          case measure => simp [intOf]; omega
        · go_wp2
          go_ret
          exact ⟨ret_i (by rw [← HE.out, hd.out, szR_neg (by simp; omega)]), Below.refl _ _⟩
      · go_wp2
        go_ret
        exact ⟨ret_i (by rw [← HE.out, List.drop_of_length_le (by have := HN.out; omega)]; simp [szR, hl0]), Below.refl _ _⟩
  · go_enter Tryd.func60, Tryd.ntmps60
    go_wp2
    go_ret
    exact ⟨ret_i (by rw [szR_neg (by have := HN.out; simp [costStrs]; omega)]), Below.refl _ _⟩

set_option maxHeartbeats 400000 in
theorem szIntS_any (A : Option Addr) (n c : Nat) (left : Int) (w : World) (hm : n ≤ 9223372036854775807) (h0 : 0 ≤ left) (h1 : left ≤ 1048576) :
    Calls Tryd.prog 33 #[.slice A n c, .int .i64 left] w (SzPost n left w) := by
  by_cases hlen : (n : Int) ≤ left
  all_goals
    go_enter Tryd.func33, Tryd.ntmps33
    go_wp2
    go_ret
  · exact ⟨ret_i (by rw [szR_pos hlen]), Below.refl _ _⟩
  · exact ⟨ret_i (by rw [szR_neg (by omega)]), Below.refl _ _⟩


set_option maxHeartbeats 800000 in
theorem szFact_any (cs : List Value) (x : FactD) (L : List Nat) (left : Int) (w : World) (h0 : 0 ≤ left) (h1 : left ≤ 1048576) (h : cFact.rep w cs x L) :
    Calls Tryd.prog 32 #[.agg cs.toArray, .int .i64 left] w (SzPost (costFact x) left w) := by
  obtain ⟨A1, c1, L1, rfl, _hL, t0, n1, m1, s1⟩ := h
  unfold maxLen at m1
  have S1 := Lib.hid s1
  clear s1
  have B0 : Hid (Below w.heap.size w (w.alloc (.cells #[.string x.rel, .slice A1 x.args.length c1] 31))) := (Below.refl _ _).alloc (Nat.le_refl _) _
  have K0 : Hid (Blk (w.alloc (.cells #[.string x.rel, .slice A1 x.args.length c1] 31)) w.heap.size 31 #[.string x.rel, .slice A1 x.args.length c1]) := Blk.new _ _ _
  go_enter Tryd.func32, Tryd.ntmps32
  by_cases k1 : (x.rel.size : Int) ≤ left
  rotate_left
  · go_wp2_with fail
    go_ret
    exact ⟨ret_i (by rw [szR_neg (by simp only [costFact]; omega)]), B0.out⟩
  go_wp2_with fail
  refine (szStringS_any A1 _ c1 x.args L1 _ _ rfl (by omega) (by omega) (by omega) (S1.out.below B0.out)).mono ?_
  rintro e w1 ⟨rfl, hb1⟩
  have B1 := Lib.hid (B0.out.trans (hb1.mono B0.out.size))
  have K1 := Lib.hid (K0.out.later hb1)
  have f0 := K1.out.at (i := 0) rfl
  have f1 := K1.out.at (i := 1) rfl
  clear hb1
  by_cases k2 : ((costStrs x.args : Nat) : Int) ≤ left - x.rel.size
  rotate_left
  · rw [szR_neg k2]
    go_wp2_with fail
    go_ret
    exact ⟨ret_i (by rw [szR_neg (by simp only [costFact]; omega)]), B1.out⟩
  rw [szR_pos k2]
  go_wp2_with fail
  go_ret
  exact ⟨ret_i (by rw [szR_pos (by simp only [costFact]; omega)] <;> simp only [costFact] <;> omega), B1.out⟩

set_option maxHeartbeats 800000 in
theorem szStep_any (cs : List Value) (x : StepD) (L : List Nat) (left : Int) (w : World) (h0 : 0 ≤ left) (h1 : left ≤ 1048576) (h : cStep.rep w cs x L) :
    Calls Tryd.prog 11 #[.agg cs.toArray, .int .i64 left] w (SzPost (costStep x) left w) := by
  obtain ⟨A1, c1, L1, A2, c2, L2, rfl, _hL, t0, t1, n1, m1, s1, n2, m2, s2⟩ := h
  unfold maxLen at m1 m2
  have S1 := Lib.hid s1
  clear s1
  have S2 := Lib.hid s2
  clear s2
  have B0 : Hid (Below w.heap.size w (w.alloc (.cells #[.string x.fact.rel, .slice A1 x.fact.args.length c1, .string x.rule, .slice A2 x.uses.length c2] 34))) := (Below.refl _ _).alloc (Nat.le_refl _) _
  have K0 : Hid (Blk (w.alloc (.cells #[.string x.fact.rel, .slice A1 x.fact.args.length c1, .string x.rule, .slice A2 x.uses.length c2] 34)) w.heap.size 34 #[.string x.fact.rel, .slice A1 x.fact.args.length c1, .string x.rule, .slice A2 x.uses.length c2]) := Blk.new _ _ _
  go_enter Tryd.func11, Tryd.ntmps11
  go_wp2_with fail
  refine (szFact_any [.string x.fact.rel, .slice A1 x.fact.args.length c1] x.fact _ _ _ (by omega) (by omega) ⟨A1, c1, L1, rfl, rfl, t0, n1, (by unfold maxLen; omega), S1.out.below B0.out⟩).mono ?_
  rintro e w1 ⟨rfl, hb1⟩
  have B1 := Lib.hid (B0.out.trans (hb1.mono B0.out.size))
  have K1 := Lib.hid (K0.out.later hb1)
  have f0 := K1.out.at (i := 0) rfl
  have f1 := K1.out.at (i := 1) rfl
  have f2 := K1.out.at (i := 2) rfl
  have f3 := K1.out.at (i := 3) rfl
  clear hb1
  by_cases k1 : ((costFact x.fact : Nat) : Int) ≤ left
  rotate_left
  · rw [szR_neg k1]
    go_wp2_with fail
    go_ret
    exact ⟨ret_i (by rw [szR_neg (by simp only [costStep]; omega)]), B1.out⟩
  rw [szR_pos k1]
  by_cases k2 : (x.rule.size : Int) ≤ left - (costFact x.fact : Nat)
  rotate_left
  · go_wp2_with fail
    go_ret
    exact ⟨ret_i (by rw [szR_neg (by simp only [costStep]; omega)]), B1.out⟩
  go_wp2_with fail
  refine (szIntS_any A2 _ c2 _ _ (by omega) (by omega) (by omega)).mono ?_
  rintro e w2 ⟨rfl, hb2⟩
  have B2 := Lib.hid (B1.out.trans (hb2.mono B1.out.size))
  have K2 := Lib.hid (K1.out.later hb2)
  clear f0 f1 f2 f3
  have f0 := K2.out.at (i := 0) rfl
  have f1 := K2.out.at (i := 1) rfl
  have f2 := K2.out.at (i := 2) rfl
  have f3 := K2.out.at (i := 3) rfl
  clear hb2
  by_cases k3 : ((x.uses.length : Nat) : Int) ≤ left - (costFact x.fact : Nat) - x.rule.size
  rotate_left
  · rw [szR_neg k3]
    go_wp2_with fail
    go_ret
    exact ⟨ret_i (by rw [szR_neg (by simp only [costStep]; omega)]), B2.out⟩
  rw [szR_pos k3]
  go_wp2_with fail
  go_ret
  exact ⟨ret_i (by rw [szR_pos (by simp only [costStep]; omega)] <;> simp only [costStep] <;> omega), B2.out⟩

set_option maxHeartbeats 800000 in
theorem szStepS_any (A : Option Addr) (n c : Nat) (ds : List StepD) (L : List Nat) (left : Int) (w : World) (hn : n = ds.length) (hm : n ≤ 9223372036854775807) (h0 : 0 ≤ left) (h1 : left ≤ 1048576) (h : Sli cStep w A ds L) :
    Calls Tryd.prog 21 #[.slice A n c, .int .i64 left] w (SzPost (costStepS ds) left w) := by
  have H := Lib.hid h
  have HN := Lib.hid hn
  clear h hn
  by_cases hlen : (n : Int) ≤ left
  · go_enter Tryd.func21, Tryd.ntmps21
    go_wp2
    go_loopw [1, 5] (fun q i wr => ∃ (k : Nat) (l : Int), k ≤ n ∧ i = .int .i64 k ∧ q = .int .i64 l ∧ 0 ≤ l ∧ l ≤ left ∧ Hid (Below w.heap.size w wr) ∧ Hid (szR ((ds.drop k).map costStep).sum l = szR (costStepS ds) left)) (fun _ i _ => n - (intOf i).toNat)
    case atStart => exact ⟨0, left - n, Nat.zero_le _, rfl, rfl, by omega, by omega, Below.refl _ _, Lib.hid (by
        have e := HN.out
        exact szR_step _ _ _ _ (by omega) (by simp only [costStepS, List.drop_zero]; omega))⟩
    case round =>
      obtain ⟨k, l, hk, rfl, rfl, hl0, hl1, HB, HE⟩ := hrel
      by_cases hlt : k < n
      · have hkl : k < ds.length := by have := HN.out; omega
        obtain ⟨b, off, cs, Lk, rfl, hbL, hLk, hrep, hc⟩ := H.out.at_ hkl
        have hbl : b < w.heap.size := H.out.lt b hbL
        have HR := Lib.hid (cStep.keep hrep (keep_below HB.out (fun y m => H.out.lt y (hLk y m))))
        obtain ⟨A1, c1, A2, c2, rfl⟩ := cStep_cells hrep
        have q0 : wr.cell? ⟨b, off + k * 4, none⟩ = _ := (HB.out.cell (p := ⟨b, off + (k * 4 + 0), none⟩) hbl).trans (hc 0 _ rfl)
        have q1 : wr.cell? ⟨b, off + k * 4 + 1, none⟩ = _ := (HB.out.cell (p := ⟨b, off + (k * 4 + 1), none⟩) hbl).trans (hc 1 _ rfl)
        have q2 : wr.cell? ⟨b, off + k * 4 + 2, none⟩ = _ := (HB.out.cell (p := ⟨b, off + (k * 4 + 2), none⟩) hbl).trans (hc 2 _ rfl)
        have q3 : wr.cell? ⟨b, off + k * 4 + 3, none⟩ = _ := (HB.out.cell (p := ⟨b, off + (k * 4 + 3), none⟩) hbl).trans (hc 3 _ rfl)
        have hd : Hid (ds.drop k = ds[k] :: ds.drop (k + 1)) := List.drop_eq_getElem_cons _
        generalize ds[k] = x at *
        clear hc hrep
        by_cases hs : (costStep x : Int) ≤ l
        · go_wp2_with (go_at_call 11; refine (szStep_any _ x Lk _ _ (by omega) (by omega) HR.out).mono ?_; rintro e w1 ⟨rfl, hb1⟩; rw [szR_pos hs]; have HB1 := Lib.hid (HB.out.trans (hb1.mono HB.out.size)); clear hb1)
          go_roundw
          case rel => exact ⟨k + 1, l - costStep x, by omega, by go_num, rfl, by omega, by omega, HB1.out, Lib.hid (by rw [← HE.out, hd.out]; exact szR_step _ _ _ _ (by omega) (by simp))⟩
          case measure => simp [intOf]; omega
        · go_wp2_with (go_at_call 11; refine (szStep_any _ x Lk _ _ (by omega) (by omega) HR.out).mono ?_; rintro e w1 ⟨rfl, hb1⟩; rw [szR_neg hs]; have HB1 := Lib.hid (HB.out.trans (hb1.mono HB.out.size)); clear hb1)
          go_ret
          exact ⟨ret_i (by rw [← HE.out, hd.out, szR_neg (by simp; omega)]), HB1.out⟩
      · go_wp2
        go_ret
        exact ⟨ret_i (by rw [← HE.out, List.drop_of_length_le (by have := HN.out; omega)]; simp [szR, hl0]), HB.out⟩
  · go_enter Tryd.func21, Tryd.ntmps21
    go_wp2
    go_ret
    exact ⟨ret_i (by rw [szR_neg (by have := HN.out; simp only [costStepS]; omega)]), Below.refl _ _⟩

end Go.Proofs.YtppjenkjopjeiaaDoor

namespace Go.Proofs.YtppjenkjopjeiaaDoor
open Go.RowKit

theorem Tryd.infoString_ : (Tryd.prog.info? 9).map (fun i => (i.zero, i.size, i.bytes)) = some (some (.string ⟨#[]⟩), 1, 16) := by kernel_rfl
set_option maxHeartbeats 1600000 in
theorem toStringS_any (A : Option Addr) (n c : Nat) (ds : List ByteArray) (L : List Nat) (w : World) (hn : n = ds.length) (hm : ds.length ≤ 1099511627776) (h : Sli strC w A ds L) :
    Calls Tryd.prog 63 #[.slice A n c] w (GivesS strC 9 w ds) := by
  obtain ⟨i0, hi, hz0, hz1, hz2⟩ := info_parts Tryd.infoString_
  rw [← hn] at hm
  have H := Lib.hid h
  have HN := Lib.hid hn
  clear h hn
  go_enter Tryd.func63, Tryd.ntmps63
  go_wp2_with (at_make; refine wpList_make_full _ rfl _ _ 29 rfl w.heap.size 9 i0 _ 1 Tryd.underlying29 hi hz0 hz1 .i64 .i64 _ _ n rfl rfl rfl rfl (by rw [hz2]; omega) (by unfold maxLen; omega) (Nat.le_refl _) ?_; intro w1 hown hg)
  have hb : Below w.heap.size w w1 := (Below.refl _ _).grown hg (Nat.le_refl _) (by simp)
  have HF0 : Hid (Filling strC 9 w n ds 0 w1) := Filling.start hown hb
  clear hown hg hb
  go_wp2
  go_loopw [4] (fun i wr => ∃ (k : Nat), k ≤ n ∧ i = .int .i64 k ∧ Hid (Filling strC 9 w n ds k wr)) (fun i _ => n - (intOf i).toNat)
  case atStart => exact ⟨0, Nat.zero_le _, rfl, HF0⟩
  case round =>
    obtain ⟨k, hk, rfl, HF⟩ := hrel
    by_cases hlt : k < n
    · have hkl : k < ds.length := by have := HN.out; omega
      obtain ⟨b, off, cs, Lk, rfl, hbL, hLk, hrep, hc⟩ := H.out.at_ hkl
      have hbl : b < w.heap.size := H.out.lt b hbL
      have hrep0 := hrep
      obtain ⟨rfl, _, hss⟩ := hrep0
      have q0 := (HF.out.below.cell (p := ⟨b, off + (k * strC.size + 0), none⟩) hbl).trans (hc 0 _ rfl)
      have HS := Lib.hid (HF.out.store (w2 := wr) (x := ds[k]) (M := []) hlt HN.out (fun _ => rfl) (Below.refl _ _) ⟨⟨rfl, rfl, hss⟩, Own.nil _ _⟩)
      obtain ⟨d0, e0⟩ := HF.out.cell hlt (j := 0) (by decide)
      have z0 := HF.out.frozen k
      simp only [show strC.size = 1 from rfl, Nat.mul_one, Nat.add_zero] at q0 HS e0
      generalize ds[k] = x at *
      clear hc hrep
      go_wp2_with fail
      go_roundw
      case rel => exact ⟨k + 1, by omega, by go_num, HS.out⟩
      case measure => simp [intOf]; omega
    · obtain rfl : k = n := by omega
      go_wp2
      go_ret
      exact ⟨_, rfl, HF.out.done HN.out⟩

theorem Tryd.infoInt_ : (Tryd.prog.info? 3).map (fun i => (i.zero, i.size, i.bytes)) = some (some (.int .i64 0), 1, 8) := by kernel_rfl
set_option maxHeartbeats 1600000 in
theorem toIntS_any (A : Option Addr) (n c : Nat) (ds : List Int) (L : List Nat) (w : World) (hn : n = ds.length) (hm : ds.length ≤ 1099511627776) (h : Sli intC w A ds L) :
    Calls Tryd.prog 38 #[.slice A n c] w (GivesS intC 3 w ds) := by
  obtain ⟨i0, hi, hz0, hz1, hz2⟩ := info_parts Tryd.infoInt_
  rw [← hn] at hm
  have H := Lib.hid h
  have HN := Lib.hid hn
  clear h hn
  go_enter Tryd.func38, Tryd.ntmps38
  go_wp2_with (at_make; refine wpList_make_full _ rfl _ _ 32 rfl w.heap.size 3 i0 _ 1 Tryd.underlying32 hi hz0 hz1 .i64 .i64 _ _ n rfl rfl rfl rfl (by rw [hz2]; omega) (by unfold maxLen; omega) (Nat.le_refl _) ?_; intro w1 hown hg)
  have hb : Below w.heap.size w w1 := (Below.refl _ _).grown hg (Nat.le_refl _) (by simp)
  have HF0 : Hid (Filling intC 3 w n ds 0 w1) := Filling.start hown hb
  clear hown hg hb
  go_wp2
  go_loopw [4] (fun i wr => ∃ (k : Nat), k ≤ n ∧ i = .int .i64 k ∧ Hid (Filling intC 3 w n ds k wr)) (fun i _ => n - (intOf i).toNat)
  case atStart => exact ⟨0, Nat.zero_le _, rfl, HF0⟩
  case round =>
    obtain ⟨k, hk, rfl, HF⟩ := hrel
    by_cases hlt : k < n
    · have hkl : k < ds.length := by have := HN.out; omega
      obtain ⟨b, off, cs, Lk, rfl, hbL, hLk, hrep, hc⟩ := H.out.at_ hkl
      have hbl : b < w.heap.size := H.out.lt b hbL
      have hrep0 := hrep
      obtain ⟨rfl, _⟩ := hrep0
      have q0 := (HF.out.below.cell (p := ⟨b, off + (k * intC.size + 0), none⟩) hbl).trans (hc 0 _ rfl)
      have HS := Lib.hid (HF.out.store (w2 := wr) (x := ds[k]) (M := []) hlt HN.out (fun _ => rfl) (Below.refl _ _) ⟨⟨rfl, rfl⟩, Own.nil _ _⟩)
      obtain ⟨d0, e0⟩ := HF.out.cell hlt (j := 0) (by decide)
      have z0 := HF.out.frozen k
      simp only [show intC.size = 1 from rfl, Nat.mul_one, Nat.add_zero] at q0 HS e0
      generalize ds[k] = x at *
      clear hc hrep
      go_wp2_with fail
      go_roundw
      case rel => exact ⟨k + 1, by omega, by go_num, HS.out⟩
      case measure => simp [intOf]; omega
    · obtain rfl : k = n := by omega
      go_wp2
      go_ret
      exact ⟨_, rfl, HF.out.done HN.out⟩

set_option maxHeartbeats 1600000 in
theorem toFact_any (cs : List Value) (x : FactD) (L : List Nat) (w : World) (hz : costFact x ≤ 1048576) (h : cFact.rep w cs x L) :
    Calls Tryd.prog 37 #[.agg cs.toArray] w (Gives cFact w x) := by
  obtain ⟨A1, c1, L1, rfl, _hL, t0, n1, m1, s1⟩ := h
  unfold maxLen at m1
  have S1 := Lib.hid s1
  clear s1
  simp only [costFact] at hz
  go_enter Tryd.func37, Tryd.ntmps37
  go_wp2_with fail
  refine (toStringS_any A1 _ c1 x.args L1 _ rfl (by simp only [costStrs] at hz; omega) (S1.out.below (by repeat (first | refine Below.setCell ?_ (by dsimp only; omega) _ | refine Below.alloc ?_ (by first | (simp; done) | (simp; omega) | omega) _ | exact Below.refl _ _)))).mono ?_
  rintro e w1 ⟨v1, rfl, a1⟩
  obtain ⟨vA1, vc1, rfl⟩ := a1.shape
  have hb1 := a1.below
  obtain ⟨M1, g1⟩ := a1.got
  clear a1
  have G1 := Lib.hid (g1.mono (show w.heap.size + 3 ≤ _ by simp))
  have lt1 := Lib.hid g1.lt
  clear g1
  have B1 : Hid (Below w.heap.size w w1) := Below.trans (by repeat (first | refine Below.setCell ?_ (by dsimp only; omega) _ | refine Below.alloc ?_ (by first | (simp; done) | (simp; omega) | omega) _ | exact Below.refl _ _)) (hb1.mono (by first | (simp; done) | (simp; omega) | omega))
  have K0 : Hid (Blk w1 w.heap.size 31 #[.string x.rel, .slice A1 x.args.length c1]) := Blk.later (Blk.alloc (Blk.alloc (Blk.new _ _ _) _) _) hb1
  have K1 : Hid (Blk w1 (w.heap.size + 1) 37 #[.string ⟨#[]⟩, .slice none 0 0]) := Blk.later (Blk.alloc (Blk.new_at (by simp)) _) hb1
  have K2 : Hid (Blk w1 (w.heap.size + 1 + 1) 37 #[.string x.rel, .slice none 0 0]) := Blk.later (Blk.new_at (by simp)) hb1
  have f0 := K0.out.at (i := 0) rfl
  have r0 := K1.out.at (i := 0) rfl
  have o0 := K2.out.at (i := 0) rfl
  have rz0 := K1.out.frozen 0
  have oz0 := K2.out.frozen 0
  have f1 := K0.out.at (i := 1) rfl
  have r1 := K1.out.at (i := 1) rfl
  have o1 := K2.out.at (i := 1) rfl
  have rz1 := K1.out.frozen 1
  have oz1 := K2.out.frozen 1
  have hz1 : w.heap.size + 2 < w1.heap.size := by have := hb1.size; simp at this; omega
  clear hb1
  go_wp2_with fail
  refine bodyPost_ret (v := .agg #[.string x.rel, .slice vA1 x.args.length vc1]) (by simp [results, Tryd.results37, go_sem, r0, r1]) rfl ?_
  obtain ⟨nn1, mm1, ss1⟩ := sliceC_out G1.out.rep
  exact gives_of (wr := w1) (M1) ⟨⟨vA1, vc1, M1, rfl, rfl, t0, nn1, mm1, ss1⟩, by have o := G1.out.own; simpa only [List.append_assoc] using o⟩ (by intro b hb; repeat rw [Below.heap_setCell _ _ _ _ (by dsimp only; omega)]) (by repeat (first | refine Below.setCell ?_ (by dsimp only; omega) _ | refine Below.alloc ?_ (by first | (simp; done) | (simp; omega) | omega) _ | exact B1.out))

set_option maxHeartbeats 1600000 in
theorem toStep_any (cs : List Value) (x : StepD) (L : List Nat) (w : World) (hz : costStep x ≤ 1048576) (h : cStep.rep w cs x L) :
    Calls Tryd.prog 13 #[.agg cs.toArray] w (Gives cStep w x) := by
  obtain ⟨A1, c1, L1, A2, c2, L2, rfl, _hL, t0, t1, n1, m1, s1, n2, m2, s2⟩ := h
  unfold maxLen at m1 m2
  have S1 := Lib.hid s1
  clear s1
  have S2 := Lib.hid s2
  clear s2
  simp only [costStep] at hz
  go_enter Tryd.func13, Tryd.ntmps13
  go_wp2_with fail
  refine (toFact_any [.string x.fact.rel, .slice A1 x.fact.args.length c1] x.fact _ _ (by omega) ⟨A1, c1, L1, rfl, rfl, t0, n1, (by unfold maxLen; omega), S1.out.below (by repeat (first | refine Below.setCell ?_ (by dsimp only; omega) _ | refine Below.alloc ?_ (by first | (simp; done) | (simp; omega) | omega) _ | exact Below.refl _ _))⟩).mono ?_
  rintro e w1 ⟨cs1, M1, rfl, g1, hb1⟩
  obtain ⟨vA1, vc1, rfl⟩ := cFact_cells g1.rep
  have G1 := Lib.hid (g1.mono (show w.heap.size + 3 ≤ _ by simp))
  have lt1 := Lib.hid g1.lt
  clear g1
  have B1 : Hid (Below w.heap.size w w1) := Below.trans (by repeat (first | refine Below.setCell ?_ (by dsimp only; omega) _ | refine Below.alloc ?_ (by first | (simp; done) | (simp; omega) | omega) _ | exact Below.refl _ _)) (hb1.mono (by first | (simp; done) | (simp; omega) | omega))
  have K0 : Hid (Blk w1 w.heap.size 34 #[.string x.fact.rel, .slice A1 x.fact.args.length c1, .string x.rule, .slice A2 x.uses.length c2]) := Blk.later (Blk.alloc (Blk.alloc (Blk.new _ _ _) _) _) hb1
  have K1 : Hid (Blk w1 (w.heap.size + 1) 39 #[.string ⟨#[]⟩, .slice none 0 0, .string ⟨#[]⟩, .slice none 0 0]) := Blk.later (Blk.alloc (Blk.new_at (by simp)) _) hb1
  have K2 : Hid (Blk w1 (w.heap.size + 1 + 1) 39 #[.string ⟨#[]⟩, .slice none 0 0, .string ⟨#[]⟩, .slice none 0 0]) := Blk.later (Blk.new_at (by simp)) hb1
  have f0 := K0.out.at (i := 0) rfl
  have r0 := K1.out.at (i := 0) rfl
  have o0 := K2.out.at (i := 0) rfl
  have rz0 := K1.out.frozen 0
  have oz0 := K2.out.frozen 0
  have f1 := K0.out.at (i := 1) rfl
  have r1 := K1.out.at (i := 1) rfl
  have o1 := K2.out.at (i := 1) rfl
  have rz1 := K1.out.frozen 1
  have oz1 := K2.out.frozen 1
  have f2 := K0.out.at (i := 2) rfl
  have r2 := K1.out.at (i := 2) rfl
  have o2 := K2.out.at (i := 2) rfl
  have rz2 := K1.out.frozen 2
  have oz2 := K2.out.frozen 2
  have f3 := K0.out.at (i := 3) rfl
  have r3 := K1.out.at (i := 3) rfl
  have o3 := K2.out.at (i := 3) rfl
  have rz3 := K1.out.frozen 3
  have oz3 := K2.out.frozen 3
  have hz1 : w.heap.size + 2 < w1.heap.size := by have := hb1.size; simp at this; omega
  clear hb1
  go_wp2_with fail
  refine (toIntS_any A2 _ c2 x.uses L2 _ rfl (by omega) (S2.out.below (by repeat (first | refine Below.setCell ?_ (by dsimp only; omega) _ | refine Below.alloc ?_ (by first | (simp; done) | (simp; omega) | omega) _ | exact B1.out)))).mono ?_
  rintro e w2 ⟨v2, rfl, a2⟩
  obtain ⟨vA2, vc2, rfl⟩ := a2.shape
  have hb2 := a2.below
  obtain ⟨M2, g2⟩ := a2.got
  clear a2
  have G2 := Lib.hid (g2.mono (show w1.heap.size ≤ _ by simp))
  have lt2 := Lib.hid g2.lt
  clear g2
  have B2 : Hid (Below w.heap.size w w2) := Below.trans (by repeat (first | refine Below.setCell ?_ (by dsimp only; omega) _ | refine Below.alloc ?_ (by first | (simp; done) | (simp; omega) | omega) _ | exact B1.out)) (hb2.mono (by first | (simp; done) | (simp; omega) | omega))
  have G1 : Hid (Got cFact (w.heap.size + 3) [.string x.fact.rel, .slice vA1 x.fact.args.length vc1] x.fact M1 w2) := Got.later (by repeat (first | refine Got.setCell ?_ (by dsimp only; omega) _ | exact G1.out)) hb2
  have K0 := Lib.hid (Blk.later (Blk.far (Blk.far (Blk.far K0.out (by dsimp only; omega) _) (by dsimp only; omega) _) (by dsimp only; omega) _) hb2)
  have K1 := Lib.hid (Blk.later (Blk.far (Blk.far (Blk.far K1.out (by dsimp only; omega) _) (by dsimp only; omega) _) (by dsimp only; omega) _) hb2)
  have K2 := Lib.hid (Blk.later (Blk.set_ (Blk.set_ (Blk.set_ K2.out 0 _) 1 _) 2 _) hb2)
  clear f0 r0 o0 rz0 oz0 f1 r1 o1 rz1 oz1 f2 r2 o2 rz2 oz2 f3 r3 o3 rz3 oz3
  have f0 := K0.out.at (i := 0) rfl
  have r0 := K1.out.at (i := 0) rfl
  have o0 := K2.out.at (i := 0) rfl
  have rz0 := K1.out.frozen 0
  have oz0 := K2.out.frozen 0
  have f1 := K0.out.at (i := 1) rfl
  have r1 := K1.out.at (i := 1) rfl
  have o1 := K2.out.at (i := 1) rfl
  have rz1 := K1.out.frozen 1
  have oz1 := K2.out.frozen 1
  have f2 := K0.out.at (i := 2) rfl
  have r2 := K1.out.at (i := 2) rfl
  have o2 := K2.out.at (i := 2) rfl
  have rz2 := K1.out.frozen 2
  have oz2 := K2.out.frozen 2
  have f3 := K0.out.at (i := 3) rfl
  have r3 := K1.out.at (i := 3) rfl
  have o3 := K2.out.at (i := 3) rfl
  have rz3 := K1.out.frozen 3
  have oz3 := K2.out.frozen 3
  have hz2 : w.heap.size + 2 < w2.heap.size := by have := hb2.size; simp at this; omega
  have hy2 : w1.heap.size ≤ w2.heap.size := by have := hb2.size; simp at this; omega
  clear hb2
  go_wp2_with fail
  refine bodyPost_ret (v := .agg #[.string x.fact.rel, .slice vA1 x.fact.args.length vc1, .string x.rule, .slice vA2 x.uses.length vc2]) (by simp [results, Tryd.results13, go_sem, r0, r1, r2, r3]) rfl ?_
  obtain ⟨_, _, N1, hcs1, hL1, _, nn1, mm1, ss1⟩ := G1.out.rep
  cases hcs1
  subst hL1
  obtain ⟨nn2, mm2, ss2⟩ := sliceC_out G2.out.rep
  exact gives_of (wr := w2) (M1 ++ M2) ⟨⟨vA1, vc1, M1, vA2, vc2, M2, rfl, rfl, t0, t1, nn1, mm1, ss1, nn2, mm2, ss2⟩, by have o := (Own.append G1.out.own G2.out.own (by omega) lt1.out); simpa only [List.append_assoc] using o⟩ (by intro b hb; repeat rw [Below.heap_setCell _ _ _ _ (by dsimp only; omega)]) (by repeat (first | refine Below.setCell ?_ (by dsimp only; omega) _ | refine Below.alloc ?_ (by first | (simp; done) | (simp; omega) | omega) _ | exact B2.out))

theorem Tryd.infoStep : (Tryd.prog.info? 39).map (fun i => (i.zero, i.size, i.bytes)) = some (some (.agg #[.string ⟨#[]⟩, .slice none 0 0, .string ⟨#[]⟩, .slice none 0 0]), 4, 80) := by kernel_rfl
set_option maxHeartbeats 1600000 in
theorem toStepS_any (A : Option Addr) (n c : Nat) (ds : List StepD) (L : List Nat) (w : World) (hn : n = ds.length) (hz : costStepS ds ≤ 1048576) (h : Sli cStep w A ds L) :
    Calls Tryd.prog 23 #[.slice A n c] w (GivesS cStep 39 w ds) := by
  obtain ⟨i0, hi, hz0, hz1, hz2⟩ := info_parts Tryd.infoStep
  have H := Lib.hid h
  have HN := Lib.hid hn
  have hm : n ≤ 1048576 := by simp only [costStepS] at hz; omega
  have HZ := Lib.hid hz
  clear h hn hz
  go_enter Tryd.func23, Tryd.ntmps23
  go_wp2_with (at_make; refine wpList_make_full _ rfl _ _ 62 rfl w.heap.size 39 i0 _ 4 Tryd.underlying62 hi hz0 hz1 .i64 .i64 _ _ n rfl rfl rfl rfl (by rw [hz2]; omega) (by unfold maxLen; omega) (Nat.le_refl _) ?_; intro w1 hown hg)
  have hb : Below w.heap.size w w1 := (Below.refl _ _).grown hg (Nat.le_refl _) (by simp)
  have HF0 : Hid (Filling cStep 39 w n ds 0 w1) := Filling.start hown hb
  clear hown hg hb
  go_wp2
  go_loopw [4] (fun i wr => ∃ (k : Nat), k ≤ n ∧ i = .int .i64 k ∧ Hid (Filling cStep 39 w n ds k wr)) (fun i _ => n - (intOf i).toNat)
  case atStart => exact ⟨0, Nat.zero_le _, rfl, HF0⟩
  case round =>
    obtain ⟨k, hk, rfl, HF⟩ := hrel
    by_cases hlt : k < n
    · have hkl : k < ds.length := by have := HN.out; omega
      obtain ⟨b, off, cs, Lk, rfl, hbL, hLk, hrep, hc⟩ := H.out.at_ hkl
      have hbl : b < w.heap.size := H.out.lt b hbL
      have HR := Lib.hid (cStep.keep hrep (keep_below HF.out.below (fun y m => H.out.lt y (hLk y m))))
      obtain ⟨A1, c1, A2, c2, rfl⟩ := cStep_cells hrep
      have q0 : wr.cell? ⟨b, off + k * 4, none⟩ = _ := (HF.out.below.cell (p := ⟨b, off + (k * 4 + 0), none⟩) hbl).trans (hc 0 _ rfl)
      have q1 : wr.cell? ⟨b, off + k * 4 + 1, none⟩ = _ := (HF.out.below.cell (p := ⟨b, off + (k * 4 + 1), none⟩) hbl).trans (hc 1 _ rfl)
      have q2 : wr.cell? ⟨b, off + k * 4 + 2, none⟩ = _ := (HF.out.below.cell (p := ⟨b, off + (k * 4 + 2), none⟩) hbl).trans (hc 2 _ rfl)
      have q3 : wr.cell? ⟨b, off + k * 4 + 3, none⟩ = _ := (HF.out.below.cell (p := ⟨b, off + (k * 4 + 3), none⟩) hbl).trans (hc 3 _ rfl)
      have hcx : Hid (costStep ds[k] ≤ 1048576) := cost_le costStep ds k hkl (by have := HZ.out; simp only [costStepS] at this; omega)
      obtain ⟨x, hx⟩ : ∃ x, x = ds[k] := ⟨_, rfl⟩
      have HX := Lib.hid hx
      rw [← hx] at HR q0 q1 q2 q3 hcx
      clear hc hrep hx
      go_wp2_with fail
      refine (toStep_any _ x Lk _ hcx.out HR.out).mono ?_
      rintro e w2 ⟨cs2, M2, rfl, g2, hb2⟩
      have HF2 := Lib.hid (HF.out.later hb2)
      have HS := Lib.hid (HF.out.store hlt HN.out (fun _ => HX.out) hb2 g2)
      obtain ⟨vA1, vc1, vA2, vc2, rfl⟩ := cStep_cells g2.rep
      clear g2 hb2
      obtain ⟨d0, e0⟩ : ∃ d, w2.cell? ⟨w.heap.size, k * 4, none⟩ = some d := HF2.out.cell hlt (j := 0) (by decide)
      have z0 := HF2.out.frozen (k * 4)
      obtain ⟨d1, e1⟩ : ∃ d, w2.cell? ⟨w.heap.size, k * 4 + 1, none⟩ = some d := HF2.out.cell hlt (j := 1) (by decide)
      have z1 := HF2.out.frozen (k * 4 + 1)
      obtain ⟨d2, e2⟩ : ∃ d, w2.cell? ⟨w.heap.size, k * 4 + 2, none⟩ = some d := HF2.out.cell hlt (j := 2) (by decide)
      have z2 := HF2.out.frozen (k * 4 + 2)
      obtain ⟨d3, e3⟩ : ∃ d, w2.cell? ⟨w.heap.size, k * 4 + 3, none⟩ = some d := HF2.out.cell hlt (j := 3) (by decide)
      have z3 := HF2.out.frozen (k * 4 + 3)
      go_wp2_with fail
      go_roundw
      case rel => exact ⟨k + 1, by omega, by go_num, HS.out⟩
      case measure => simp [intOf]; omega
    · obtain rfl : k = n := by omega
      go_wp2
      go_ret
      exact ⟨_, rfl, HF.out.done HN.out⟩

end Go.Proofs.YtppjenkjopjeiaaDoor

namespace Go.Proofs.YtppjenkjopjeiaaDoor
open Go.RowKit

def TruePost (w : World) (e : Ending) (w' : World) : Prop := e = .returned (.bool true) ∧ Below w.heap.size w w'

set_option maxHeartbeats 1600000 in
theorem eqStringS_any (A B : Option Addr) (n c d : Nat) (ds : List ByteArray) (L M : List Nat) (w : World) (hn : n = ds.length) (hm : n ≤ 9223372036854775807) (h1 : Sli strC w A ds L) (h2 : Sli strC w B ds M) :
    Calls Tryd.prog 66 #[.slice A n c, .slice B n d] w (TruePost w) := by
  have H1 := Lib.hid h1
  have H2 := Lib.hid h2
  have HN := Lib.hid hn
  clear h1 h2 hn
  have hne : ((n : Int) != n) = false := by simp
  go_enter Tryd.func66, Tryd.ntmps66
  go_wp2
  go_loopw [5] (fun i wr => ∃ (k : Nat), k ≤ n ∧ i = .int .i64 k ∧ Hid (∃ q, wr = w.drewN q)) (fun i _ => n - (intOf i).toNat)
  case atStart => exact ⟨0, Nat.zero_le _, rfl, 0, rfl⟩
  case round =>
    obtain ⟨k, hk, rfl, hq⟩ := hrel
    obtain ⟨q, rfl⟩ := hq.out
    by_cases hlt : k < n
    · have hkl : k < ds.length := by have := HN.out; omega
      obtain ⟨b, off, cs, Lk, rfl, _, _, hrep, hc⟩ := H1.out.at_ hkl
      obtain ⟨b', off', cs', Mk, rfl, _, _, hrep', hc'⟩ := H2.out.at_ hkl
      generalize ds[k] = x at *
      obtain ⟨rfl, _, _⟩ := hrep
      obtain ⟨rfl, _, _⟩ := hrep'
      have q0 := hc 0 _ rfl
      have p0 := hc' 0 _ rfl
      simp only [show strC.size = 1 from rfl, Nat.mul_one, Nat.add_zero] at q0 p0
      clear hc hc'
      have k0 : (0 : Int) ≤ k := by omega
      have k1 : (k : Int) < n := by omega
      go_wp2_with fail
      go_quiet (fail)
      go_wp2_with fail
      go_roundw
      case rel => exact ⟨k + 1, by omega, by go_num, by first | exact drew_ex _ _ _ | exact drew_ex1 _ _⟩
      case measure => simp [intOf]; omega
    · go_wp2
      go_ret
      exact ⟨rfl, below_of_drewN _ _ _⟩

set_option maxHeartbeats 1600000 in
theorem eqIntS_any (A B : Option Addr) (n c d : Nat) (ds : List Int) (L M : List Nat) (w : World) (hn : n = ds.length) (hm : n ≤ 9223372036854775807) (h1 : Sli intC w A ds L) (h2 : Sli intC w B ds M) :
    Calls Tryd.prog 42 #[.slice A n c, .slice B n d] w (TruePost w) := by
  have H1 := Lib.hid h1
  have H2 := Lib.hid h2
  have HN := Lib.hid hn
  clear h1 h2 hn
  have hne : ((n : Int) != n) = false := by simp
  go_enter Tryd.func42, Tryd.ntmps42
  go_wp2
  go_loopw [5] (fun i wr => ∃ (k : Nat), k ≤ n ∧ i = .int .i64 k ∧ Hid (∃ q, wr = w.drewN q)) (fun i _ => n - (intOf i).toNat)
  case atStart => exact ⟨0, Nat.zero_le _, rfl, 0, rfl⟩
  case round =>
    obtain ⟨k, hk, rfl, hq⟩ := hrel
    obtain ⟨q, rfl⟩ := hq.out
    by_cases hlt : k < n
    · have hkl : k < ds.length := by have := HN.out; omega
      obtain ⟨b, off, cs, Lk, rfl, _, _, hrep, hc⟩ := H1.out.at_ hkl
      obtain ⟨b', off', cs', Mk, rfl, _, _, hrep', hc'⟩ := H2.out.at_ hkl
      generalize ds[k] = x at *
      obtain ⟨rfl, _⟩ := hrep
      obtain ⟨rfl, _⟩ := hrep'
      have q0 := hc 0 _ rfl
      have p0 := hc' 0 _ rfl
      simp only [show intC.size = 1 from rfl, Nat.mul_one, Nat.add_zero] at q0 p0
      clear hc hc'
      have k0 : (0 : Int) ≤ k := by omega
      have k1 : (k : Int) < n := by omega
      go_wp2_with fail
      go_quiet (fail)
      go_wp2_with fail
      go_roundw
      case rel => exact ⟨k + 1, by omega, by go_num, by first | exact drew_ex _ _ _ | exact drew_ex1 _ _⟩
      case measure => simp [intOf]; omega
    · go_wp2
      go_ret
      exact ⟨rfl, below_of_drewN _ _ _⟩

set_option maxHeartbeats 1600000 in
theorem eqFact_any (cs ds : List Value) (x : FactD) (L M : List Nat) (w : World) (h1 : cFact.rep w cs x L) (h2 : cFact.rep w ds x M) :
    Calls Tryd.prog 41 #[.agg cs.toArray, .agg ds.toArray] w (TruePost w) := by
  obtain ⟨aA1, ac1, aL1, rfl, _ahL, at0, an1, am1, as1⟩ := h1
  obtain ⟨bA1, bc1, bL1, rfl, _bhL, bt0, bn1, bm1, bs1⟩ := h2
  unfold maxLen at am1 bm1
  have SA1 := Lib.hid as1
  have SB1 := Lib.hid bs1
  clear as1 bs1
  go_enter Tryd.func41, Tryd.ntmps41
  go_wp2_with fail
  refine (eqStringS_any aA1 bA1 _ ac1 bc1 x.args aL1 bL1 _ rfl (by omega) (SA1.out.below (by repeat (first | refine Below.setCell ?_ (by dsimp only; omega) _ | refine Below.alloc ?_ (by first | (simp; done) | (simp; omega) | omega) _ | exact Below.refl _ _))) (SB1.out.below (by repeat (first | refine Below.setCell ?_ (by dsimp only; omega) _ | refine Below.alloc ?_ (by first | (simp; done) | (simp; omega) | omega) _ | exact Below.refl _ _)))).mono ?_
  rintro e w1 ⟨rfl, hb1⟩
  have B1 : Hid (Below w.heap.size w w1) := Below.trans (by repeat (first | refine Below.setCell ?_ (by dsimp only; omega) _ | refine Below.alloc ?_ (by first | (simp; done) | (simp; omega) | omega) _ | exact Below.refl _ _)) (hb1.mono (by first | (simp; done) | (simp; omega) | omega))
  have K0 : Hid (Blk w1 w.heap.size 37 #[.string x.rel, .slice aA1 x.args.length ac1]) := Blk.later (Blk.alloc (Blk.new _ _ _) _) hb1
  have K1 : Hid (Blk w1 (w.heap.size + 1) 37 #[.string x.rel, .slice bA1 x.args.length bc1]) := Blk.later (Blk.new_at (by simp)) hb1
  have f0 := K0.out.at (i := 0) rfl
  have r0 := K1.out.at (i := 0) rfl
  have f1 := K0.out.at (i := 1) rfl
  have r1 := K1.out.at (i := 1) rfl
  clear hb1
  have hz1 := B1.out.size
  go_wp2_with fail
  go_ret
  exact ⟨rfl, (by repeat (first | refine Below.setCell ?_ (by dsimp only; omega) _ | refine Below.alloc ?_ (by first | (simp; done) | (simp; omega) | omega) _ | exact B1.out))⟩

set_option maxRecDepth 100000 in
set_option maxHeartbeats 1600000 in
theorem eqFactS_any (A B : Option Addr) (n c d : Nat) (ds : List FactD) (L M : List Nat) (w : World) (hn : n = ds.length) (hm : n ≤ 9223372036854775807) (h1 : Sli cFact w A ds L) (h2 : Sli cFact w B ds M) :
    Calls Tryd.prog 25 #[.slice A n c, .slice B n d] w (TruePost w) := by
  have H1 := Lib.hid h1
  have H2 := Lib.hid h2
  have HN := Lib.hid hn
  clear h1 h2 hn
  have hne : ((n : Int) != n) = false := by simp
  go_enter Tryd.func25, Tryd.ntmps25
  go_wp2
  go_loopw [5] (fun i wr => ∃ (k : Nat), k ≤ n ∧ i = .int .i64 k ∧ Hid (Below w.heap.size w wr)) (fun i _ => n - (intOf i).toNat)
  case atStart => exact ⟨0, Nat.zero_le _, rfl, Below.refl _ _⟩
  case round =>
    obtain ⟨k, hk, rfl, HB⟩ := hrel
    by_cases hlt : k < n
    · have hkl : k < ds.length := by have := HN.out; omega
      obtain ⟨b, off, cs, Lk, rfl, hbL, hLk, hrep, hc⟩ := H1.out.at_ hkl
      obtain ⟨b', off', cs', Mk, rfl, hbM, hMk, hrep', hc'⟩ := H2.out.at_ hkl
      have hbl : b < w.heap.size := H1.out.lt b hbL
      have hbl' : b' < w.heap.size := H2.out.lt b' hbM
      have HR := Lib.hid (cFact.keep hrep (keep_below HB.out (fun y m => H1.out.lt y (hLk y m))))
      have HR' := Lib.hid (cFact.keep hrep' (keep_below HB.out (fun y m => H2.out.lt y (hMk y m))))
      generalize ds[k] = x at *
      obtain ⟨aA1, ac1, rfl⟩ := cFact_cells hrep
      obtain ⟨bA1, bc1, rfl⟩ := cFact_cells hrep'
      have q0 : wr.cell? ⟨b, off + k * 2, none⟩ = _ := (HB.out.cell (p := ⟨b, off + (k * 2 + 0), none⟩) hbl).trans (hc 0 _ rfl)
      have p0 : wr.cell? ⟨b', off' + k * 2, none⟩ = _ := (HB.out.cell (p := ⟨b', off' + (k * 2 + 0), none⟩) hbl').trans (hc' 0 _ rfl)
      have q1 : wr.cell? ⟨b, off + k * 2 + 1, none⟩ = _ := (HB.out.cell (p := ⟨b, off + (k * 2 + 1), none⟩) hbl).trans (hc 1 _ rfl)
      have p1 : wr.cell? ⟨b', off' + k * 2 + 1, none⟩ = _ := (HB.out.cell (p := ⟨b', off' + (k * 2 + 1), none⟩) hbl').trans (hc' 1 _ rfl)
      clear hc hc' hrep hrep'
      have k0 : (0 : Int) ≤ k := by omega
      have k1 : (k : Int) < n := by omega
      go_wp2_with fail
      go_still_tail 8, (by kernel_rfl)
      change wpList _ _ _ _ _ wr.drew
      go_wp2_with (go_at_call 41; (refine (eqFact_any _ _ x Lk Mk wr.drew (cFact.keep HR.out (fun _ _ => rfl)) (cFact.keep HR'.out (fun _ _ => rfl))).mono ?_; rintro e w1 ⟨rfl, hb1⟩; have HB1 := Lib.hid (HB.out.drew.trans (hb1.mono HB.out.size)); clear hb1))
      go_roundw
      case rel => exact ⟨k + 1, by omega, by go_num, HB1.out⟩
      case measure => simp [intOf]; omega
    · go_wp2
      go_ret
      exact ⟨rfl, HB.out⟩

set_option maxHeartbeats 1600000 in
theorem eqStep_any (cs ds : List Value) (x : StepD) (L M : List Nat) (w : World) (h1 : cStep.rep w cs x L) (h2 : cStep.rep w ds x M) :
    Calls Tryd.prog 15 #[.agg cs.toArray, .agg ds.toArray] w (TruePost w) := by
  obtain ⟨aA1, ac1, aL1, aA2, ac2, aL2, rfl, _ahL, at0, at1, an1, am1, as1, an2, am2, as2⟩ := h1
  obtain ⟨bA1, bc1, bL1, bA2, bc2, bL2, rfl, _bhL, bt0, bt1, bn1, bm1, bs1, bn2, bm2, bs2⟩ := h2
  unfold maxLen at am1 bm1 am2 bm2
  have SA1 := Lib.hid as1
  have SB1 := Lib.hid bs1
  clear as1 bs1
  have SA2 := Lib.hid as2
  have SB2 := Lib.hid bs2
  clear as2 bs2
  go_enter Tryd.func15, Tryd.ntmps15
  go_wp2_with fail
  refine (eqFact_any [.string x.fact.rel, .slice aA1 x.fact.args.length ac1] [.string x.fact.rel, .slice bA1 x.fact.args.length bc1] x.fact _ _ _ ⟨aA1, ac1, aL1, rfl, rfl, at0, an1, (by unfold maxLen; omega), SA1.out.below (by repeat (first | refine Below.setCell ?_ (by dsimp only; omega) _ | refine Below.alloc ?_ (by first | (simp; done) | (simp; omega) | omega) _ | exact Below.refl _ _))⟩ ⟨bA1, bc1, bL1, rfl, rfl, bt0, bn1, (by unfold maxLen; omega), SB1.out.below (by repeat (first | refine Below.setCell ?_ (by dsimp only; omega) _ | refine Below.alloc ?_ (by first | (simp; done) | (simp; omega) | omega) _ | exact Below.refl _ _))⟩).mono ?_
  rintro e w1 ⟨rfl, hb1⟩
  have B1 : Hid (Below w.heap.size w w1) := Below.trans (by repeat (first | refine Below.setCell ?_ (by dsimp only; omega) _ | refine Below.alloc ?_ (by first | (simp; done) | (simp; omega) | omega) _ | exact Below.refl _ _)) (hb1.mono (by first | (simp; done) | (simp; omega) | omega))
  have K0 : Hid (Blk w1 w.heap.size 39 #[.string x.fact.rel, .slice aA1 x.fact.args.length ac1, .string x.rule, .slice aA2 x.uses.length ac2]) := Blk.later (Blk.alloc (Blk.new _ _ _) _) hb1
  have K1 : Hid (Blk w1 (w.heap.size + 1) 39 #[.string x.fact.rel, .slice bA1 x.fact.args.length bc1, .string x.rule, .slice bA2 x.uses.length bc2]) := Blk.later (Blk.new_at (by simp)) hb1
  have f0 := K0.out.at (i := 0) rfl
  have r0 := K1.out.at (i := 0) rfl
  have f1 := K0.out.at (i := 1) rfl
  have r1 := K1.out.at (i := 1) rfl
  have f2 := K0.out.at (i := 2) rfl
  have r2 := K1.out.at (i := 2) rfl
  have f3 := K0.out.at (i := 3) rfl
  have r3 := K1.out.at (i := 3) rfl
  clear hb1
  have hz1 := B1.out.size
  go_wp2_with fail
  refine (eqIntS_any aA2 bA2 _ ac2 bc2 x.uses aL2 bL2 _ rfl (by omega) (SA2.out.below (by repeat (first | refine Below.setCell ?_ (by dsimp only; omega) _ | refine Below.alloc ?_ (by first | (simp; done) | (simp; omega) | omega) _ | exact B1.out))) (SB2.out.below (by repeat (first | refine Below.setCell ?_ (by dsimp only; omega) _ | refine Below.alloc ?_ (by first | (simp; done) | (simp; omega) | omega) _ | exact B1.out)))).mono ?_
  rintro e w2 ⟨rfl, hb2⟩
  have B2 : Hid (Below w.heap.size w w2) := Below.trans (by repeat (first | refine Below.setCell ?_ (by dsimp only; omega) _ | refine Below.alloc ?_ (by first | (simp; done) | (simp; omega) | omega) _ | exact B1.out)) (hb2.mono (by first | (simp; done) | (simp; omega) | omega))
  have K0 := Lib.hid (K0.out.later hb2)
  have K1 := Lib.hid (K1.out.later hb2)
  clear f0 r0 f1 r1 f2 r2 f3 r3
  have f0 := K0.out.at (i := 0) rfl
  have r0 := K1.out.at (i := 0) rfl
  have f1 := K0.out.at (i := 1) rfl
  have r1 := K1.out.at (i := 1) rfl
  have f2 := K0.out.at (i := 2) rfl
  have r2 := K1.out.at (i := 2) rfl
  have f3 := K0.out.at (i := 3) rfl
  have r3 := K1.out.at (i := 3) rfl
  clear hb2
  have hz2 := B2.out.size
  go_wp2_with fail
  go_ret
  exact ⟨rfl, (by repeat (first | refine Below.setCell ?_ (by dsimp only; omega) _ | refine Below.alloc ?_ (by first | (simp; done) | (simp; omega) | omega) _ | exact B2.out))⟩

set_option maxRecDepth 100000 in
set_option maxHeartbeats 1600000 in
theorem eqStepS_any (A B : Option Addr) (n c d : Nat) (ds : List StepD) (L M : List Nat) (w : World) (hn : n = ds.length) (hm : n ≤ 9223372036854775807) (h1 : Sli cStep w A ds L) (h2 : Sli cStep w B ds M) :
    Calls Tryd.prog 26 #[.slice A n c, .slice B n d] w (TruePost w) := by
  have H1 := Lib.hid h1
  have H2 := Lib.hid h2
  have HN := Lib.hid hn
  clear h1 h2 hn
  have hne : ((n : Int) != n) = false := by simp
  go_enter Tryd.func26, Tryd.ntmps26
  go_wp2
  go_loopw [5] (fun i wr => ∃ (k : Nat), k ≤ n ∧ i = .int .i64 k ∧ Hid (Below w.heap.size w wr)) (fun i _ => n - (intOf i).toNat)
  case atStart => exact ⟨0, Nat.zero_le _, rfl, Below.refl _ _⟩
  case round =>
    obtain ⟨k, hk, rfl, HB⟩ := hrel
    by_cases hlt : k < n
    · have hkl : k < ds.length := by have := HN.out; omega
      obtain ⟨b, off, cs, Lk, rfl, hbL, hLk, hrep, hc⟩ := H1.out.at_ hkl
      obtain ⟨b', off', cs', Mk, rfl, hbM, hMk, hrep', hc'⟩ := H2.out.at_ hkl
      have hbl : b < w.heap.size := H1.out.lt b hbL
      have hbl' : b' < w.heap.size := H2.out.lt b' hbM
      have HR := Lib.hid (cStep.keep hrep (keep_below HB.out (fun y m => H1.out.lt y (hLk y m))))
      have HR' := Lib.hid (cStep.keep hrep' (keep_below HB.out (fun y m => H2.out.lt y (hMk y m))))
      generalize ds[k] = x at *
      obtain ⟨aA1, ac1, aA2, ac2, rfl⟩ := cStep_cells hrep
      obtain ⟨bA1, bc1, bA2, bc2, rfl⟩ := cStep_cells hrep'
      have q0 : wr.cell? ⟨b, off + k * 4, none⟩ = _ := (HB.out.cell (p := ⟨b, off + (k * 4 + 0), none⟩) hbl).trans (hc 0 _ rfl)
      have p0 : wr.cell? ⟨b', off' + k * 4, none⟩ = _ := (HB.out.cell (p := ⟨b', off' + (k * 4 + 0), none⟩) hbl').trans (hc' 0 _ rfl)
      have q1 : wr.cell? ⟨b, off + k * 4 + 1, none⟩ = _ := (HB.out.cell (p := ⟨b, off + (k * 4 + 1), none⟩) hbl).trans (hc 1 _ rfl)
      have p1 : wr.cell? ⟨b', off' + k * 4 + 1, none⟩ = _ := (HB.out.cell (p := ⟨b', off' + (k * 4 + 1), none⟩) hbl').trans (hc' 1 _ rfl)
      have q2 : wr.cell? ⟨b, off + k * 4 + 2, none⟩ = _ := (HB.out.cell (p := ⟨b, off + (k * 4 + 2), none⟩) hbl).trans (hc 2 _ rfl)
      have p2 : wr.cell? ⟨b', off' + k * 4 + 2, none⟩ = _ := (HB.out.cell (p := ⟨b', off' + (k * 4 + 2), none⟩) hbl').trans (hc' 2 _ rfl)
      have q3 : wr.cell? ⟨b, off + k * 4 + 3, none⟩ = _ := (HB.out.cell (p := ⟨b, off + (k * 4 + 3), none⟩) hbl).trans (hc 3 _ rfl)
      have p3 : wr.cell? ⟨b', off' + k * 4 + 3, none⟩ = _ := (HB.out.cell (p := ⟨b', off' + (k * 4 + 3), none⟩) hbl').trans (hc' 3 _ rfl)
      clear hc hc' hrep hrep'
      have k0 : (0 : Int) ≤ k := by omega
      have k1 : (k : Int) < n := by omega
      go_wp2_with fail
      go_still_tail 8, (by kernel_rfl)
      change wpList _ _ _ _ _ wr.drew
      go_wp2_with (go_at_call 15; (refine (eqStep_any _ _ x Lk Mk wr.drew (cStep.keep HR.out (fun _ _ => rfl)) (cStep.keep HR'.out (fun _ _ => rfl))).mono ?_; rintro e w1 ⟨rfl, hb1⟩; have HB1 := Lib.hid (HB.out.drew.trans (hb1.mono HB.out.size)); clear hb1))
      go_roundw
      case rel => exact ⟨k + 1, by omega, by go_num, HB1.out⟩
      case measure => simp [intOf]; omega
    · go_wp2
      go_ret
      exact ⟨rfl, HB.out⟩

end Go.Proofs.YtppjenkjopjeiaaDoor

namespace Go.Proofs.YtppjenkjopjeiaaDoor
open Go.RowKit

/-- the digits of a number ahead of a text -/
def mDig : Nat → Nat → List UInt8 → List UInt8
  | 0, _, acc => acc
  | f + 1, k, acc => if k = 0 then acc else mDig f (k / 10) ((48 + UInt8.ofNat (k % 10)) :: acc)
def mText (k : Nat) : ByteArray := ⟨(109 :: mDig (k + 1) k []).toArray⟩

/-- 'string([]byte{b})' -/
theorem run_byte_string (W : World) (z : Int) : (convert 89 9 (.slice (some ⟨W.heap.size, 0, none⟩) 1 1)).run Tryd.prog (W.alloc (.cells #[.int .u8 z] 5)) = .ok (.string ⟨#[UInt8.ofNat z.toNat]⟩) (W.alloc (.cells #[.int .u8 z] 5)) := by
  rw [run_convert_bytes_string _ _ _ _ _ _ _ Tryd.underlying89 Tryd.underlying5 Tryd.underlying9, run_bytesToString _ _ _ _ [z] (by simp [loadCells, go_sem])]
  rfl

set_option maxHeartbeats 800000 in
set_option maxRecDepth 100000 in
theorem markText_any (k : Nat) (w : World) (h0 : 1 ≤ k) (h1 : k ≤ 4611686018427387904) :
    Calls Tryd.prog 55 #[.int .i64 k] w fun e w' => e = .returned (.string (mText k)) ∧ Below w.heap.size w w' := by
  have hle : ¬ ((k : Int) ≤ 0) := by omega
  have kc := run_byte_string
  go_enter Tryd.func55, Tryd.ntmps55
  go_wp2
  go_loopw [0, 3] (fun i s wr => ∃ (f q : Nat) (acc : List UInt8), i = .int .i64 q ∧ s = .string ⟨acc.toArray⟩ ∧ q ≤ k ∧ q < f ∧ acc.length + q ≤ k ∧ Hid (mDig f q acc = mDig (k + 1) k []) ∧ Hid (Below w.heap.size w wr)) (fun i _ _ => (intOf i).toNat)
  case atStart => exact ⟨k + 1, k, [], rfl, rfl, Nat.le_refl _, by omega, by simp, Lib.hid rfl, Below.refl _ _⟩
  case round =>
    obtain ⟨f, q, acc, rfl, rfl, hqk, hqf, hal, HE, HB⟩ := hrel
    by_cases hq : 0 < q
    · have hq' : (0 : Int) < q := by omega
      have HEn : Hid (mDig (f - 1) (q / 10) ((48 + UInt8.ofNat (q % 10)) :: acc) = mDig (k + 1) k []) := by
        rw [Hid, ← HE.out]
        obtain ⟨f, rfl⟩ : ∃ g, f = g + 1 := ⟨f - 1, by omega⟩
        rw [mDig, if_neg (by omega)]; rfl
      go_wp2
      go_roundw
      case rel => exact ⟨f - 1, q / 10, _, by go_num, congrArg Value.string (by rw [ByteArray.mk_append_mk]; simp), by omega, by omega, by simp only [List.length_cons]; omega, HEn, HB.out.alloc HB.out.size _⟩
      case measure => simp [intOf]; omega
    · obtain rfl : q = 0 := by omega
      have e : Hid (mDig (k + 1) k [] = acc) := by
        rw [Hid, ← HE.out]
        obtain ⟨f, rfl⟩ : ∃ g, f = g + 1 := ⟨f - 1, by omega⟩
        simp [mDig]
      have hq' : ¬ (0 : Int) < (0 : Nat) := by omega
      go_wp2
      go_ret
      exact ⟨congrArg (fun s => Ending.returned (.string s)) (by rw [mText, e.out, ByteArray.mk_append_mk]; simp), HB.out⟩
theorem mDig_len : ∀ (f k : Nat) (acc : List UInt8), (mDig f k acc).length ≤ acc.length + f
  | 0, _, acc => by simp [mDig]
  | f + 1, k, acc => by
    rw [mDig]
    split
    · omega
    · have := mDig_len f (k / 10) ((48 + UInt8.ofNat (k % 10)) :: acc)
      simp at this; omega
theorem mText_size (k : Nat) (h : k ≤ 4611686018427387904) : (mText k).size ≤ 9223372036854775807 := by
  have := mDig_len (k + 1) k []
  simp [mText, ByteArray.size] at this ⊢
  omega

end Go.Proofs.YtppjenkjopjeiaaDoor

namespace Go.Proofs.YtppjenkjopjeiaaDoor
open Go.RowKit

def mTx (k : Int) : ByteArray := mText k.toNat
theorem markText_int (k : Int) (w : World) (h0 : 1 ≤ k) (h1 : k ≤ 4611686018427387904) :
    Calls Tryd.prog 55 #[.int .i64 k] w fun e w' => e = .returned (.string (mTx k)) ∧ Below w.heap.size w w' := by
  obtain ⟨n, rfl⟩ := Int.eq_ofNat_of_zero_le (show 0 ≤ k by omega)
  exact markText_any n w (by omega) (by omega)
theorem mTx_size (k : Int) (h : k ≤ 4611686018427387904) : (mTx k).size ≤ 9223372036854775807 := mText_size _ (by omega)
def mkStringS : Int → List ByteArray → List ByteArray
  | _, [] => []
  | k, _ :: r => mTx k :: mkStringS (k + 1) r
def mkIntS : Int → List Int → List Int
  | _, [] => []
  | k, _ :: r => k :: mkIntS (k + 1) r
def nextStringS (k : Int) (l : List ByteArray) : Int := k + l.length
def nextIntS (k : Int) (l : List Int) : Int := k + l.length
theorem mkStringS_len (k : Int) (l : List ByteArray) : (mkStringS k l).length = l.length := by induction l generalizing k with | nil => rfl | cons x r ih => simp [mkStringS, ih]
theorem mkIntS_len (k : Int) (l : List Int) : (mkIntS k l).length = l.length := by induction l generalizing k with | nil => rfl | cons x r ih => simp [mkIntS, ih]
theorem nextStringS_ge (k : Int) (l : List ByteArray) : k ≤ nextStringS k l := by unfold nextStringS; omega
theorem nextIntS_ge (k : Int) (l : List Int) : k ≤ nextIntS k l := by unfold nextIntS; omega
theorem nextStringS_le (k : Int) (l : List ByteArray) : nextStringS k l ≤ k + 16 * costStrs l := by unfold nextStringS costStrs; omega
theorem nextIntS_le (k : Int) (l : List Int) : nextIntS k l ≤ k + 16 * l.length := by unfold nextIntS; omega
def mkFact (k : Int) (x : FactD) : FactD := ⟨mTx (k), mkStringS (k + 1) x.args⟩
def nextFact (k : Int) (x : FactD) : Int := nextStringS (k + 1) x.args
def mkFactS : Int → List FactD → List FactD
  | _, [] => []
  | k, x :: r => mkFact k x :: mkFactS (nextFact k x) r
def nextFactS : Int → List FactD → Int
  | k, [] => k
  | k, x :: r => nextFactS (nextFact k x) r
theorem mkFactS_len (k : Int) (l : List FactD) : (mkFactS k l).length = l.length := by induction l generalizing k with | nil => rfl | cons x r ih => simp [mkFactS, ih]
theorem nextFact_ge (k : Int) (x : FactD) : k ≤ nextFact k x := by
  unfold nextFact
  have := nextStringS_ge (k + 1) x.args
  omega
theorem nextFactS_ge (k : Int) (l : List FactD) : k ≤ nextFactS k l := by
  induction l generalizing k with
  | nil => exact Int.le_refl _
  | cons x r ih => exact Int.le_trans (nextFact_ge k x) (ih _)
theorem nextFact_le (k : Int) (x : FactD) : nextFact k x ≤ k + 1 + 16 * costFact x := by
  unfold nextFact
  have := nextStringS_le (k + 1) x.args
  simp only [costFact]
  omega
theorem nextFactS_le (k : Int) (l : List FactD) : nextFactS k l ≤ k + 16 * costFactS l := by
  induction l generalizing k with
  | nil => simp [nextFactS, costFactS]
  | cons x r ih =>
    have h1 := nextFact_le k x
    have h2 := ih (nextFact k x)
    simp only [nextFactS, costFactS, List.length_cons, List.map_cons, List.sum_cons] at h2 ⊢
    omega

def mkStep (k : Int) (x : StepD) : StepD := ⟨⟨mTx (k), mkStringS (k + 1) x.fact.args⟩, mTx (nextStringS (k + 1) x.fact.args), mkIntS (nextStringS (k + 1) x.fact.args + 1) x.uses⟩
def nextStep (k : Int) (x : StepD) : Int := nextIntS (nextStringS (k + 1) x.fact.args + 1) x.uses
def mkStepS : Int → List StepD → List StepD
  | _, [] => []
  | k, x :: r => mkStep k x :: mkStepS (nextStep k x) r
def nextStepS : Int → List StepD → Int
  | k, [] => k
  | k, x :: r => nextStepS (nextStep k x) r
theorem nextStep_ge (k : Int) (x : StepD) : k ≤ nextStep k x := by
  unfold nextStep
  have := nextStringS_ge (k + 1) x.fact.args
  have := nextIntS_ge (nextStringS (k + 1) x.fact.args + 1) x.uses
  omega
theorem nextStepS_ge (k : Int) (l : List StepD) : k ≤ nextStepS k l := by
  induction l generalizing k with
  | nil => exact Int.le_refl _
  | cons x r ih => exact Int.le_trans (nextStep_ge k x) (ih _)
theorem nextStep_le (k : Int) (x : StepD) : nextStep k x ≤ k + 2 + 16 * costStep x := by
  unfold nextStep
  have := nextStringS_le (k + 1) x.fact.args
  have := nextIntS_le (nextStringS (k + 1) x.fact.args + 1) x.uses
  simp only [costStep, costFact]
  omega
theorem nextStepS_le (k : Int) (l : List StepD) : nextStepS k l ≤ k + 16 * costStepS l := by
  induction l generalizing k with
  | nil => simp [nextStepS, costStepS]
  | cons x r ih =>
    have h1 := nextStep_le k x
    have h2 := ih (nextStep k x)
    simp only [nextStepS, costStepS, List.length_cons, List.map_cons, List.sum_cons] at h2 ⊢
    omega

end Go.Proofs.YtppjenkjopjeiaaDoor

namespace Go.Proofs.YtppjenkjopjeiaaDoor
open Go.RowKit

set_option maxHeartbeats 1600000 in
theorem markStringS_any (A : Option Addr) (n c : Nat) (ds : List ByteArray) (L : List Nat) (base : Nat) (k : Int) (w : World) (hn : n = ds.length) (hk0 : 1 ≤ k) (hk1 : nextStringS k ds ≤ 4611686018427387904) (h : Got (sliceC strC) base [.slice A n c] ds L w) :
    Calls Tryd.prog 56 #[.slice A n c, .int .i64 k] w fun e w' => e = .returned (.int .i64 (nextStringS k ds)) ∧ Got (sliceC strC) base [.slice A n c] (mkStringS k ds) L w' ∧ Only L w w' := by
  have H := Lib.hid h
  have HN := Lib.hid hn
  have hk1' : k + n ≤ 4611686018427387904 := by simp only [nextStringS] at hk1; omega
  clear h hn hk1
  go_enter Tryd.func56, Tryd.ntmps56
  go_wp2
  go_loopw [1, 5] (fun q j wr => ∃ (i : Nat) (kk : Int) (D : List ByteArray), i ≤ n ∧ j = .int .i64 i ∧ q = .int .i64 kk ∧ 1 ≤ kk ∧ kk + (n - i : Nat) ≤ 4611686018427387904 ∧ Hid (kk = k + i ∧ D.length = i ∧ D ++ mkStringS kk (ds.drop i) = mkStringS k ds) ∧ Hid (Got (sliceC strC) base [.slice A n c] (D ++ ds.drop i) L wr) ∧ Hid (Only L w wr)) (fun _ j _ => n - (intOf j).toNat)
  case atStart => exact ⟨0, k, [], Nat.zero_le _, rfl, rfl, hk0, by omega, ⟨by omega, rfl, rfl⟩, H.out, Only.refl _ _⟩
  case round =>
    obtain ⟨i, kk, D, hi, rfl, rfl, h1, h2, HD, HG, HO⟩ := hrel
    by_cases hlt : i < n
    · have hil : i < ds.length := by have := HN.out; omega
      obtain ⟨hkk, hDl, hDm⟩ := HD.out
      have hcl : i < (D ++ ds.drop i).length := by simp; omega
      obtain ⟨b, off, cs, Lk, rfl, hbL, hLk, hown, hrep, hcells, hput⟩ := HG.out.focus hcl
      obtain ⟨rfl, hlk, _⟩ := hrep
      have HEl := Lib.hid (Elem.start (m := 1) hcells rfl hown)
      have hnext : Hid (ds.drop i = ds[i] :: ds.drop (i + 1)) := List.drop_eq_getElem_cons _
      have HPut := Lib.hid hput
      have HOwn := Lib.hid hown
      have HLk := Lib.hid hLk
      have HLe := Lib.hid hlk
      have HDn : Hid (kk + 1 = k + (i + 1 : Nat) ∧ (D ++ [mTx kk]).length = i + 1 ∧ (D ++ [mTx kk]) ++ mkStringS (kk + 1) (ds.drop (i + 1)) = mkStringS k ds) := by
        refine ⟨by omega, by simp [hDl], ?_⟩
        rw [← hDm, hnext.out]; simp [mkStringS]
      have hset : Hid ((D ++ ds.drop i).set i (mTx kk) = (D ++ [mTx kk]) ++ ds.drop (i + 1)) := by
        rw [Hid, List.set_append_right _ _ (by omega), show i - D.length = 0 by omega, hnext.out, List.set_cons_zero]; simp
      clear hput hown hLk hcells hkk hDl hDm hlk
      simp only [show strC.size = 1 from rfl, Nat.mul_one] at HEl HPut
      go_wp2_with (go_at_call 55; refine (markText_int _ _ (by omega) (by omega)).mono ?_; rintro e w1 ⟨rfl, hb1⟩; have E1 := Lib.hid (HEl.out.later hb1); have q1 := E1.out.at (j := 0) rfl; have z1 := E1.out.frozen (off + i); clear hb1; simp only [Nat.add_zero] at q1)
      have E2 := Lib.hid (E1.out.set 0 (by omega) (.string (mTx kk)))
      have hO2 := Lib.hid (own_cons_keep HOwn.out E2.out.plain E2.out.only (by rw [HLe.out]; simp))
      have HGn := Lib.hid (HPut.out _ _ (mTx kk) E2.out.only E2.out.cells E2.out.rest (by rw [HLe.out]; exact ⟨rfl, rfl, mTx_size _ (by omega)⟩) hO2.out)
      have HOn := Lib.hid (HO.out.trans (E2.out.only.mono (fun y m => by rcases List.mem_cons.1 m with rfl | m; exact hbL; exact HLk.out y m)))
      rw [hset.out] at HGn
      simp only [Nat.add_zero] at HGn HOn
      clear E2 hO2 HPut
      go_wp2_with fail
      go_roundw
      case rel => exact ⟨i + 1, kk + 1, _, by omega, by go_num, rfl, by omega, by omega, HDn, HGn, HOn⟩
      case measure => simp [intOf]; omega
    · obtain rfl : i = n := by omega
      have hf : Hid (nextStringS k ds = kk ∧ D = mkStringS k ds) := by
        obtain ⟨h1, h2, h3⟩ := HD.out
        have e : ds.drop i = [] := List.drop_of_length_le (by have := HN.out; omega)
        rw [e] at h3
        simp [mkStringS] at h3
        exact ⟨by have := HN.out; simp only [nextStringS]; omega, h3⟩
      have e : Hid (ds.drop i = []) := List.drop_of_length_le (by have := HN.out; omega)
      rw [e.out, List.append_nil] at HG
      go_wp2
      go_ret
      exact ⟨ret_i hf.out.1.symm, by rw [← hf.out.2]; exact HG.out, HO.out⟩

set_option maxHeartbeats 1600000 in
theorem markIntS_any (A : Option Addr) (n c : Nat) (ds : List Int) (L : List Nat) (base : Nat) (k : Int) (w : World) (hn : n = ds.length) (hk0 : 1 ≤ k) (hk1 : nextIntS k ds ≤ 4611686018427387904) (h : Got (sliceC intC) base [.slice A n c] ds L w) :
    Calls Tryd.prog 57 #[.slice A n c, .int .i64 k] w fun e w' => e = .returned (.int .i64 (nextIntS k ds)) ∧ Got (sliceC intC) base [.slice A n c] (mkIntS k ds) L w' ∧ Only L w w' := by
  have H := Lib.hid h
  have HN := Lib.hid hn
  have hk1' : k + n ≤ 4611686018427387904 := by simp only [nextIntS] at hk1; omega
  clear h hn hk1
  go_enter Tryd.func57, Tryd.ntmps57
  go_wp2
  go_loopw [1, 5] (fun q j wr => ∃ (i : Nat) (kk : Int) (D : List Int), i ≤ n ∧ j = .int .i64 i ∧ q = .int .i64 kk ∧ 1 ≤ kk ∧ kk + (n - i : Nat) ≤ 4611686018427387904 ∧ Hid (kk = k + i ∧ D.length = i ∧ D ++ mkIntS kk (ds.drop i) = mkIntS k ds) ∧ Hid (Got (sliceC intC) base [.slice A n c] (D ++ ds.drop i) L wr) ∧ Hid (Only L w wr)) (fun _ j _ => n - (intOf j).toNat)
  case atStart => exact ⟨0, k, [], Nat.zero_le _, rfl, rfl, hk0, by omega, ⟨by omega, rfl, rfl⟩, H.out, Only.refl _ _⟩
  case round =>
    obtain ⟨i, kk, D, hi, rfl, rfl, h1, h2, HD, HG, HO⟩ := hrel
    by_cases hlt : i < n
    · have hil : i < ds.length := by have := HN.out; omega
      obtain ⟨hkk, hDl, hDm⟩ := HD.out
      have hcl : i < (D ++ ds.drop i).length := by simp; omega
      obtain ⟨b, off, cs, Lk, rfl, hbL, hLk, hown, hrep, hcells, hput⟩ := HG.out.focus hcl
      obtain ⟨rfl, hlk⟩ := hrep
      have HEl := Lib.hid (Elem.start (m := 1) hcells rfl hown)
      have hnext : Hid (ds.drop i = ds[i] :: ds.drop (i + 1)) := List.drop_eq_getElem_cons _
      have HPut := Lib.hid hput
      have HOwn := Lib.hid hown
      have HLk := Lib.hid hLk
      have HLe := Lib.hid hlk
      have HDn : Hid (kk + 1 = k + (i + 1 : Nat) ∧ (D ++ [kk]).length = i + 1 ∧ (D ++ [kk]) ++ mkIntS (kk + 1) (ds.drop (i + 1)) = mkIntS k ds) := by
        refine ⟨by omega, by simp [hDl], ?_⟩
        rw [← hDm, hnext.out]; simp [mkIntS]
      have hset : Hid ((D ++ ds.drop i).set i (kk) = (D ++ [kk]) ++ ds.drop (i + 1)) := by
        rw [Hid, List.set_append_right _ _ (by omega), show i - D.length = 0 by omega, hnext.out, List.set_cons_zero]; simp
      clear hput hown hLk hcells hkk hDl hDm hlk
      simp only [show intC.size = 1 from rfl, Nat.mul_one] at HEl HPut
      have q1 := HEl.out.at (j := 0) rfl
      have z1 := HEl.out.frozen (off + i)
      simp only [Nat.add_zero] at q1
      go_wp2_with fail
      have E2 := Lib.hid (HEl.out.set 0 (by omega) (.int .i64 kk))
      have hO2 := Lib.hid (own_cons_keep HOwn.out E2.out.plain E2.out.only (by rw [HLe.out]; simp))
      have HGn := Lib.hid (HPut.out _ _ (kk) E2.out.only E2.out.cells E2.out.rest (by rw [HLe.out]; exact ⟨rfl, rfl⟩) hO2.out)
      have HOn := Lib.hid (HO.out.trans (E2.out.only.mono (fun y m => by rcases List.mem_cons.1 m with rfl | m; exact hbL; exact HLk.out y m)))
      rw [hset.out] at HGn
      simp only [Nat.add_zero] at HGn HOn
      clear E2 hO2 HPut
      go_wp2_with fail
      go_roundw
      case rel => exact ⟨i + 1, kk + 1, _, by omega, by go_num, rfl, by omega, by omega, HDn, HGn, HOn⟩
      case measure => simp [intOf]; omega
    · obtain rfl : i = n := by omega
      have hf : Hid (nextIntS k ds = kk ∧ D = mkIntS k ds) := by
        obtain ⟨h1, h2, h3⟩ := HD.out
        have e : ds.drop i = [] := List.drop_of_length_le (by have := HN.out; omega)
        rw [e] at h3
        simp [mkIntS] at h3
        exact ⟨by have := HN.out; simp only [nextIntS]; omega, h3⟩
      have e : Hid (ds.drop i = []) := List.drop_of_length_le (by have := HN.out; omega)
      rw [e.out, List.append_nil] at HG
      go_wp2
      go_ret
      exact ⟨ret_i hf.out.1.symm, by rw [← hf.out.2]; exact HG.out, HO.out⟩

set_option maxRecDepth 100000 in
set_option maxHeartbeats 4000000 in
theorem markFactS_any (A : Option Addr) (n c : Nat) (ds : List FactD) (L : List Nat) (base : Nat) (k : Int) (w : World) (hn : n = ds.length) (hm : n ≤ 9223372036854775807) (hk0 : 1 ≤ k) (hk1 : nextFactS k ds ≤ 4611686018427387904) (h : Got (sliceC cFact) base [.slice A n c] ds L w) :
    Calls Tryd.prog 28 #[.slice A n c, .int .i64 k] w fun e w' => e = .returned (.int .i64 (nextFactS k ds)) ∧ Got (sliceC cFact) base [.slice A n c] (mkFactS k ds) L w' ∧ Only L w w' := by
  have H := Lib.hid h
  have HN := Lib.hid hn
  have HK := Lib.hid hk1
  clear h hn hk1
  go_enter Tryd.func28, Tryd.ntmps28
  go_wp2
  go_loopw [1, 5] (fun q j wr => ∃ (i : Nat) (kk : Int) (D : List FactD), i ≤ n ∧ j = .int .i64 i ∧ q = .int .i64 kk ∧ 1 ≤ kk ∧ Hid (nextFactS kk (ds.drop i) = nextFactS k ds ∧ D.length = i ∧ D ++ mkFactS kk (ds.drop i) = mkFactS k ds) ∧ Hid (Got (sliceC cFact) base [.slice A n c] (D ++ ds.drop i) L wr) ∧ Hid (Only L w wr)) (fun _ j _ => n - (intOf j).toNat)
  case atStart => exact ⟨0, k, [], Nat.zero_le _, rfl, rfl, hk0, ⟨rfl, rfl, rfl⟩, H.out, Only.refl _ _⟩
  case round =>
    obtain ⟨i, kk, D, hi, rfl, rfl, h1, HD, HG, HO⟩ := hrel
    by_cases hlt : i < n
    · have hil : i < ds.length := by have := HN.out; omega
      obtain ⟨hkk, hDl, hDm⟩ := HD.out
      have hcl : i < (D ++ ds.drop i).length := by simp; omega
      obtain ⟨b, off, cs, Lk, rfl, hbL, hLk, hown, hrep, hcells, hput⟩ := HG.out.focus hcl
      have hnext : Hid (ds.drop i = ds[i] :: ds.drop (i + 1)) := List.drop_eq_getElem_cons _
      have hxi : (D ++ ds.drop i)[i] = ds[i] := by
        rw [List.getElem_append_right (by omega)]; simp [hDl]
      rw [hxi] at hrep
      clear hxi
      generalize ds[i] = x at hrep hnext
      have hnb : Hid (nextFact kk x ≤ 4611686018427387904) := by
        have := nextFactS_ge (nextFact kk x) (ds.drop (i + 1))
        rw [hnext.out] at hkk
        have hk := HK.out
        rw [← hkk] at hk
        exact Int.le_trans this hk
      have hnb1 := hnb.out
      have hnb2 := nextFact_ge kk x
      unfold nextFact at hnb1 hnb2
      have HDn : Hid (nextFactS (nextFact kk x) (ds.drop (i + 1)) = nextFactS k ds ∧ (D ++ [mkFact kk x]).length = i + 1 ∧ (D ++ [mkFact kk x]) ++ mkFactS (nextFact kk x) (ds.drop (i + 1)) = mkFactS k ds) := by
        refine ⟨by rw [← hkk, hnext.out]; rfl, by simp [hDl], ?_⟩
        rw [← hDm, hnext.out]; simp [mkFactS]
      have hset : Hid ((D ++ ds.drop i).set i (mkFact kk x) = (D ++ [mkFact kk x]) ++ ds.drop (i + 1)) := by
        rw [Hid, List.set_append_right _ _ (by omega), show i - D.length = 0 by omega, hnext.out, List.set_cons_zero]; simp
      obtain ⟨A1, c1, L1, rfl, hLL, t0, n1, m1, s1⟩ := hrep
      unfold maxLen at m1
      subst Lk
      have HEl := Lib.hid (Elem.start (m := 2) hcells rfl hown)
      have hbn := Lib.hid hown.head
      have G1 : Hid (Got (sliceC strC) base [.slice A1 x.args.length c1] x.args L1 wr) := ⟨⟨A1, c1, rfl, n1, (by unfold maxLen; omega), s1⟩, hown.tail⟩
      have bn1 : Hid (b ∉ L1) := fun m => hown.head (by simp [m])
      have sb1 : Hid (∀ y ∈ L1, y ∈ L1) := fun y m => by simp [m]
      clear s1
      have HPut := Lib.hid hput
      have HOwn := Lib.hid hown
      have HLk := Lib.hid hLk
      clear hput hown hLk hcells hkk hDl hDm
      simp only [show cFact.size = 2 from rfl] at HEl HPut
      have q0 := HEl.out.at (j := 0) rfl
      have z0 := HEl.out.frozen (off + i * 2)
      have q1 := HEl.out.at (j := 1) rfl
      have z1 := HEl.out.frozen (off + i * 2 + 1)
      simp only [Nat.add_zero] at q0
      have gm0 : (0 : Int) ≤ 0 := by omega
      have mono_x_args := nextStringS_ge (kk + 1) x.args
      go_wp2_with fail
      refine (markText_int _ _ (by omega) (by omega)).mono ?_
      rintro e w1 ⟨rfl, hb1⟩
      have HEl := Lib.hid (HEl.out.later hb1)
      have G1 := Lib.hid (G1.out.later hb1)
      clear hb1
      clear q0 z0 q1 z1
      have q0 := HEl.out.at (j := 0) rfl
      have z0 := HEl.out.frozen (off + i * 2)
      have q1 := HEl.out.at (j := 1) rfl
      have z1 := HEl.out.frozen (off + i * 2 + 1)
      simp only [Nat.add_zero] at q0
      go_wp2_with fail
      have G1 := Lib.hid (G1.out.setFar (p := ⟨b, off + i * 2 + 0, none⟩) bn1.out (.string (mTx (kk))))
      refine (markStringS_any A1 _ c1 x.args L1 base _ _ rfl (by omega) (by omega) G1.out).mono ?_
      rintro e w2 ⟨rfl, g2, on2⟩
      have HEl := Lib.hid ((HEl.out.set 0 (by omega) (.string (mTx (kk)))).marked on2 sb1.out bn1.out)
      have G1 := Lib.hid g2
      clear g2 on2
      clear q0 z0 q1 z1
      have q0 := HEl.out.at (j := 0) rfl
      have z0 := HEl.out.frozen (off + i * 2)
      have q1 := HEl.out.at (j := 1) rfl
      have z1 := HEl.out.frozen (off + i * 2 + 1)
      simp only [Nat.add_zero] at q0
      obtain ⟨nn1, mm1, ss1⟩ := sliceC_out G1.out.rep
      have hO2 := Lib.hid (own_cons_keep HOwn.out HEl.out.plain HEl.out.only (fun y m => by (try simp only [List.mem_append] at m); exact G1.out.own.plain y m))
      have HGn := Lib.hid (HPut.out _ _ (mkFact kk x) HEl.out.only HEl.out.cells HEl.out.rest ⟨A1, c1, L1, by simp [mkFact, mkStringS_len], rfl, mTx_size _ (by omega), nn1, mm1, ss1⟩ hO2.out)
      have HOn := Lib.hid (HO.out.trans (HEl.out.only.mono (fun y m => by rcases List.mem_cons.1 m with rfl | m; exact hbL; exact HLk.out y m)))
      rw [hset.out] at HGn
      try simp only [Nat.add_zero] at HGn HOn
      clear HEl hO2 HPut G1 nn1 mm1 ss1
      go_wp2_with fail
      go_roundw
      case rel => exact ⟨i + 1, nextFact kk x, _, by omega, by go_num, rfl, by unfold nextFact; omega, HDn, HGn, HOn⟩
      case measure => simp [intOf]; omega
    · obtain rfl : i = n := by omega
      have e : Hid (ds.drop i = []) := List.drop_of_length_le (by have := HN.out; omega)
      have hf : Hid (nextFactS k ds = kk ∧ D = mkFactS k ds) := by
        obtain ⟨h1, h2, h3⟩ := HD.out
        rw [e.out] at h3 h1
        simp [mkFactS] at h3
        exact ⟨h1.symm, h3⟩
      rw [e.out, List.append_nil] at HG
      go_wp2
      go_ret
      exact ⟨ret_i hf.out.1.symm, by rw [← hf.out.2]; exact HG.out, HO.out⟩

set_option maxRecDepth 100000 in
set_option maxHeartbeats 4000000 in
theorem markStepS_any (A : Option Addr) (n c : Nat) (ds : List StepD) (L : List Nat) (base : Nat) (k : Int) (w : World) (hn : n = ds.length) (hm : n ≤ 9223372036854775807) (hk0 : 1 ≤ k) (hk1 : nextStepS k ds ≤ 4611686018427387904) (h : Got (sliceC cStep) base [.slice A n c] ds L w) :
    Calls Tryd.prog 27 #[.slice A n c, .int .i64 k] w fun e w' => e = .returned (.int .i64 (nextStepS k ds)) ∧ Got (sliceC cStep) base [.slice A n c] (mkStepS k ds) L w' ∧ Only L w w' := by
  have H := Lib.hid h
  have HN := Lib.hid hn
  have HK := Lib.hid hk1
  clear h hn hk1
  go_enter Tryd.func27, Tryd.ntmps27
  go_wp2
  go_loopw [1, 5] (fun q j wr => ∃ (i : Nat) (kk : Int) (D : List StepD), i ≤ n ∧ j = .int .i64 i ∧ q = .int .i64 kk ∧ 1 ≤ kk ∧ Hid (nextStepS kk (ds.drop i) = nextStepS k ds ∧ D.length = i ∧ D ++ mkStepS kk (ds.drop i) = mkStepS k ds) ∧ Hid (Got (sliceC cStep) base [.slice A n c] (D ++ ds.drop i) L wr) ∧ Hid (Only L w wr)) (fun _ j _ => n - (intOf j).toNat)
  case atStart => exact ⟨0, k, [], Nat.zero_le _, rfl, rfl, hk0, ⟨rfl, rfl, rfl⟩, H.out, Only.refl _ _⟩
  case round =>
    obtain ⟨i, kk, D, hi, rfl, rfl, h1, HD, HG, HO⟩ := hrel
    by_cases hlt : i < n
    · have hil : i < ds.length := by have := HN.out; omega
      obtain ⟨hkk, hDl, hDm⟩ := HD.out
      have hcl : i < (D ++ ds.drop i).length := by simp; omega
      obtain ⟨b, off, cs, Lk, rfl, hbL, hLk, hown, hrep, hcells, hput⟩ := HG.out.focus hcl
      have hnext : Hid (ds.drop i = ds[i] :: ds.drop (i + 1)) := List.drop_eq_getElem_cons _
      have hxi : (D ++ ds.drop i)[i] = ds[i] := by
        rw [List.getElem_append_right (by omega)]; simp [hDl]
      rw [hxi] at hrep
      clear hxi
      generalize ds[i] = x at hrep hnext
      have hnb : Hid (nextStep kk x ≤ 4611686018427387904) := by
        have := nextStepS_ge (nextStep kk x) (ds.drop (i + 1))
        rw [hnext.out] at hkk
        have hk := HK.out
        rw [← hkk] at hk
        exact Int.le_trans this hk
      have hnb1 := hnb.out
      have hnb2 := nextStep_ge kk x
      unfold nextStep at hnb1 hnb2
      have HDn : Hid (nextStepS (nextStep kk x) (ds.drop (i + 1)) = nextStepS k ds ∧ (D ++ [mkStep kk x]).length = i + 1 ∧ (D ++ [mkStep kk x]) ++ mkStepS (nextStep kk x) (ds.drop (i + 1)) = mkStepS k ds) := by
        refine ⟨by rw [← hkk, hnext.out]; rfl, by simp [hDl], ?_⟩
        rw [← hDm, hnext.out]; simp [mkStepS]
      have hset : Hid ((D ++ ds.drop i).set i (mkStep kk x) = (D ++ [mkStep kk x]) ++ ds.drop (i + 1)) := by
        rw [Hid, List.set_append_right _ _ (by omega), show i - D.length = 0 by omega, hnext.out, List.set_cons_zero]; simp
      obtain ⟨A1, c1, L1, A2, c2, L2, rfl, hLL, t0, t1, n1, m1, s1, n2, m2, s2⟩ := hrep
      unfold maxLen at m1 m2
      subst hLL
      have HEl := Lib.hid (Elem.start (m := 4) hcells rfl hown)
      have hbn := Lib.hid hown.head
      have G1 : Hid (Got (sliceC strC) base [.slice A1 x.fact.args.length c1] x.fact.args L1 wr) := ⟨⟨A1, c1, rfl, n1, (by unfold maxLen; omega), s1⟩, hown.tail.left⟩
      have bn1 : Hid (b ∉ L1) := fun m => hown.head (by simp [m])
      have sb1 : Hid (∀ y ∈ L1, y ∈ L1 ++ L2) := fun y m => by simp [m]
      have ap1_2 : Hid (∀ y ∈ L1, y ∉ L2) := fun y m m' => hown.tail.apart y m (by simp [m'])
      have ap2_1 : Hid (∀ y ∈ L2, y ∉ L1) := fun y m m' => ap1_2.out y m' m
      have G2 : Hid (Got (sliceC intC) base [.slice A2 x.uses.length c2] x.uses L2 wr) := ⟨⟨A2, c2, rfl, n2, (by unfold maxLen; omega), s2⟩, hown.tail.right⟩
      have bn2 : Hid (b ∉ L2) := fun m => hown.head (by simp [m])
      have sb2 : Hid (∀ y ∈ L2, y ∈ L1 ++ L2) := fun y m => by simp [m]
      clear s1
      clear s2
      have HPut := Lib.hid hput
      have HOwn := Lib.hid hown
      have HLk := Lib.hid hLk
      clear hput hown hLk hcells hkk hDl hDm
      simp only [show cStep.size = 4 from rfl] at HEl HPut
      have q0 := HEl.out.at (j := 0) rfl
      have z0 := HEl.out.frozen (off + i * 4)
      have q1 := HEl.out.at (j := 1) rfl
      have z1 := HEl.out.frozen (off + i * 4 + 1)
      have q2 := HEl.out.at (j := 2) rfl
      have z2 := HEl.out.frozen (off + i * 4 + 2)
      have q3 := HEl.out.at (j := 3) rfl
      have z3 := HEl.out.frozen (off + i * 4 + 3)
      simp only [Nat.add_zero] at q0
      have gm0 : (0 : Int) ≤ 0 := by omega
      have mono_x_fact_args := nextStringS_ge (kk + 1) x.fact.args
      have mono_x_uses := nextIntS_ge (nextStringS (kk + 1) x.fact.args + 1) x.uses
      go_wp2_with fail
      refine (markText_int _ _ (by omega) (by omega)).mono ?_
      rintro e w1 ⟨rfl, hb1⟩
      have HEl := Lib.hid (HEl.out.later hb1)
      have G1 := Lib.hid (G1.out.later hb1)
      have G2 := Lib.hid (G2.out.later hb1)
      clear hb1
      clear q0 z0 q1 z1 q2 z2 q3 z3
      have q0 := HEl.out.at (j := 0) rfl
      have z0 := HEl.out.frozen (off + i * 4)
      have q1 := HEl.out.at (j := 1) rfl
      have z1 := HEl.out.frozen (off + i * 4 + 1)
      have q2 := HEl.out.at (j := 2) rfl
      have z2 := HEl.out.frozen (off + i * 4 + 2)
      have q3 := HEl.out.at (j := 3) rfl
      have z3 := HEl.out.frozen (off + i * 4 + 3)
      simp only [Nat.add_zero] at q0
      go_wp2_with fail
      have G1 := Lib.hid (G1.out.setFar (p := ⟨b, off + i * 4 + 0, none⟩) bn1.out (.string (mTx (kk))))
      refine (markStringS_any A1 _ c1 x.fact.args L1 base _ _ rfl (by omega) (by omega) G1.out).mono ?_
      rintro e w2 ⟨rfl, g2, on2⟩
      have HEl := Lib.hid ((HEl.out.set 0 (by omega) (.string (mTx (kk)))).marked on2 sb1.out bn1.out)
      have G1 := Lib.hid g2
      have G2 := Lib.hid ((G2.out.setFar (p := ⟨b, off + i * 4 + 0, none⟩) bn2.out (.string (mTx (kk)))).only on2 ap2_1.out)
      clear g2 on2
      clear q0 z0 q1 z1 q2 z2 q3 z3
      have q0 := HEl.out.at (j := 0) rfl
      have z0 := HEl.out.frozen (off + i * 4)
      have q1 := HEl.out.at (j := 1) rfl
      have z1 := HEl.out.frozen (off + i * 4 + 1)
      have q2 := HEl.out.at (j := 2) rfl
      have z2 := HEl.out.frozen (off + i * 4 + 2)
      have q3 := HEl.out.at (j := 3) rfl
      have z3 := HEl.out.frozen (off + i * 4 + 3)
      simp only [Nat.add_zero] at q0
      go_wp2_with fail
      refine (markText_int _ _ (by omega) (by omega)).mono ?_
      rintro e w3 ⟨rfl, hb3⟩
      have HEl := Lib.hid (HEl.out.later hb3)
      have G1 := Lib.hid (G1.out.later hb3)
      have G2 := Lib.hid (G2.out.later hb3)
      clear hb3
      clear q0 z0 q1 z1 q2 z2 q3 z3
      have q0 := HEl.out.at (j := 0) rfl
      have z0 := HEl.out.frozen (off + i * 4)
      have q1 := HEl.out.at (j := 1) rfl
      have z1 := HEl.out.frozen (off + i * 4 + 1)
      have q2 := HEl.out.at (j := 2) rfl
      have z2 := HEl.out.frozen (off + i * 4 + 2)
      have q3 := HEl.out.at (j := 3) rfl
      have z3 := HEl.out.frozen (off + i * 4 + 3)
      simp only [Nat.add_zero] at q0
      go_wp2_with fail
      have G2 := Lib.hid (G2.out.setFar (p := ⟨b, off + i * 4 + 2, none⟩) bn2.out (.string (mTx (nextStringS (kk + 1) x.fact.args))))
      refine (markIntS_any A2 _ c2 x.uses L2 base _ _ rfl (by omega) (by omega) G2.out).mono ?_
      rintro e w4 ⟨rfl, g4, on4⟩
      have HEl := Lib.hid ((HEl.out.set 2 (by omega) (.string (mTx (nextStringS (kk + 1) x.fact.args)))).marked on4 sb2.out bn2.out)
      have G1 := Lib.hid ((G1.out.setFar (p := ⟨b, off + i * 4 + 2, none⟩) bn1.out (.string (mTx (nextStringS (kk + 1) x.fact.args)))).only on4 ap1_2.out)
      have G2 := Lib.hid g4
      clear g4 on4
      clear q0 z0 q1 z1 q2 z2 q3 z3
      have q0 := HEl.out.at (j := 0) rfl
      have z0 := HEl.out.frozen (off + i * 4)
      have q1 := HEl.out.at (j := 1) rfl
      have z1 := HEl.out.frozen (off + i * 4 + 1)
      have q2 := HEl.out.at (j := 2) rfl
      have z2 := HEl.out.frozen (off + i * 4 + 2)
      have q3 := HEl.out.at (j := 3) rfl
      have z3 := HEl.out.frozen (off + i * 4 + 3)
      simp only [Nat.add_zero] at q0
      obtain ⟨nn1, mm1, ss1⟩ := sliceC_out G1.out.rep
      obtain ⟨nn2, mm2, ss2⟩ := sliceC_out G2.out.rep
      have hO2 := Lib.hid (own_cons_keep HOwn.out HEl.out.plain HEl.out.only (fun y m => by (try simp only [List.mem_append] at m); rcases m with m | m <;> first | exact G1.out.own.plain y m | exact G2.out.own.plain y m))
      have HGn := Lib.hid (HPut.out _ _ (mkStep kk x) HEl.out.only HEl.out.cells HEl.out.rest ⟨A1, c1, L1, A2, c2, L2, by simp [mkStep, mkStringS_len, mkIntS_len], rfl, mTx_size _ (by omega), mTx_size _ (by omega), nn1, mm1, ss1, nn2, mm2, ss2⟩ hO2.out)
      have HOn := Lib.hid (HO.out.trans (HEl.out.only.mono (fun y m => by rcases List.mem_cons.1 m with rfl | m; exact hbL; exact HLk.out y m)))
      rw [hset.out] at HGn
      try simp only [Nat.add_zero] at HGn HOn
      clear HEl hO2 HPut G1 G2 nn1 nn2 mm1 mm2 ss1 ss2
      go_wp2_with fail
      go_roundw
      case rel => exact ⟨i + 1, nextStep kk x, _, by omega, by go_num, rfl, by unfold nextStep; omega, HDn, HGn, HOn⟩
      case measure => simp [intOf]; omega
    · obtain rfl : i = n := by omega
      have e : Hid (ds.drop i = []) := List.drop_of_length_le (by have := HN.out; omega)
      have hf : Hid (nextStepS k ds = kk ∧ D = mkStepS k ds) := by
        obtain ⟨h1, h2, h3⟩ := HD.out
        rw [e.out] at h3 h1
        simp [mkStepS] at h3
        exact ⟨h1.symm, h3⟩
      rw [e.out, List.append_nil] at HG
      go_wp2
      go_ret
      exact ⟨ret_i hf.out.1.symm, by rw [← hf.out.2]; exact HG.out, HO.out⟩

end Go.Proofs.YtppjenkjopjeiaaDoor

namespace Go.Proofs.YtppjenkjopjeiaaDoor
open Go.RowKit

theorem below_of_drew {w w1 : World} {B : Nat} (h : Below w.drew.heap.size w.drew w1) (hB : B ≤ w.heap.size) : Below B w w1 := ⟨h.os, h.tape, h.output, h.size, fun k hk => h.block k (Nat.lt_of_lt_of_le hk hB)⟩

set_option maxHeartbeats 1600000 in
theorem heldStringS_any (A : Option Addr) (n c : Nat) (ds : List ByteArray) (L : List Nat) (k : Int) (w : World) (hn : n = ds.length) (hk0 : 1 ≤ k) (hk1 : nextStringS k ds ≤ 4611686018427387904) (h : Sli strC w A (mkStringS k ds) L) :
    Calls Tryd.prog 58 #[.slice A n c, .int .i64 k] w fun e w' => e = .returned (.int .i64 (nextStringS k ds)) ∧ Below w.heap.size w w' := by
  have H := Lib.hid h
  have HN := Lib.hid hn
  have hk1' : k + n ≤ 4611686018427387904 := by simp only [nextStringS] at hk1; omega
  clear h hn hk1
  go_enter Tryd.func58, Tryd.ntmps58
  go_wp2
  go_loopw [1, 5] (fun q j wr => ∃ (i : Nat) (kk : Int), i ≤ n ∧ j = .int .i64 i ∧ q = .int .i64 kk ∧ 1 ≤ kk ∧ kk + (n - i : Nat) ≤ 4611686018427387904 ∧ Hid (kk = k + i ∧ (mkStringS k ds).drop i = mkStringS kk (ds.drop i)) ∧ Hid (Below w.heap.size w wr)) (fun _ j _ => n - (intOf j).toNat)
  case atStart => exact ⟨0, k, Nat.zero_le _, rfl, rfl, hk0, by omega, ⟨by omega, rfl⟩, Below.refl _ _⟩
  case round =>
    obtain ⟨i, kk, hi, rfl, rfl, h1, h2, HD, HB⟩ := hrel
    by_cases hlt : i < n
    · have hil : i < ds.length := by have := HN.out; omega
      obtain ⟨hkk, hdr⟩ := HD.out
      have hml : i < (mkStringS k ds).length := by rw [mkStringS_len]; exact hil
      obtain ⟨b, off, cs, Lk, rfl, hbL, _, hrep, hc⟩ := H.out.at_ hml
      have hdr2 := hdr
      rw [List.drop_eq_getElem_cons hml, List.drop_eq_getElem_cons hil, mkStringS] at hdr2
      injection hdr2 with e1 e2
      rw [e1] at hrep
      obtain ⟨rfl, _, _⟩ := hrep
      have hbl : b < w.heap.size := H.out.lt b hbL
      have hbr : b < wr.heap.size := Nat.lt_of_lt_of_le hbl HB.out.size
      have q0 := (HB.out.cell (p := ⟨b, off + (i * strC.size + 0), none⟩) hbl).trans (hc 0 _ rfl)
      simp only [show strC.size = 1 from rfl, Nat.mul_one, Nat.add_zero] at q0
      have HDn : Hid (kk + 1 = k + (i + 1 : Nat) ∧ (mkStringS k ds).drop (i + 1) = mkStringS (kk + 1) (ds.drop (i + 1))) := ⟨by omega, e2⟩
      clear hc hkk hdr e1 e2
      have i0 : (0 : Int) ≤ i := by omega
      have i1 : (i : Int) < n := by omega
      go_wp2_with fail
      go_region_held3 (fun w' => w'.cell? ⟨b, off + i, none⟩ = some (.string (mTx kk))) (first | go_keep | exact (hb1.cell (p := ⟨b, off + i, none⟩) hbr).trans q0) (first | (go_at_call 55; refine (markText_int _ _ (by omega) (by omega)).mono ?_; rintro e w1 ⟨rfl, hb1⟩))
      have HBn := Lib.hid (HB.out.trans (below_of_drew hb1 HB.out.size))
      clear hb1
      go_wp2_with fail
      go_roundw
      case rel => exact ⟨i + 1, kk + 1, by omega, by go_num, rfl, by omega, by omega, HDn, HBn⟩
      case measure => simp [intOf]; omega
    · obtain rfl : i = n := by omega
      have hf : Hid (nextStringS k ds = kk) := by
        obtain ⟨h1, _⟩ := HD.out
        have := HN.out; rw [Hid]; simp only [nextStringS]; omega
      go_wp2
      go_ret
      exact ⟨ret_i hf.out.symm, HB.out⟩

set_option maxRecDepth 100000 in
set_option maxHeartbeats 4000000 in
theorem heldFactS_any (A : Option Addr) (n c : Nat) (ds : List FactD) (L : List Nat) (k : Int) (w : World) (hn : n = ds.length) (hm : n ≤ 9223372036854775807) (hk0 : 1 ≤ k) (hk1 : nextFactS k ds ≤ 4611686018427387904) (h : Sli cFact w A (mkFactS k ds) L) :
    Calls Tryd.prog 29 #[.slice A n c, .int .i64 k] w fun e w' => e = .returned (.int .i64 (nextFactS k ds)) ∧ Below w.heap.size w w' := by
  have H := Lib.hid h
  have HN := Lib.hid hn
  have HK := Lib.hid hk1
  clear h hn hk1
  go_enter Tryd.func29, Tryd.ntmps29
  go_wp2
  go_loopw [1, 5] (fun q j wr => ∃ (i : Nat) (kk : Int), i ≤ n ∧ j = .int .i64 i ∧ q = .int .i64 kk ∧ 1 ≤ kk ∧ Hid (nextFactS kk (ds.drop i) = nextFactS k ds ∧ (mkFactS k ds).drop i = mkFactS kk (ds.drop i)) ∧ Hid (Below w.heap.size w wr)) (fun _ j _ => n - (intOf j).toNat)
  case atStart => exact ⟨0, k, Nat.zero_le _, rfl, rfl, hk0, ⟨rfl, rfl⟩, Below.refl _ _⟩
  case round =>
    obtain ⟨i, kk, hi, rfl, rfl, h1, HD, HB⟩ := hrel
    by_cases hlt : i < n
    · have hil : i < ds.length := by have := HN.out; omega
      obtain ⟨hkk, hdr⟩ := HD.out
      have hml : i < (mkFactS k ds).length := by rw [mkFactS_len]; exact hil
      obtain ⟨b, off, cs, Lk, rfl, hbL, hLk, hrep, hc⟩ := H.out.at_ hml
      rw [List.drop_eq_getElem_cons hml, List.drop_eq_getElem_cons hil, mkFactS] at hdr
      injection hdr with e1 e2
      rw [e1] at hrep
      clear e1
      have hnext : ds.drop i = ds[i] :: ds.drop (i + 1) := List.drop_eq_getElem_cons _
      rw [hnext] at hkk
      clear hnext
      generalize ds[i] = x at hrep hkk e2
      have hnb : Hid (nextFact kk x ≤ 4611686018427387904) := by
        have := nextFactS_ge (nextFact kk x) (ds.drop (i + 1))
        have hk := HK.out
        rw [← hkk] at hk
        exact Int.le_trans this hk
      have hnb1 := hnb.out
      have hnb2 := nextFact_ge kk x
      unfold nextFact at hnb1 hnb2
      have HDn : Hid (nextFactS (nextFact kk x) (ds.drop (i + 1)) = nextFactS k ds ∧ (mkFactS k ds).drop (i + 1) = mkFactS (nextFact kk x) (ds.drop (i + 1))) := ⟨hkk, e2⟩
      have hbl : b < w.heap.size := H.out.lt b hbL
      clear hkk e2
      obtain ⟨A1, c1, L1, rfl, hLL, t0, n1, m1, s1⟩ := hrep
      have S1 := Lib.hid s1
      have lL1 : Hid (∀ y ∈ L1, y < w.heap.size) := fun y m => H.out.lt y (hLk y (by rw [hLL]; simp [m]))
      have ll1 : (mkFact kk x).args.length = x.args.length := mkStringS_len _ _
      clear s1
      have Q0 := Lib.hid (hc 0 _ rfl)
      have Q1 := Lib.hid (hc 1 _ rfl)
      unfold maxLen at m1
      rw [ll1] at Q1 n1
      clear hc ll1
      have i0 : (0 : Int) ≤ i := by omega
      have i1 : (i : Int) < n := by omega
      have mono_x_args := nextStringS_ge (kk + 1) x.args
      have q0 : wr.cell? ⟨b, off + i * 2, none⟩ = some (.string (mTx (kk))) := (HB.out.cell (p := ⟨b, off + (i * 2 + 0), none⟩) hbl).trans Q0.out
      have q1 : wr.cell? ⟨b, off + i * 2 + 1, none⟩ = some (.slice A1 x.args.length c1) := (HB.out.cell (p := ⟨b, off + (i * 2 + 1), none⟩) hbl).trans Q1.out
      have hbr : b < wr.heap.size := Nat.lt_of_lt_of_le hbl HB.out.size
      go_wp2_with fail
      go_region_held3 (fun w' => w'.cell? ⟨b, off + i * 2, none⟩ = some (.string (mTx (kk)))) (first | go_keep | exact (hb1.cell (p := ⟨b, off + i * 2, none⟩) hbr).trans q0) (first | (go_at_call 55; refine (markText_int _ _ (by omega) (by omega)).mono ?_; rintro e w1 ⟨rfl, hb1⟩))
      have HB := Lib.hid (HB.out.trans (below_of_drew hb1 HB.out.size))
      clear hb1
      clear q0 q1
      have q0 : w1.cell? ⟨b, off + i * 2, none⟩ = some (.string (mTx (kk))) := (HB.out.cell (p := ⟨b, off + (i * 2 + 0), none⟩) hbl).trans Q0.out
      have q1 : w1.cell? ⟨b, off + i * 2 + 1, none⟩ = some (.slice A1 x.args.length c1) := (HB.out.cell (p := ⟨b, off + (i * 2 + 1), none⟩) hbl).trans Q1.out
      replace hbr : b < w1.heap.size := Nat.lt_of_lt_of_le hbl HB.out.size
      go_wp2_with fail
      refine (heldStringS_any A1 _ c1 x.args L1 _ _ rfl (by omega) (by omega) (S1.out.keep (keep_below HB.out lL1.out))).mono ?_
      rintro e w2 ⟨rfl, hb2⟩
      have HB := Lib.hid (HB.out.trans (hb2.mono HB.out.size))
      clear hb2
      clear q0 q1
      have q0 : w2.cell? ⟨b, off + i * 2, none⟩ = some (.string (mTx (kk))) := (HB.out.cell (p := ⟨b, off + (i * 2 + 0), none⟩) hbl).trans Q0.out
      have q1 : w2.cell? ⟨b, off + i * 2 + 1, none⟩ = some (.slice A1 x.args.length c1) := (HB.out.cell (p := ⟨b, off + (i * 2 + 1), none⟩) hbl).trans Q1.out
      replace hbr : b < w2.heap.size := Nat.lt_of_lt_of_le hbl HB.out.size
      have ge2 : ¬ (nextStringS (kk + 1) x.args < 0) := by omega
      go_wp2_with fail
      go_roundw
      case rel => exact ⟨i + 1, nextFact kk x, by omega, by go_num, rfl, by unfold nextFact; omega, HDn, HB⟩
      case measure => simp [intOf]; omega
    · obtain rfl : i = n := by omega
      have hf : Hid (nextFactS k ds = kk) := by
        obtain ⟨h1, _⟩ := HD.out
        rw [Hid, ← h1, List.drop_of_length_le (by have := HN.out; omega)]; rfl
      go_wp2
      go_ret
      exact ⟨ret_i hf.out.symm, HB.out⟩

end Go.Proofs.YtppjenkjopjeiaaDoor

namespace Go.Proofs.YtppjenkjopjeiaaDoor
open Go.RowKit Go.Deep

def Opens {α : Type} (P : Program) (t : TypeId) (c : Codec α) (wf : α → Prop) : Prop :=
  ∀ {H : Type} {enc : TypeId × Value → H} {w : World} {base : Nat} {spare : Nat → Bool} {held : Bool} {fuel : Nat} {cs : List Value} {x : DataW H × List MemPlace},
    DataW.trod enc P w base spare held fuel t cs = some x → ∃ d L, c.rep w cs d L ∧ wf d

theorem opens_int {P : Program} {t : TypeId} (ht : P.underlying t = some (.int .i64)) : Opens P t intC wfInt := by
  intro H enc w base spare held fuel cs x h
  obtain ⟨n, rfl, _, hw⟩ := DataW.trod_int ht h
  refine ⟨n, [], ⟨rfl, rfl⟩, ?_⟩
  simp [Lit.wf, IntKind.min, IntKind.max, IntKind.signed, IntKind.bits] at hw
  exact ⟨by omega, by omega⟩
theorem opens_string {P : Program} {t : TypeId} (ht : P.underlying t = some .string) : Opens P t strC (fun _ => True) := by
  intro H enc w base spare held fuel cs x h
  obtain ⟨s, rfl, _, hs⟩ := DataW.trod_string ht h
  exact ⟨s, [], ⟨rfl, rfl, by unfold maxLen at hs; omega⟩, trivial⟩
theorem opens_slice {α : Type} {c : Codec α} {wf : α → Prop} {P : Program} {t e : TypeId} (ht : P.underlying t = some (.slice e)) (hc : P.cellsOf e = c.size) (ho : Opens P e c wf) : Opens P t (sliceC c) (fun ds => ∀ d ∈ ds, wf d) := by
  intro H enc w base spare held fuel cs x h
  rcases open_slice ht h with ⟨rfl, _⟩ | ⟨a, len, cap, m, n, D, Pl, rfl, hb, hl, hm, hmm, _, hx⟩
  · exact ⟨[], [], ⟨none, 0, rfl, Nat.le_refl _, Nat.zero_le _, Sli.nil _ _⟩, by simp⟩
  · have hlm : len ≤ m := by rw [hmm]; split <;> omega
    have key : ∀ q, q ≤ len → ∃ (xs : List Value) (ds : List α) (L : List Nat), ds.length = q ∧ (∀ j u, xs[j]? = some u → w.cell? (a.add j) = some u) ∧ c.reps w xs ds L ∧ ∀ d ∈ ds, wf d := by
      intro q
      induction q with
      | zero => exact fun _ => ⟨[], [], [], rfl, by simp, ⟨rfl, rfl⟩, by simp⟩
      | succ q ih =>
        intro hq
        obtain ⟨xs, ds, L, hd, hcell, hr, hwf⟩ := ih (by omega)
        obtain ⟨cs', h1, h2⟩ := hx q (by omega)
        obtain ⟨d, Lq, hrep, hwd⟩ := ho h2
        obtain ⟨_, hlen, hat⟩ := World.cells?_some h1
        refine ⟨xs ++ cs', ds ++ [d], L ++ Lq, by simp [hd], fun j u hu => ?_, reps_append hr (reps_one_of hrep), ?_⟩
        · have hxl : xs.length = q * c.size := by rw [reps_len hr, hd]
          rw [List.getElem?_append] at hu
          split at hu
          · exact hcell j u hu
          · rename_i hj
            have hj2 := (List.getElem?_eq_some_iff.1 hu).1
            have := hat (j - xs.length) (by omega)
            rw [← hu, ← this, Go.Deep.add_add, hc, ← hxl]
            congr 2
            omega
        · intro y hy
          rcases List.mem_append.1 hy with hy | hy
          · exact hwf y hy
          · simp at hy; subst hy; exact hwd
    obtain ⟨xs, ds, L, hd, hcell, hr, hwf⟩ := key len (Nat.le_refl _)
    have hxl := reps_len hr
    rcases Nat.eq_zero_or_pos len with h0 | h0
    · have : ds = [] := List.eq_nil_of_length_eq_zero (by omega)
      subst this
      refine ⟨[], [], ⟨some a, cap, by simp at hd; rw [← hd]; rfl, by simp, hm, Sli.nil _ _⟩, by simp⟩
    · obtain ⟨b, off, sp⟩ := a
      have hp : 0 < xs.length := by rw [hxl, hd]; exact Nat.mul_pos h0 c.pos
      have hsp : sp = none := by
        have h1 := hcell 0 _ (List.getElem?_eq_getElem hp)
        have e : (⟨b, off, sp⟩ : Addr).add 0 = ⟨b, off, sp⟩ := by simp [Addr.add]
        rw [e] at h1
        cases sp with
        | none => rfl
        | some q =>
          simp only [World.cell?] at h1
          split at h1 <;> simp at h1
      subst hsp
      refine ⟨ds, [b] ++ L, ⟨some ⟨b, off, none⟩, cap, by rw [hd], by omega, hm, xs, [b], L, rfl, ⟨by rw [hxl], .inr ⟨by omega, b, off, rfl, rfl, fun j u hu => ?_⟩⟩, hr⟩, hwf⟩
      have := hcell j u hu
      rwa [add_lit0] at this

end Go.Proofs.YtppjenkjopjeiaaDoor

namespace Go.Proofs.YtppjenkjopjeiaaDoor
open Go.RowKit

theorem sGivenIn_std {aSteps : List StepD} {r : List FactD} (hh : s_GivenIn aSteps = some r) (w : World) (hj : J0 w) (AaSteps : Option Addr) (caSteps : Nat) (LaSteps : List Nat) (haSteps : (sliceC cStep).rep w [.slice AaSteps aSteps.length caSteps] aSteps LaSteps) :
    Calls Tryd.prog 22 #[.slice AaSteps aSteps.length caSteps] w (GivesS cFact 37 w r) :=
  Sound.givesS (c := cFact) (g := eFact) (ds := r) (s_GivenIn_ok hh) encFact hj (vs := [_]) ⟨arg_sl encStep _ haSteps, trivial⟩

theorem iGivenIn_std {aSteps : List StepD} {r : List FactD} (hh : i_GivenIn aSteps = some r) (w : World) (hj : J0 w) (AaSteps : Option Addr) (caSteps : Nat) (LaSteps : List Nat) (haSteps : (sliceC cStep).rep w [.slice AaSteps aSteps.length caSteps] aSteps LaSteps) :
    Calls Tryd.prog 24 #[.slice AaSteps aSteps.length caSteps] w (GivesS cFact 37 w r) :=
  Sound.givesS (c := cFact) (g := eFact) (ds := r) (i_GivenIn_ok hh) encFact hj (vs := [_]) ⟨arg_sl encStep _ haSteps, trivial⟩

set_option maxRecDepth 100000 in
set_option maxHeartbeats 8000000 in
theorem FnExactGivenIn_walk (w : World) (hJ : J0 w) (A_aSteps : Option Addr) (c_aSteps : Nat) (aSteps : List StepD) (L_aSteps : List Nat) (ln_aSteps : aSteps.length ≤ 9223372036854775807) (h_aSteps : Sli cStep w A_aSteps aSteps L_aSteps) (wf_aSteps : (fun ds => ∀ d ∈ ds, wfStep d) aSteps) :
    Calls Tryd.prog 6 #[.slice A_aSteps aSteps.length c_aSteps] w fun e w' => e = .returned (.bool true) ∧ Below w.heap.size w w' := by
  have HJ := Lib.hid hJ
  clear hJ
  have H_aSteps := Lib.hid h_aSteps
  clear h_aSteps
  go_enter Tryd.func6, Tryd.ntmps6
  go_wp2_with fail
  refine (szStepS_any A_aSteps _ c_aSteps aSteps L_aSteps _ _ rfl ln_aSteps (by omega) (by omega) (H_aSteps.out.below (Below.refl w.heap.size w))).mono ?_
  rintro e w1 ⟨rfl, hb⟩
  have B1 := Lib.hid ((Below.refl w.heap.size w).trans (hb.mono (Below.refl w.heap.size w).size))
  have sz1 := hb.size
  clear hb
  by_cases cc_aSteps : ((costStepS aSteps : Nat) : Int) ≤ 1048576
  rotate_left
  · rw [szR_neg cc_aSteps]
    go_wp2
    go_ret
    exact ⟨rfl, B1.out⟩
  rw [szR_pos cc_aSteps]
  have cz_aSteps : costStepS aSteps ≤ 1048576 := by omega
  have cl_aSteps : aSteps.length ≤ 1048576 := by have := cz_aSteps; simp only [costStepS] at this; omega
  have nn_aSteps : ¬ (1048576 - ((costStepS aSteps : Nat) : Int) < 0) := by omega
  obtain ⟨R0, hs0, hi0, rl⟩ := GivenIn_plain aSteps cz_aSteps wf_aSteps
  go_wp2_with fail
  refine (toStepS_any A_aSteps _ c_aSteps aSteps L_aSteps _ rfl cz_aSteps (H_aSteps.out.below B1.out)).mono ?_
  rintro e w2 ⟨v, rfl, acc⟩
  obtain ⟨A_t1aSteps, c_t1aSteps, rfl⟩ := acc.shape
  have hb := acc.below
  obtain ⟨L_t1aSteps, gt⟩ := acc.got
  have B2 := Lib.hid (B1.out.trans (hb.mono B1.out.size))
  have sz2 := hb.size
  clear B1
  have V_t1aSteps := Lib.hid gt
  have ge_t1aSteps := Lib.hid gt.own.ge
  have lt_t1aSteps := Lib.hid gt.lt
  clear gt hb acc
  go_wp2_with fail
  refine (sGivenIn_std hs0 _ (jok_below hJ0 HJ.out B2.out) A_t1aSteps c_t1aSteps L_t1aSteps V_t1aSteps.out.rep).mono ?_
  rintro e w3 ⟨v, rfl, acc⟩
  obtain ⟨A_w0, c_w0, rfl⟩ := acc.shape
  have hb := acc.below
  obtain ⟨L_w0, gt⟩ := acc.got
  have B3 := Lib.hid (B2.out.trans (hb.mono B2.out.size))
  have sz3 := hb.size
  have V_t1aSteps := Lib.hid (V_t1aSteps.out.later hb)
  clear B2
  have V_w0 := Lib.hid gt
  have ge_w0 := Lib.hid gt.own.ge
  have lt_w0 := Lib.hid gt.lt
  clear gt hb acc
  clear V_t1aSteps
  go_wp2_with fail
  refine (toStepS_any A_aSteps _ c_aSteps aSteps L_aSteps _ rfl cz_aSteps (H_aSteps.out.below B3.out)).mono ?_
  rintro e w4 ⟨v, rfl, acc⟩
  obtain ⟨A_x0, c_x0, rfl⟩ := acc.shape
  have hb := acc.below
  obtain ⟨L_x0, gt⟩ := acc.got
  have B4 := Lib.hid (B3.out.trans (hb.mono B3.out.size))
  have sz4 := hb.size
  have V_w0 := Lib.hid (V_w0.out.later hb)
  clear B3
  have V_x0 := Lib.hid gt
  have ge_x0 := Lib.hid gt.own.ge
  have lt_x0 := Lib.hid gt.lt
  clear gt hb acc
  go_wp2_with fail
  refine (iGivenIn_std hi0 _ (jok_below hJ0 HJ.out B4.out) A_x0 c_x0 L_x0 V_x0.out.rep).mono ?_
  rintro e w5 ⟨v, rfl, acc⟩
  obtain ⟨A_g0, c_g0, rfl⟩ := acc.shape
  have hb := acc.below
  obtain ⟨L_g0, gt⟩ := acc.got
  have B5 := Lib.hid (B4.out.trans (hb.mono B4.out.size))
  have sz5 := hb.size
  have V_w0 := Lib.hid (V_w0.out.later hb)
  have V_x0 := Lib.hid (V_x0.out.later hb)
  clear B4
  have V_g0 := Lib.hid gt
  have ge_g0 := Lib.hid gt.own.ge
  have lt_g0 := Lib.hid gt.lt
  clear gt hb acc
  go_wp2_with fail
  refine (eqFactS_any A_g0 A_w0 _ c_g0 c_w0 _ L_g0 L_w0 _ rfl (by omega) (sliceC_out V_g0.out.rep).2.2 (sliceC_out V_w0.out.rep).2.2).mono ?_
  rintro e w6 ⟨rfl, hb⟩
  have B6 := Lib.hid (B5.out.trans (hb.mono B5.out.size))
  have sz6 := hb.size
  have V_w0 := Lib.hid (V_w0.out.later hb)
  have V_x0 := Lib.hid (V_x0.out.later hb)
  have V_g0 := Lib.hid (V_g0.out.later hb)
  clear B5
  clear hb
  go_wp2_with fail
  refine (toStepS_any A_aSteps _ c_aSteps aSteps L_aSteps _ rfl cz_aSteps (H_aSteps.out.below B6.out)).mono ?_
  rintro e w7 ⟨v, rfl, acc⟩
  obtain ⟨A_t6aSteps, c_t6aSteps, rfl⟩ := acc.shape
  have hb := acc.below
  obtain ⟨L_t6aSteps, gt⟩ := acc.got
  have B7 := Lib.hid (B6.out.trans (hb.mono B6.out.size))
  have sz7 := hb.size
  have V_w0 := Lib.hid (V_w0.out.later hb)
  have V_x0 := Lib.hid (V_x0.out.later hb)
  have V_g0 := Lib.hid (V_g0.out.later hb)
  clear B6
  have V_t6aSteps := Lib.hid gt
  have ge_t6aSteps := Lib.hid gt.own.ge
  have lt_t6aSteps := Lib.hid gt.lt
  clear gt hb acc
  go_wp2_with fail
  refine (eqStepS_any A_x0 A_t6aSteps _ c_x0 c_t6aSteps _ L_x0 L_t6aSteps _ rfl (by omega) (sliceC_out V_x0.out.rep).2.2 (sliceC_out V_t6aSteps.out.rep).2.2).mono ?_
  rintro e w8 ⟨rfl, hb⟩
  have B8 := Lib.hid (B7.out.trans (hb.mono B7.out.size))
  have sz8 := hb.size
  have V_w0 := Lib.hid (V_w0.out.later hb)
  have V_x0 := Lib.hid (V_x0.out.later hb)
  have V_g0 := Lib.hid (V_g0.out.later hb)
  have V_t6aSteps := Lib.hid (V_t6aSteps.out.later hb)
  clear B7
  clear hb
  clear V_t6aSteps
  have nl_x0_8 := nextStepS_le ((1 : Int)) aSteps
  have nb_x0_8 : nextStepS ((1 : Int)) aSteps ≤ 4611686018427387904 := by omega
  have ng_x0_8 := nextStepS_ge ((1 : Int)) aSteps
  go_wp2_with fail
  refine (markStepS_any A_x0 _ c_x0 aSteps L_x0 _ _ _ rfl (by omega) (by omega) (by omega) V_x0.out).mono ?_
  rintro e w9 ⟨rfl, gm, on⟩
  have B9 := Lib.hid (B8.out.trans (on.below B8.out.size (fun y m => by have := ge_x0.out y m; omega)))
  have sz9 := on.size
  have V_w0 := Lib.hid (V_w0.out.only on (fun y m m' => by have := lt_w0.out y m; have := ge_x0.out y m'; omega))
  have V_g0 := Lib.hid (V_g0.out.only on (fun y m m' => by have := ge_g0.out y m; have := lt_x0.out y m'; omega))
  clear B8
  have V_x0 := Lib.hid gm
  clear gm on
  clear V_x0
  have kn : ¬ (nextStepS ((1 : Int)) aSteps < 0) := by omega
  go_wp2_with fail
  refine (eqFactS_any A_g0 A_w0 _ c_g0 c_w0 _ L_g0 L_w0 _ rfl (by omega) (sliceC_out V_g0.out.rep).2.2 (sliceC_out V_w0.out.rep).2.2).mono ?_
  rintro e w10 ⟨rfl, hb⟩
  have B10 := Lib.hid (B9.out.trans (hb.mono B9.out.size))
  have sz10 := hb.size
  have V_w0 := Lib.hid (V_w0.out.later hb)
  have V_g0 := Lib.hid (V_g0.out.later hb)
  clear B9
  clear hb
  have nl_g0_10 := nextFactS_le ((1 : Int)) R0
  have nb_g0_10 : nextFactS ((1 : Int)) R0 ≤ 4611686018427387904 := by omega
  have ng_g0_10 := nextFactS_ge ((1 : Int)) R0
  go_wp2_with fail
  refine (markFactS_any A_g0 _ c_g0 R0 L_g0 _ _ _ rfl (by omega) (by omega) (by omega) V_g0.out).mono ?_
  rintro e w11 ⟨rfl, gm, on⟩
  have B11 := Lib.hid (B10.out.trans (on.below B10.out.size (fun y m => by have := ge_g0.out y m; omega)))
  have sz11 := on.size
  have V_w0 := Lib.hid (V_w0.out.only on (fun y m m' => by have := lt_w0.out y m; have := ge_g0.out y m'; omega))
  clear B10
  have V_g0 := Lib.hid gm
  clear gm on
  go_wp2_with fail
  refine (heldFactS_any A_g0 _ c_g0 R0 L_g0 _ _ rfl (by omega) (by omega) (by omega) (sliceC_out V_g0.out.rep).2.2).mono ?_
  rintro e w12 ⟨rfl, hb⟩
  have B12 := Lib.hid (B11.out.trans (hb.mono B11.out.size))
  have sz12 := hb.size
  have V_w0 := Lib.hid (V_w0.out.later hb)
  have V_g0 := Lib.hid (V_g0.out.later hb)
  clear B11
  clear hb
  have qn12 : ¬ (nextFactS ((1 : Int)) R0 < 0) := by omega
  have qm12 : ((nextFactS ((1 : Int)) R0) != (nextFactS ((1 : Int)) R0)) = false := by simp
  go_wp2_with fail
  refine (toStepS_any A_aSteps _ c_aSteps aSteps L_aSteps _ rfl cz_aSteps (H_aSteps.out.below B12.out)).mono ?_
  rintro e w13 ⟨v, rfl, acc⟩
  obtain ⟨A_t12aSteps, c_t12aSteps, rfl⟩ := acc.shape
  have hb := acc.below
  obtain ⟨L_t12aSteps, gt⟩ := acc.got
  have B13 := Lib.hid (B12.out.trans (hb.mono B12.out.size))
  have sz13 := hb.size
  have V_w0 := Lib.hid (V_w0.out.later hb)
  have V_g0 := Lib.hid (V_g0.out.later hb)
  clear B12
  have V_t12aSteps := Lib.hid gt
  have ge_t12aSteps := Lib.hid gt.own.ge
  have lt_t12aSteps := Lib.hid gt.lt
  clear gt hb acc
  go_wp2_with fail
  refine (iGivenIn_std hi0 _ (jok_below hJ0 HJ.out B13.out) A_t12aSteps c_t12aSteps L_t12aSteps V_t12aSteps.out.rep).mono ?_
  rintro e w14 ⟨v, rfl, acc⟩
  obtain ⟨A_h0, c_h0, rfl⟩ := acc.shape
  have hb := acc.below
  obtain ⟨L_h0, gt⟩ := acc.got
  have B14 := Lib.hid (B13.out.trans (hb.mono B13.out.size))
  have sz14 := hb.size
  have V_w0 := Lib.hid (V_w0.out.later hb)
  have V_g0 := Lib.hid (V_g0.out.later hb)
  have V_t12aSteps := Lib.hid (V_t12aSteps.out.later hb)
  clear B13
  have V_h0 := Lib.hid gt
  have ge_h0 := Lib.hid gt.own.ge
  have lt_h0 := Lib.hid gt.lt
  clear gt hb acc
  clear V_t12aSteps
  go_wp2_with fail
  refine (eqFactS_any A_h0 A_w0 _ c_h0 c_w0 _ L_h0 L_w0 _ rfl (by omega) (sliceC_out V_h0.out.rep).2.2 (sliceC_out V_w0.out.rep).2.2).mono ?_
  rintro e w15 ⟨rfl, hb⟩
  have B15 := Lib.hid (B14.out.trans (hb.mono B14.out.size))
  have sz15 := hb.size
  have V_w0 := Lib.hid (V_w0.out.later hb)
  have V_g0 := Lib.hid (V_g0.out.later hb)
  have V_h0 := Lib.hid (V_h0.out.later hb)
  clear B14
  clear hb
  go_wp2_with fail
  refine (heldFactS_any A_g0 _ c_g0 R0 L_g0 _ _ rfl (by omega) (by omega) (by omega) (sliceC_out V_g0.out.rep).2.2).mono ?_
  rintro e w16 ⟨rfl, hb⟩
  have B16 := Lib.hid (B15.out.trans (hb.mono B15.out.size))
  have sz16 := hb.size
  have V_w0 := Lib.hid (V_w0.out.later hb)
  have V_g0 := Lib.hid (V_g0.out.later hb)
  have V_h0 := Lib.hid (V_h0.out.later hb)
  clear B15
  clear hb
  have qn16 : ¬ (nextFactS ((1 : Int)) R0 < 0) := by omega
  have qm16 : ((nextFactS ((1 : Int)) R0) != (nextFactS ((1 : Int)) R0)) = false := by simp
  go_wp2_with fail
  go_ret
  exact ⟨rfl, B16.out⟩

end Go.Proofs.YtppjenkjopjeiaaDoor

namespace Go.Proofs.YtppjenkjopjeiaaDoor
open Go.RowKit

set_option maxRecDepth 100000 in
theorem opensFact : Opens Tryd.prog 31 cFact wfFact := by
  intro H enc w base spare held fuel cs x h
  obtain ⟨xs, n, _, _, hlen, hxl, hf⟩ := DataW.trod_struct Tryd.underlying31 h
  have hl : cs.length = 2 := hlen.trans (by kernel_rfl)
  have hx : xs.length = 2 := hxl
  match cs, hl with
  | [a0, a1], _ =>
    have f0 : DataW.trod enc Tryd.prog w base spare held n 9 [a0] = some (xs[0]'(by omega)) := by
      have this : DataW.trod enc Tryd.prog w base spare held n 9 (List.take (Tryd.prog.cellsOf 9) (List.drop 0 [a0, a1])) = _ := (hf 0 _ rfl).trans (List.getElem?_eq_getElem (show 0 < xs.length by omega))
      rw [show Tryd.prog.cellsOf 9 = 1 by kernel_rfl] at this
      exact this
    have f1 : DataW.trod enc Tryd.prog w base spare held n 29 [a1] = some (xs[1]'(by omega)) := by
      have this : DataW.trod enc Tryd.prog w base spare held n 29 (List.take (Tryd.prog.cellsOf 29) (List.drop 1 [a0, a1])) = _ := (hf 1 _ rfl).trans (List.getElem?_eq_getElem (show 1 < xs.length by omega))
      rw [show Tryd.prog.cellsOf 29 = 1 by kernel_rfl] at this
      exact this
    obtain ⟨d0, M0, r0, w0⟩ := (opens_string Tryd.underlying9) f0
    obtain ⟨e0, _, t0⟩ := r0
    cases e0
    obtain ⟨d1, M1, r1, w1⟩ := (opens_slice Tryd.underlying29 (by kernel_rfl) (opens_string Tryd.underlying9)) f1
    obtain ⟨A1, c1, e1, n1, m1, s1⟩ := r1
    cases e1
    exact ⟨⟨d0, d1⟩, _, ⟨A1, c1, M1, rfl, rfl, t0, n1, m1, s1⟩, ⟨w0, w1⟩⟩

set_option maxRecDepth 100000 in
theorem opensStep : Opens Tryd.prog 34 cStep wfStep := by
  intro H enc w base spare held fuel cs x h
  obtain ⟨xs, n, _, _, hlen, hxl, hf⟩ := DataW.trod_struct Tryd.underlying34 h
  have hl : cs.length = 4 := hlen.trans (by kernel_rfl)
  have hx : xs.length = 3 := hxl
  match cs, hl with
  | [a0, a1, a2, a3], _ =>
    have f0 : DataW.trod enc Tryd.prog w base spare held n 31 [a0, a1] = some (xs[0]'(by omega)) := by
      have this : DataW.trod enc Tryd.prog w base spare held n 31 (List.take (Tryd.prog.cellsOf 31) (List.drop 0 [a0, a1, a2, a3])) = _ := (hf 0 _ rfl).trans (List.getElem?_eq_getElem (show 0 < xs.length by omega))
      rw [show Tryd.prog.cellsOf 31 = 2 by kernel_rfl] at this
      exact this
    have f1 : DataW.trod enc Tryd.prog w base spare held n 9 [a2] = some (xs[1]'(by omega)) := by
      have this : DataW.trod enc Tryd.prog w base spare held n 9 (List.take (Tryd.prog.cellsOf 9) (List.drop 2 [a0, a1, a2, a3])) = _ := (hf 1 _ rfl).trans (List.getElem?_eq_getElem (show 1 < xs.length by omega))
      rw [show Tryd.prog.cellsOf 9 = 1 by kernel_rfl] at this
      exact this
    have f2 : DataW.trod enc Tryd.prog w base spare held n 32 [a3] = some (xs[2]'(by omega)) := by
      have this : DataW.trod enc Tryd.prog w base spare held n 32 (List.take (Tryd.prog.cellsOf 32) (List.drop 3 [a0, a1, a2, a3])) = _ := (hf 2 _ rfl).trans (List.getElem?_eq_getElem (show 2 < xs.length by omega))
      rw [show Tryd.prog.cellsOf 32 = 1 by kernel_rfl] at this
      exact this
    obtain ⟨d0, M0, r0, w0⟩ := opensFact f0
    obtain ⟨A1, c1, N1, e0, g0, t0, n1, m1, s1⟩ := r0
    cases e0
    subst g0
    obtain ⟨d1, M1, r1, w1⟩ := (opens_string Tryd.underlying9) f1
    obtain ⟨e1, _, t1⟩ := r1
    cases e1
    obtain ⟨d2, M2, r2, w2⟩ := (opens_slice Tryd.underlying32 (by kernel_rfl) (opens_int Tryd.underlying3)) f2
    obtain ⟨A2, c2, e2, n2, m2, s2⟩ := r2
    cases e2
    exact ⟨⟨d0, d1, d2⟩, _, ⟨A1, c1, M0, A2, c2, M2, rfl, rfl, t0, t1, n1, m1, s1, n2, m2, s2⟩, ⟨w0, w1, w2⟩⟩

end Go.Proofs.YtppjenkjopjeiaaDoor
