/- Texts of this proof, joined: Dp7, Dp8, Dp10, Dp11, BStd, DE, Sz, To, Eq, MText, Mk, Mark, Held, Open, ExactRelevantRules, Opens. What each holds is said at its theorems. -/
import Derived.Test.YtppjenkjopjeiaaRelevantRulesQ3
import Derived.Test.YtppjenkjopjeiaaRelevantRulesQ2
import Derived.Test.YtppjenkjopjeiaaRelevantRulesQ1
import Derived.Test.YtppjenkjopjeiaaProg
import Derived.Outline
import Derived.WalkSpells
import Derived.StillTailTactics
import Derived.WalkLawsBesides
import Derived.Deep.RegionHeld3
import Derived.Deep.Slices
import Derived.ChangeArms
import Derived.ProofKit
set_option linter.unusedSimpArgs false
set_option linter.unusedVariables false
namespace Go.Proofs.Ytppjenkjopjeiaa
open Go.Proofs.Try
set_option linter.unusedSimpArgs false
set_option linter.unusedVariables false
set_option maxRecDepth 1000000
set_option maxHeartbeats 4000000
theorem s_RelDepends_ok {append_0 : (List RuleD)} {String_1 : ByteArray} {a_2 : ByteArray} {r : Bool} (h : s_RelDepends append_0 String_1 a_2 = some r) : Sound Try.prog J0 23 [(false, [.sl 59 4 (List.map eRule append_0)]), (false, [.str String_1]), (false, [.str a_2])] [(false, [(false, .bool r)])] := by
  refine fnk Try.func23 (by kernel_rfl) rfl (by kernel_rfl) (by kernel_rfl) ?_
  unfold s_RelDepends at h
  simp only [fnS, f23, argSt, go_sem, Int.reduceLT, Int.reduceLE, Int.reduceBEq, Int.reduceBNe, Nat.reduceBNe, Nat.reduceAdd, Nat.reduceMul, Nat.reduceEqDiff, Nat.reduceLeDiff, Nat.reduceLT, Nat.reduceBEq, reduceCtorEq, reduceIte]
  refine swp_iter h (fun s st => match s with | (row_55, u_56) => IV [(0, .p false [.c (.sl 59 4 (List.map eRule append_0))]), (2, .p false [.c (.str a_2)]), (7, .p false [.row 0]), (8, .p false [.c (.int .i64 u_56)])] [.row 9 1 (List.map eStr row_55) 2] st) [] [32] (by decide) ?_ ?_
  · simp only [go_sem, Int.reduceLT, Int.reduceLE, Int.reduceBEq, Int.reduceBNe, Nat.reduceBNe, Nat.reduceAdd, Nat.reduceMul, Nat.reduceEqDiff, Nat.reduceLeDiff, Nat.reduceLT, Nat.reduceBEq, reduceCtorEq, reduceIte, IV, sts_cons, sts_nil, obs_cons, obs_nil]
  · rintro ⟨row_55, u_56⟩ ⟨sl, ob, n⟩ y1 hI2 hW3 h hy1
    simp only [IV, sts_cons, sts_nil, obs_cons, obs_nil, and_true, true_and, Nat.reduceAdd, str_len] at hI2
    obtain ⟨⟨g4_0, g4_2, g4_7, g4_8⟩, og4_0, hn⟩ := hI2
    subst hn
    try simp only [go_sem, Int.reduceLT, Int.reduceLE, Int.reduceBEq, Int.reduceBNe, Nat.reduceBNe, Nat.reduceAdd, Nat.reduceMul, Nat.reduceEqDiff, Nat.reduceLeDiff, Nat.reduceLT, Nat.reduceBEq, reduceCtorEq, reduceIte, g4_0, g4_2, g4_7, g4_8, og4_0]
    refine ite_K h (fun c5 h => ?_) (fun c5 h => ?_)
    · try simp only [go_sem, Int.reduceLT, Int.reduceLE, Int.reduceBEq, Int.reduceBNe, Nat.reduceBNe, Nat.reduceAdd, Nat.reduceMul, Nat.reduceEqDiff, Nat.reduceLeDiff, Nat.reduceLT, Nat.reduceBEq, reduceCtorEq, reduceIte, c5, g4_0, g4_2, g4_7, g4_8, og4_0]
      refine swp_for h (fun i row_74 st => IV [(0, .p false [.c (.sl 59 4 (List.map eRule append_0))]), (2, .p false [.c (.str a_2)]), (7, .p false [.row 0]), (8, .p false [.c (.int .i64 u_56)]), (9, .p false [.c (.int .i64 ((i : Nat) : Int))])] [.row 9 1 (List.map eStr row_74) 2] st) [] [0] (by decide) ?_ ?_ ?_
      · simp only [go_sem, Int.reduceLT, Int.reduceLE, Int.reduceBEq, Int.reduceBNe, Nat.reduceBNe, Nat.reduceAdd, Nat.reduceMul, Nat.reduceEqDiff, Nat.reduceLeDiff, Nat.reduceLT, Nat.reduceBEq, reduceCtorEq, reduceIte, IV, sts_cons, sts_nil, obs_cons, obs_nil, c5, g4_0, g4_2, g4_7, g4_8, og4_0]
      · rintro i93 x94 row_74 ⟨sl, ob, n⟩ y6 hx7 hI8 hW9 h hy6
        simp only [IV, sts_cons, sts_nil, obs_cons, obs_nil, and_true, true_and, Nat.reduceAdd, str_len] at hI8
        obtain ⟨⟨g10_0, g10_2, g10_7, g10_8, g10_9⟩, og10_0, hn⟩ := hI8
        subst hn
        have hlhx7 := WF.slotL hW9 g10_0 (j := 0) rfl
        try simp only [go_sem, Int.reduceLT, Int.reduceLE, Int.reduceBEq, Int.reduceBNe, Nat.reduceBNe, Nat.reduceAdd, Nat.reduceMul, Nat.reduceEqDiff, Nat.reduceLeDiff, Nat.reduceLT, Nat.reduceBEq, reduceCtorEq, reduceIte, c5, hx7, lt_t hx7, lt_p hx7, nat_in (lt_n hx7) hlhx7, g10_0, g10_2, g10_7, g10_8, g10_9, og10_0]
        obtain ⟨v95, e11, h⟩ := bind_K h
        refine call_K (by first | exact s_WritesOf_ok e11 | simpa only [go_sem, Int.reduceLT, Int.reduceLE, Int.reduceBEq, Int.reduceBNe, Nat.reduceBNe, Nat.reduceAdd, Nat.reduceMul, Nat.reduceEqDiff, Nat.reduceLeDiff, Nat.reduceLT, Nat.reduceBEq, reduceCtorEq, reduceIte, c5, hx7, lt_t hx7, lt_p hx7, nat_in (lt_n hx7) hlhx7, g10_0, g10_2, g10_7, g10_8, g10_9, og10_0] using s_WritesOf_ok e11) ?_
        obtain ⟨p12, h⟩ := chk_K h
        obtain ⟨x96, e13, h⟩ := bind_K h
        try simp only [go_sem, Int.reduceLT, Int.reduceLE, Int.reduceBEq, Int.reduceBNe, Nat.reduceBNe, Nat.reduceAdd, Nat.reduceMul, Nat.reduceEqDiff, Nat.reduceLeDiff, Nat.reduceLT, Nat.reduceBEq, reduceCtorEq, reduceIte, c5, hx7, lt_t hx7, lt_p hx7, nat_in (lt_n hx7) hlhx7, p12.1, p12.2, e13, g10_0, g10_2, g10_7, g10_8, g10_9, og10_0]
        obtain ⟨v97, e14, h⟩ := bind_K h
        refine call_K (by first | exact s_l1HasText_ok e14 | simpa only [go_sem, Int.reduceLT, Int.reduceLE, Int.reduceBEq, Int.reduceBNe, Nat.reduceBNe, Nat.reduceAdd, Nat.reduceMul, Nat.reduceEqDiff, Nat.reduceLeDiff, Nat.reduceLT, Nat.reduceBEq, reduceCtorEq, reduceIte, c5, hx7, lt_t hx7, lt_p hx7, nat_in (lt_n hx7) hlhx7, p12.1, p12.2, e13, g10_0, g10_2, g10_7, g10_8, g10_9, og10_0] using s_l1HasText_ok e14) ?_
        try simp only [go_sem, Int.reduceLT, Int.reduceLE, Int.reduceBEq, Int.reduceBNe, Nat.reduceBNe, Nat.reduceAdd, Nat.reduceMul, Nat.reduceEqDiff, Nat.reduceLeDiff, Nat.reduceLT, Nat.reduceBEq, reduceCtorEq, reduceIte, c5, hx7, lt_t hx7, lt_p hx7, nat_in (lt_n hx7) hlhx7, p12.1, p12.2, e13, g10_0, g10_2, g10_7, g10_8, g10_9, og10_0]
        refine ite_K h (fun c15 h => ?_) (fun c15 h => ?_)
        · try simp only [go_sem, Int.reduceLT, Int.reduceLE, Int.reduceBEq, Int.reduceBNe, Nat.reduceBNe, Nat.reduceAdd, Nat.reduceMul, Nat.reduceEqDiff, Nat.reduceLeDiff, Nat.reduceLT, Nat.reduceBEq, reduceCtorEq, reduceIte, c5, hx7, lt_t hx7, lt_p hx7, nat_in (lt_n hx7) hlhx7, p12.1, p12.2, e13, c15, g10_0, g10_2, g10_7, g10_8, g10_9, og10_0]
          obtain ⟨v98, e16, h⟩ := bind_K h
          refine call_K (by first | exact s_ReadsOf_ok e16 | simpa only [go_sem, Int.reduceLT, Int.reduceLE, Int.reduceBEq, Int.reduceBNe, Nat.reduceBNe, Nat.reduceAdd, Nat.reduceMul, Nat.reduceEqDiff, Nat.reduceLeDiff, Nat.reduceLT, Nat.reduceBEq, reduceCtorEq, reduceIte, c5, hx7, lt_t hx7, lt_p hx7, nat_in (lt_n hx7) hlhx7, p12.1, p12.2, e13, c15, g10_0, g10_2, g10_7, g10_8, g10_9, og10_0] using s_ReadsOf_ok e16) ?_
          try simp only [go_sem, Int.reduceLT, Int.reduceLE, Int.reduceBEq, Int.reduceBNe, Nat.reduceBNe, Nat.reduceAdd, Nat.reduceMul, Nat.reduceEqDiff, Nat.reduceLeDiff, Nat.reduceLT, Nat.reduceBEq, reduceCtorEq, reduceIte, c5, hx7, lt_t hx7, lt_p hx7, nat_in (lt_n hx7) hlhx7, p12.1, p12.2, e13, c15, g10_0, g10_2, g10_7, g10_8, g10_9, og10_0]
          obtain ⟨v99, e17, h⟩ := bind_K h
          refine call_K (by first | exact s_l1HasText_ok e17 | simpa only [go_sem, Int.reduceLT, Int.reduceLE, Int.reduceBEq, Int.reduceBNe, Nat.reduceBNe, Nat.reduceAdd, Nat.reduceMul, Nat.reduceEqDiff, Nat.reduceLeDiff, Nat.reduceLT, Nat.reduceBEq, reduceCtorEq, reduceIte, c5, hx7, lt_t hx7, lt_p hx7, nat_in (lt_n hx7) hlhx7, p12.1, p12.2, e13, c15, g10_0, g10_2, g10_7, g10_8, g10_9, og10_0] using s_l1HasText_ok e17) ?_
          try simp only [go_sem, Int.reduceLT, Int.reduceLE, Int.reduceBEq, Int.reduceBNe, Nat.reduceBNe, Nat.reduceAdd, Nat.reduceMul, Nat.reduceEqDiff, Nat.reduceLeDiff, Nat.reduceLT, Nat.reduceBEq, reduceCtorEq, reduceIte, c5, hx7, lt_t hx7, lt_p hx7, nat_in (lt_n hx7) hlhx7, p12.1, p12.2, e13, c15, g10_0, g10_2, g10_7, g10_8, g10_9, og10_0]
          refine ite_K h (fun c18 h => ?_) (fun c18 h => ?_)
          · replace h := inr_K h hy6
            replace h := inr_K h hy1
            obtain rfl := Option.some.inj h
            try simp only [go_sem, Int.reduceLT, Int.reduceLE, Int.reduceBEq, Int.reduceBNe, Nat.reduceBNe, Nat.reduceAdd, Nat.reduceMul, Nat.reduceEqDiff, Nat.reduceLeDiff, Nat.reduceLT, Nat.reduceBEq, reduceCtorEq, reduceIte, c5, hx7, lt_t hx7, lt_p hx7, nat_in (lt_n hx7) hlhx7, p12.1, p12.2, e13, c15, c18, g10_0, g10_2, g10_7, g10_8, g10_9, og10_0]
          · try simp only [go_sem, Int.reduceLT, Int.reduceLE, Int.reduceBEq, Int.reduceBNe, Nat.reduceBNe, Nat.reduceAdd, Nat.reduceMul, Nat.reduceEqDiff, Nat.reduceLeDiff, Nat.reduceLT, Nat.reduceBEq, reduceCtorEq, reduceIte, c5, hx7, lt_t hx7, lt_p hx7, nat_in (lt_n hx7) hlhx7, p12.1, p12.2, e13, c15, c18, g10_0, g10_2, g10_7, g10_8, g10_9, og10_0]
            refine swp_for h (fun i row_105 st => IV [(0, .p false [.c (.sl 59 4 (List.map eRule append_0))]), (2, .p false [.c (.str a_2)]), (7, .p false [.row 0]), (8, .p false [.c (.int .i64 u_56)]), (9, .p false [.c (.int .i64 ((i93 : Nat) : Int))]), (10, .p false [.row 1]), (11, .p false [.c (.int .i64 ((i : Nat) : Int))])] [.row 9 1 (List.map eStr row_105) 2, .row 9 1 (List.map eStr v98) 2] st) [] [0, 305] (by decide) ?_ ?_ ?_
            · simp only [go_sem, Int.reduceLT, Int.reduceLE, Int.reduceBEq, Int.reduceBNe, Nat.reduceBNe, Nat.reduceAdd, Nat.reduceMul, Nat.reduceEqDiff, Nat.reduceLeDiff, Nat.reduceLT, Nat.reduceBEq, reduceCtorEq, reduceIte, IV, sts_cons, sts_nil, obs_cons, obs_nil, c5, hx7, lt_t hx7, lt_p hx7, nat_in (lt_n hx7) hlhx7, p12.1, p12.2, e13, c15, c18, g10_0, g10_2, g10_7, g10_8, g10_9, og10_0]
            · rintro i108 x109 row_105 ⟨sl, ob, n⟩ y19 hx20 hI21 hW22 h hy19
              simp only [IV, sts_cons, sts_nil, obs_cons, obs_nil, and_true, true_and, Nat.reduceAdd, str_len] at hI21
              obtain ⟨⟨g23_0, g23_2, g23_7, g23_8, g23_9, g23_10, g23_11⟩, og23_0, og23_1, hn⟩ := hI21
              subst hn
              have hlhx20 := WF.rowL hW22 og23_1
              try simp only [go_sem, Int.reduceLT, Int.reduceLE, Int.reduceBEq, Int.reduceBNe, Nat.reduceBNe, Nat.reduceAdd, Nat.reduceMul, Nat.reduceEqDiff, Nat.reduceLeDiff, Nat.reduceLT, Nat.reduceBEq, reduceCtorEq, reduceIte, c5, hx7, lt_t hx7, lt_p hx7, nat_in (lt_n hx7) hlhx7, p12.1, p12.2, e13, c15, c18, hx20, lt_t hx20, lt_p hx20, nat_in (lt_n hx20) hlhx20, g23_0, g23_2, g23_7, g23_8, g23_9, g23_10, g23_11, og23_0, og23_1]
              obtain ⟨v110, e24, h⟩ := bind_K h
              refine call_K (by first | exact s_l1HasText_ok e24 | simpa only [go_sem, Int.reduceLT, Int.reduceLE, Int.reduceBEq, Int.reduceBNe, Nat.reduceBNe, Nat.reduceAdd, Nat.reduceMul, Nat.reduceEqDiff, Nat.reduceLeDiff, Nat.reduceLT, Nat.reduceBEq, reduceCtorEq, reduceIte, c5, hx7, lt_t hx7, lt_p hx7, nat_in (lt_n hx7) hlhx7, p12.1, p12.2, e13, c15, c18, hx20, lt_t hx20, lt_p hx20, nat_in (lt_n hx20) hlhx20, g23_0, g23_2, g23_7, g23_8, g23_9, g23_10, g23_11, og23_0, og23_1] using s_l1HasText_ok e24) ?_
              try simp only [go_sem, Int.reduceLT, Int.reduceLE, Int.reduceBEq, Int.reduceBNe, Nat.reduceBNe, Nat.reduceAdd, Nat.reduceMul, Nat.reduceEqDiff, Nat.reduceLeDiff, Nat.reduceLT, Nat.reduceBEq, reduceCtorEq, reduceIte, c5, hx7, lt_t hx7, lt_p hx7, nat_in (lt_n hx7) hlhx7, p12.1, p12.2, e13, c15, c18, hx20, lt_t hx20, lt_p hx20, nat_in (lt_n hx20) hlhx20, g23_0, g23_2, g23_7, g23_8, g23_9, g23_10, g23_11, og23_0, og23_1]
              refine ite_K h (fun c25 h => ?_) (fun c25 h => ?_)
              · try simp only [go_sem, Int.reduceLT, Int.reduceLE, Int.reduceBEq, Int.reduceBNe, Nat.reduceBNe, Nat.reduceAdd, Nat.reduceMul, Nat.reduceEqDiff, Nat.reduceLeDiff, Nat.reduceLT, Nat.reduceBEq, reduceCtorEq, reduceIte, c5, hx7, lt_t hx7, lt_p hx7, nat_in (lt_n hx7) hlhx7, p12.1, p12.2, e13, c15, c18, hx20, lt_t hx20, lt_p hx20, nat_in (lt_n hx20) hlhx20, c25, g23_0, g23_2, g23_7, g23_8, g23_9, g23_10, g23_11, og23_0, og23_1]
                refine ⟨_, [], [0, 1], (Option.some.inj h).symm, by decide, ?_⟩
                try simp only [go_sem, Int.reduceLT, Int.reduceLE, Int.reduceBEq, Int.reduceBNe, Nat.reduceBNe, Nat.reduceAdd, Nat.reduceMul, Nat.reduceEqDiff, Nat.reduceLeDiff, Nat.reduceLT, Nat.reduceBEq, reduceCtorEq, reduceIte, c5, hx7, lt_t hx7, lt_p hx7, nat_in (lt_n hx7) hlhx7, p12.1, p12.2, e13, c15, c18, hx20, lt_t hx20, lt_p hx20, nat_in (lt_n hx20) hlhx20, c25, g23_0, g23_2, g23_7, g23_8, g23_9, g23_10, g23_11, og23_0, og23_1, IV, sts_cons, sts_nil, obs_cons, obs_nil]
              · obtain ⟨p26, h⟩ := chk_K h
                try simp only [Nat.reduceLeDiff] at p26
                try simp only [go_sem, Int.reduceLT, Int.reduceLE, Int.reduceBEq, Int.reduceBNe, Nat.reduceBNe, Nat.reduceAdd, Nat.reduceMul, Nat.reduceEqDiff, Nat.reduceLeDiff, Nat.reduceLT, Nat.reduceBEq, reduceCtorEq, reduceIte, c5, hx7, lt_t hx7, lt_p hx7, nat_in (lt_n hx7) hlhx7, p12.1, p12.2, e13, c15, c18, hx20, lt_t hx20, lt_p hx20, nat_in (lt_n hx20) hlhx20, c25, p26, g23_0, g23_2, g23_7, g23_8, g23_9, g23_10, g23_11, og23_0, og23_1]
                refine ⟨_, [], [274, 1], (Option.some.inj h).symm, by decide, ?_⟩
                try simp only [go_sem, Int.reduceLT, Int.reduceLE, Int.reduceBEq, Int.reduceBNe, Nat.reduceBNe, Nat.reduceAdd, Nat.reduceMul, Nat.reduceEqDiff, Nat.reduceLeDiff, Nat.reduceLT, Nat.reduceBEq, reduceCtorEq, reduceIte, c5, hx7, lt_t hx7, lt_p hx7, nat_in (lt_n hx7) hlhx7, p12.1, p12.2, e13, c15, c18, hx20, lt_t hx20, lt_p hx20, nat_in (lt_n hx20) hlhx20, c25, p26, g23_0, g23_2, g23_7, g23_8, g23_9, g23_10, g23_11, og23_0, og23_1, IV, sts_cons, sts_nil, obs_cons, obs_nil]
            · rintro row_105 ⟨sl, ob, n⟩ hI27 hW28 h
              simp only [IV, sts_cons, sts_nil, obs_cons, obs_nil, and_true, true_and, Nat.reduceAdd, str_len] at hI27
              obtain ⟨⟨g29_0, g29_2, g29_7, g29_8, g29_9, g29_10, g29_11⟩, og29_0, og29_1, hn⟩ := hI27
              subst hn
              try simp only [go_sem, Int.reduceLT, Int.reduceLE, Int.reduceBEq, Int.reduceBNe, Nat.reduceBNe, Nat.reduceAdd, Nat.reduceMul, Nat.reduceEqDiff, Nat.reduceLeDiff, Nat.reduceLT, Nat.reduceBEq, reduceCtorEq, reduceIte, c5, hx7, lt_t hx7, lt_p hx7, nat_in (lt_n hx7) hlhx7, p12.1, p12.2, e13, c15, c18, lt_f (v98.length), g29_0, g29_2, g29_7, g29_8, g29_9, g29_10, g29_11, og29_0, og29_1]
              refine ⟨_, [], [0], (Option.some.inj h).symm, by decide, ?_⟩
              try simp only [go_sem, Int.reduceLT, Int.reduceLE, Int.reduceBEq, Int.reduceBNe, Nat.reduceBNe, Nat.reduceAdd, Nat.reduceMul, Nat.reduceEqDiff, Nat.reduceLeDiff, Nat.reduceLT, Nat.reduceBEq, reduceCtorEq, reduceIte, c5, hx7, lt_t hx7, lt_p hx7, nat_in (lt_n hx7) hlhx7, p12.1, p12.2, e13, c15, c18, lt_f (v98.length), g29_0, g29_2, g29_7, g29_8, g29_9, g29_10, g29_11, og29_0, og29_1, IV, sts_cons, sts_nil, obs_cons, obs_nil]
        · try simp only [go_sem, Int.reduceLT, Int.reduceLE, Int.reduceBEq, Int.reduceBNe, Nat.reduceBNe, Nat.reduceAdd, Nat.reduceMul, Nat.reduceEqDiff, Nat.reduceLeDiff, Nat.reduceLT, Nat.reduceBEq, reduceCtorEq, reduceIte, c5, hx7, lt_t hx7, lt_p hx7, nat_in (lt_n hx7) hlhx7, p12.1, p12.2, e13, c15, g10_0, g10_2, g10_7, g10_8, g10_9, og10_0]
          refine ⟨_, [], [0], (Option.some.inj h).symm, by decide, ?_⟩
          try simp only [go_sem, Int.reduceLT, Int.reduceLE, Int.reduceBEq, Int.reduceBNe, Nat.reduceBNe, Nat.reduceAdd, Nat.reduceMul, Nat.reduceEqDiff, Nat.reduceLeDiff, Nat.reduceLT, Nat.reduceBEq, reduceCtorEq, reduceIte, c5, hx7, lt_t hx7, lt_p hx7, nat_in (lt_n hx7) hlhx7, p12.1, p12.2, e13, c15, g10_0, g10_2, g10_7, g10_8, g10_9, og10_0, IV, sts_cons, sts_nil, obs_cons, obs_nil]
      · rintro row_74 ⟨sl, ob, n⟩ hI30 hW31 h
        simp only [IV, sts_cons, sts_nil, obs_cons, obs_nil, and_true, true_and, Nat.reduceAdd, str_len] at hI30
        obtain ⟨⟨g32_0, g32_2, g32_7, g32_8, g32_9⟩, og32_0, hn⟩ := hI30
        subst hn
        try simp only [go_sem, Int.reduceLT, Int.reduceLE, Int.reduceBEq, Int.reduceBNe, Nat.reduceBNe, Nat.reduceAdd, Nat.reduceMul, Nat.reduceEqDiff, Nat.reduceLeDiff, Nat.reduceLT, Nat.reduceBEq, reduceCtorEq, reduceIte, c5, lt_f (append_0.length), g32_0, g32_2, g32_7, g32_8, g32_9, og32_0]
        refine ⟨_, [], [0], (Option.some.inj h).symm, by decide, ?_⟩
        try simp only [go_sem, Int.reduceLT, Int.reduceLE, Int.reduceBEq, Int.reduceBNe, Nat.reduceBNe, Nat.reduceAdd, Nat.reduceMul, Nat.reduceEqDiff, Nat.reduceLeDiff, Nat.reduceLT, Nat.reduceBEq, reduceCtorEq, reduceIte, c5, lt_f (append_0.length), g32_0, g32_2, g32_7, g32_8, g32_9, og32_0, IV, sts_cons, sts_nil, obs_cons, obs_nil]
    · replace h := inr_K h hy1
      obtain rfl := Option.some.inj h
      try simp only [go_sem, Int.reduceLT, Int.reduceLE, Int.reduceBEq, Int.reduceBNe, Nat.reduceBNe, Nat.reduceAdd, Nat.reduceMul, Nat.reduceEqDiff, Nat.reduceLeDiff, Nat.reduceLT, Nat.reduceBEq, reduceCtorEq, reduceIte, c5, g4_0, g4_2, g4_7, g4_8, og4_0]
theorem s_l4Copy_ok {x_0 : CondD} {r : CondD} (h : s_l4Copy x_0 = some r) : Sound Try.prog J0 58 [(true, eCond x_0)] [(true, [(false, .int .i64 r.kind), (false, .str r.pattern.rel), (false, .sl 9 1 (List.map eStr r.pattern.args)), (false, .str r.left), (false, .str r.right)])] := by
  refine fnk Try.func58 (by kernel_rfl) rfl (by kernel_rfl) (by kernel_rfl) ?_
  unfold s_l4Copy at h
  simp only [fnS, f58, argSt, go_sem, Int.reduceLT, Int.reduceLE, Int.reduceBEq, Int.reduceBNe, Nat.reduceBNe, Nat.reduceAdd, Nat.reduceMul, Nat.reduceEqDiff, Nat.reduceLeDiff, Nat.reduceLT, Nat.reduceBEq, reduceCtorEq, reduceIte]
  obtain ⟨v1, e1, h⟩ := bind_K h
  refine call_K (by first | exact s_RenameCond_ok e1 | simpa only [go_sem, Int.reduceLT, Int.reduceLE, Int.reduceBEq, Int.reduceBNe, Nat.reduceBNe, Nat.reduceAdd, Nat.reduceMul, Nat.reduceEqDiff, Nat.reduceLeDiff, Nat.reduceLT, Nat.reduceBEq, reduceCtorEq, reduceIte] using s_RenameCond_ok e1) ?_
  obtain rfl := Option.some.inj h
  try simp only [go_sem, Int.reduceLT, Int.reduceLE, Int.reduceBEq, Int.reduceBNe, Nat.reduceBNe, Nat.reduceAdd, Nat.reduceMul, Nat.reduceEqDiff, Nat.reduceLeDiff, Nat.reduceLT, Nat.reduceBEq, reduceCtorEq, reduceIte]
theorem i_relReach_ok {rules_0 : (List RuleD)} {a_1 : ByteArray} {r : (List (ByteArray × Bool))} (h : i_relReach rules_0 a_1 = some r) : SoundB Try.prog J0 26 [(false, [.sl 59 4 (List.map eRule rules_0)]), (false, [.str a_1])] (.map .str .bool (List.map eSB r)) := by
  refine fnb Try.func26 (by kernel_rfl) rfl (by kernel_rfl) (by kernel_rfl) ?_
  unfold i_relReach at h
  simp only [fnB, f26, argSt, go_sem, Int.reduceLT, Int.reduceLE, Int.reduceBEq, Int.reduceBNe, Nat.reduceBNe, Nat.reduceAdd, Nat.reduceMul, Nat.reduceEqDiff, Nat.reduceLeDiff, Nat.reduceLT, Nat.reduceBEq, reduceCtorEq, reduceIte]
  refine swp_iter h (fun s st => match s with | (mp_42, row_43) => IV [(0, .p false [.c (.sl 59 4 (List.map eRule rules_0))]), (5, .p false [.row 0]), (6, .p false [.row 1])] [.map .str .bool (List.map eSB mp_42), .row 9 1 (List.map eStr row_43) 2] st) [] [16, 64] (by decide) ?_ ?_
  · simp only [go_sem, Int.reduceLT, Int.reduceLE, Int.reduceBEq, Int.reduceBNe, Nat.reduceBNe, Nat.reduceAdd, Nat.reduceMul, Nat.reduceEqDiff, Nat.reduceLeDiff, Nat.reduceLT, Nat.reduceBEq, reduceCtorEq, reduceIte, IV, sts_cons, sts_nil, obs_cons, obs_nil]
  · rintro ⟨mp_42, row_43⟩ ⟨sl, ob, n⟩ y1 hI2 hW3 h hy1
    simp only [IV, sts_cons, sts_nil, obs_cons, obs_nil, and_true, true_and, Nat.reduceAdd, str_len] at hI2
    obtain ⟨⟨g4_0, g4_5, g4_6⟩, og4_0, og4_1, hn⟩ := hI2
    subst hn
    try simp only [go_sem, Int.reduceLT, Int.reduceLE, Int.reduceBEq, Int.reduceBNe, Nat.reduceBNe, Nat.reduceAdd, Nat.reduceMul, Nat.reduceEqDiff, Nat.reduceLeDiff, Nat.reduceLT, Nat.reduceBEq, reduceCtorEq, reduceIte, g4_0, g4_5, g4_6, og4_0, og4_1]
    refine ite_K h (fun c5 h => ?_) (fun c5 h => ?_)
    · obtain ⟨p6, h⟩ := chk_K h
      obtain ⟨x44, e7, h⟩ := bind_K h
      obtain ⟨p8, h⟩ := chk_K h
      try simp only [go_sem, Int.reduceLT, Int.reduceLE, Int.reduceBEq, Int.reduceBNe, Nat.reduceBNe, Nat.reduceAdd, Nat.reduceMul, Nat.reduceEqDiff, Nat.reduceLeDiff, Nat.reduceLT, Nat.reduceBEq, reduceCtorEq, reduceIte, c5, p6.1, p6.2, e7, p8.1, p8.2, g4_0, g4_5, g4_6, og4_0, og4_1]
      refine swp_for h (fun i s st => match s with | (mp_57, row_58) => IV [(0, .p false [.c (.sl 59 4 (List.map eRule rules_0))]), (5, .p false [.row 0]), (6, .p false [.row 1]), (7, .p false [.c (.str x44)]), (23, .p false [.c (.sl 59 4 (List.map eRule rules_0))]), (24, .p false [.c (.int .i64 ((rules_0.length : Nat) : Int))]), (25, .p false [.c (.int .i64 ((i : Nat) : Int))])] [.map .str .bool (List.map eSB mp_57), .row 9 1 (List.map eStr row_58) 2] st) [] [0, 130] (by decide) ?_ ?_ ?_
      · simp only [go_sem, Int.reduceLT, Int.reduceLE, Int.reduceBEq, Int.reduceBNe, Nat.reduceBNe, Nat.reduceAdd, Nat.reduceMul, Nat.reduceEqDiff, Nat.reduceLeDiff, Nat.reduceLT, Nat.reduceBEq, reduceCtorEq, reduceIte, IV, sts_cons, sts_nil, obs_cons, obs_nil, c5, p6.1, p6.2, e7, p8.1, p8.2, g4_0, g4_5, g4_6, og4_0, og4_1]
      · rintro i72 x73 ⟨mp_57, row_58⟩ ⟨sl, ob, n⟩ y9 hx10 hI11 hW12 h hy9
        simp only [IV, sts_cons, sts_nil, obs_cons, obs_nil, and_true, true_and, Nat.reduceAdd, str_len] at hI11
        obtain ⟨⟨g13_0, g13_5, g13_6, g13_7, g13_23, g13_24, g13_25⟩, og13_0, og13_1, hn⟩ := hI11
        subst hn
        have hlhx10 := WF.slotL hW12 g13_0 (j := 0) rfl
        try simp only [go_sem, Int.reduceLT, Int.reduceLE, Int.reduceBEq, Int.reduceBNe, Nat.reduceBNe, Nat.reduceAdd, Nat.reduceMul, Nat.reduceEqDiff, Nat.reduceLeDiff, Nat.reduceLT, Nat.reduceBEq, reduceCtorEq, reduceIte, c5, p6.1, p6.2, e7, p8.1, p8.2, hx10, lt_t hx10, lt_p hx10, nat_in (lt_n hx10) hlhx10, g13_0, g13_5, g13_6, g13_7, g13_23, g13_24, g13_25, og13_0, og13_1]
        obtain ⟨v74, e14, h⟩ := bind_K h
        refine call_K (by first | exact i_WritesOf_ok e14 | simpa only [go_sem, Int.reduceLT, Int.reduceLE, Int.reduceBEq, Int.reduceBNe, Nat.reduceBNe, Nat.reduceAdd, Nat.reduceMul, Nat.reduceEqDiff, Nat.reduceLeDiff, Nat.reduceLT, Nat.reduceBEq, reduceCtorEq, reduceIte, c5, p6.1, p6.2, e7, p8.1, p8.2, hx10, lt_t hx10, lt_p hx10, nat_in (lt_n hx10) hlhx10, g13_0, g13_5, g13_6, g13_7, g13_23, g13_24, g13_25, og13_0, og13_1] using i_WritesOf_ok e14) ?_
        try simp only [go_sem, Int.reduceLT, Int.reduceLE, Int.reduceBEq, Int.reduceBNe, Nat.reduceBNe, Nat.reduceAdd, Nat.reduceMul, Nat.reduceEqDiff, Nat.reduceLeDiff, Nat.reduceLT, Nat.reduceBEq, reduceCtorEq, reduceIte, c5, p6.1, p6.2, e7, p8.1, p8.2, hx10, lt_t hx10, lt_p hx10, nat_in (lt_n hx10) hlhx10, g13_0, g13_5, g13_6, g13_7, g13_23, g13_24, g13_25, og13_0, og13_1]
        obtain ⟨v75, e15, h⟩ := bind_K h
        refine call_K (by first | exact i_hasText_ok e15 | simpa only [go_sem, Int.reduceLT, Int.reduceLE, Int.reduceBEq, Int.reduceBNe, Nat.reduceBNe, Nat.reduceAdd, Nat.reduceMul, Nat.reduceEqDiff, Nat.reduceLeDiff, Nat.reduceLT, Nat.reduceBEq, reduceCtorEq, reduceIte, c5, p6.1, p6.2, e7, p8.1, p8.2, hx10, lt_t hx10, lt_p hx10, nat_in (lt_n hx10) hlhx10, g13_0, g13_5, g13_6, g13_7, g13_23, g13_24, g13_25, og13_0, og13_1] using i_hasText_ok e15) ?_
        try simp only [go_sem, Int.reduceLT, Int.reduceLE, Int.reduceBEq, Int.reduceBNe, Nat.reduceBNe, Nat.reduceAdd, Nat.reduceMul, Nat.reduceEqDiff, Nat.reduceLeDiff, Nat.reduceLT, Nat.reduceBEq, reduceCtorEq, reduceIte, c5, p6.1, p6.2, e7, p8.1, p8.2, hx10, lt_t hx10, lt_p hx10, nat_in (lt_n hx10) hlhx10, g13_0, g13_5, g13_6, g13_7, g13_23, g13_24, g13_25, og13_0, og13_1]
        refine ite_K h (fun c16 h => ?_) (fun c16 h => ?_)
        · try simp only [go_sem, Int.reduceLT, Int.reduceLE, Int.reduceBEq, Int.reduceBNe, Nat.reduceBNe, Nat.reduceAdd, Nat.reduceMul, Nat.reduceEqDiff, Nat.reduceLeDiff, Nat.reduceLT, Nat.reduceBEq, reduceCtorEq, reduceIte, c5, p6.1, p6.2, e7, p8.1, p8.2, hx10, lt_t hx10, lt_p hx10, nat_in (lt_n hx10) hlhx10, c16, g13_0, g13_5, g13_6, g13_7, g13_23, g13_24, g13_25, og13_0, og13_1]
          obtain ⟨v76, e17, h⟩ := bind_K h
          refine call_K (by first | exact i_ReadsOf_ok e17 | simpa only [go_sem, Int.reduceLT, Int.reduceLE, Int.reduceBEq, Int.reduceBNe, Nat.reduceBNe, Nat.reduceAdd, Nat.reduceMul, Nat.reduceEqDiff, Nat.reduceLeDiff, Nat.reduceLT, Nat.reduceBEq, reduceCtorEq, reduceIte, c5, p6.1, p6.2, e7, p8.1, p8.2, hx10, lt_t hx10, lt_p hx10, nat_in (lt_n hx10) hlhx10, c16, g13_0, g13_5, g13_6, g13_7, g13_23, g13_24, g13_25, og13_0, og13_1] using i_ReadsOf_ok e17) ?_
          try simp only [go_sem, Int.reduceLT, Int.reduceLE, Int.reduceBEq, Int.reduceBNe, Nat.reduceBNe, Nat.reduceAdd, Nat.reduceMul, Nat.reduceEqDiff, Nat.reduceLeDiff, Nat.reduceLT, Nat.reduceBEq, reduceCtorEq, reduceIte, c5, p6.1, p6.2, e7, p8.1, p8.2, hx10, lt_t hx10, lt_p hx10, nat_in (lt_n hx10) hlhx10, c16, g13_0, g13_5, g13_6, g13_7, g13_23, g13_24, g13_25, og13_0, og13_1]
          refine swp_for h (fun i s st => match s with | (mp_80, row_81) => IV [(0, .p false [.c (.sl 59 4 (List.map eRule rules_0))]), (5, .p false [.row 0]), (6, .p false [.row 1]), (7, .p false [.c (.str x44)]), (23, .p false [.c (.sl 59 4 (List.map eRule rules_0))]), (24, .p false [.c (.int .i64 ((rules_0.length : Nat) : Int))]), (25, .p false [.c (.int .i64 ((i72 : Nat) : Int))]), (35, .p false [.row 2]), (36, .p false [.c (.int .i64 ((v76.length : Nat) : Int))]), (37, .p false [.c (.int .i64 ((i : Nat) : Int))])] [.map .str .bool (List.map eSB mp_80), .row 9 1 (List.map eStr row_81) 2, .row 9 1 (List.map eStr v76) 2] st) [] [0, 1, 178] (by decide) ?_ ?_ ?_
          · simp only [go_sem, Int.reduceLT, Int.reduceLE, Int.reduceBEq, Int.reduceBNe, Nat.reduceBNe, Nat.reduceAdd, Nat.reduceMul, Nat.reduceEqDiff, Nat.reduceLeDiff, Nat.reduceLT, Nat.reduceBEq, reduceCtorEq, reduceIte, IV, sts_cons, sts_nil, obs_cons, obs_nil, c5, p6.1, p6.2, e7, p8.1, p8.2, hx10, lt_t hx10, lt_p hx10, nat_in (lt_n hx10) hlhx10, c16, g13_0, g13_5, g13_6, g13_7, g13_23, g13_24, g13_25, og13_0, og13_1]
          · rintro i83 x84 ⟨mp_80, row_81⟩ ⟨sl, ob, n⟩ y18 hx19 hI20 hW21 h hy18
            simp only [IV, sts_cons, sts_nil, obs_cons, obs_nil, and_true, true_and, Nat.reduceAdd, str_len] at hI20
            obtain ⟨⟨g22_0, g22_5, g22_6, g22_7, g22_23, g22_24, g22_25, g22_35, g22_36, g22_37⟩, og22_0, og22_1, og22_2, hn⟩ := hI20
            subst hn
            have hlhx19 := WF.rowL hW21 og22_2
            try simp only [go_sem, Int.reduceLT, Int.reduceLE, Int.reduceBEq, Int.reduceBNe, Nat.reduceBNe, Nat.reduceAdd, Nat.reduceMul, Nat.reduceEqDiff, Nat.reduceLeDiff, Nat.reduceLT, Nat.reduceBEq, reduceCtorEq, reduceIte, c5, p6.1, p6.2, e7, p8.1, p8.2, hx10, lt_t hx10, lt_p hx10, nat_in (lt_n hx10) hlhx10, c16, hx19, lt_t hx19, lt_p hx19, nat_in (lt_n hx19) hlhx19, g22_0, g22_5, g22_6, g22_7, g22_23, g22_24, g22_25, g22_35, g22_36, g22_37, og22_0, og22_1, og22_2]
            refine ite_K h (fun c23 h => ?_) (fun c23 h => ?_)
            · try simp only [go_sem, Int.reduceLT, Int.reduceLE, Int.reduceBEq, Int.reduceBNe, Nat.reduceBNe, Nat.reduceAdd, Nat.reduceMul, Nat.reduceEqDiff, Nat.reduceLeDiff, Nat.reduceLT, Nat.reduceBEq, reduceCtorEq, reduceIte, c5, p6.1, p6.2, e7, p8.1, p8.2, hx10, lt_t hx10, lt_p hx10, nat_in (lt_n hx10) hlhx10, c16, hx19, lt_t hx19, lt_p hx19, nat_in (lt_n hx19) hlhx19, c23, g22_0, g22_5, g22_6, g22_7, g22_23, g22_24, g22_25, g22_35, g22_36, g22_37, og22_0, og22_1, og22_2]
              refine ⟨_, [], [0, 1, 2], (Option.some.inj h).symm, by decide, ?_⟩
              try simp only [go_sem, Int.reduceLT, Int.reduceLE, Int.reduceBEq, Int.reduceBNe, Nat.reduceBNe, Nat.reduceAdd, Nat.reduceMul, Nat.reduceEqDiff, Nat.reduceLeDiff, Nat.reduceLT, Nat.reduceBEq, reduceCtorEq, reduceIte, c5, p6.1, p6.2, e7, p8.1, p8.2, hx10, lt_t hx10, lt_p hx10, nat_in (lt_n hx10) hlhx10, c16, hx19, lt_t hx19, lt_p hx19, nat_in (lt_n hx19) hlhx19, c23, g22_0, g22_5, g22_6, g22_7, g22_23, g22_24, g22_25, g22_35, g22_36, g22_37, og22_0, og22_1, og22_2, IV, sts_cons, sts_nil, obs_cons, obs_nil]
            · obtain ⟨p24, h⟩ := chk_K h
              try simp only [Nat.reduceLeDiff] at p24
              try simp only [go_sem, Int.reduceLT, Int.reduceLE, Int.reduceBEq, Int.reduceBNe, Nat.reduceBNe, Nat.reduceAdd, Nat.reduceMul, Nat.reduceEqDiff, Nat.reduceLeDiff, Nat.reduceLT, Nat.reduceBEq, reduceCtorEq, reduceIte, c5, p6.1, p6.2, e7, p8.1, p8.2, hx10, lt_t hx10, lt_p hx10, nat_in (lt_n hx10) hlhx10, c16, hx19, lt_t hx19, lt_p hx19, nat_in (lt_n hx19) hlhx19, c23, p24, g22_0, g22_5, g22_6, g22_7, g22_23, g22_24, g22_25, g22_35, g22_36, g22_37, og22_0, og22_1, og22_2]
              refine ⟨_, [], [0, 227, 2], (Option.some.inj h).symm, by decide, ?_⟩
              try simp only [go_sem, Int.reduceLT, Int.reduceLE, Int.reduceBEq, Int.reduceBNe, Nat.reduceBNe, Nat.reduceAdd, Nat.reduceMul, Nat.reduceEqDiff, Nat.reduceLeDiff, Nat.reduceLT, Nat.reduceBEq, reduceCtorEq, reduceIte, c5, p6.1, p6.2, e7, p8.1, p8.2, hx10, lt_t hx10, lt_p hx10, nat_in (lt_n hx10) hlhx10, c16, hx19, lt_t hx19, lt_p hx19, nat_in (lt_n hx19) hlhx19, c23, p24, g22_0, g22_5, g22_6, g22_7, g22_23, g22_24, g22_25, g22_35, g22_36, g22_37, og22_0, og22_1, og22_2, IV, sts_cons, sts_nil, obs_cons, obs_nil]
          · rintro ⟨mp_80, row_81⟩ ⟨sl, ob, n⟩ hI25 hW26 h
            simp only [IV, sts_cons, sts_nil, obs_cons, obs_nil, and_true, true_and, Nat.reduceAdd, str_len] at hI25
            obtain ⟨⟨g27_0, g27_5, g27_6, g27_7, g27_23, g27_24, g27_25, g27_35, g27_36, g27_37⟩, og27_0, og27_1, og27_2, hn⟩ := hI25
            subst hn
            try simp only [go_sem, Int.reduceLT, Int.reduceLE, Int.reduceBEq, Int.reduceBNe, Nat.reduceBNe, Nat.reduceAdd, Nat.reduceMul, Nat.reduceEqDiff, Nat.reduceLeDiff, Nat.reduceLT, Nat.reduceBEq, reduceCtorEq, reduceIte, c5, p6.1, p6.2, e7, p8.1, p8.2, hx10, lt_t hx10, lt_p hx10, nat_in (lt_n hx10) hlhx10, c16, lt_f (v76.length), g27_0, g27_5, g27_6, g27_7, g27_23, g27_24, g27_25, g27_35, g27_36, g27_37, og27_0, og27_1, og27_2]
            refine ⟨_, [], [0, 1], (Option.some.inj h).symm, by decide, ?_⟩
            try simp only [go_sem, Int.reduceLT, Int.reduceLE, Int.reduceBEq, Int.reduceBNe, Nat.reduceBNe, Nat.reduceAdd, Nat.reduceMul, Nat.reduceEqDiff, Nat.reduceLeDiff, Nat.reduceLT, Nat.reduceBEq, reduceCtorEq, reduceIte, c5, p6.1, p6.2, e7, p8.1, p8.2, hx10, lt_t hx10, lt_p hx10, nat_in (lt_n hx10) hlhx10, c16, lt_f (v76.length), g27_0, g27_5, g27_6, g27_7, g27_23, g27_24, g27_25, g27_35, g27_36, g27_37, og27_0, og27_1, og27_2, IV, sts_cons, sts_nil, obs_cons, obs_nil]
        · try simp only [go_sem, Int.reduceLT, Int.reduceLE, Int.reduceBEq, Int.reduceBNe, Nat.reduceBNe, Nat.reduceAdd, Nat.reduceMul, Nat.reduceEqDiff, Nat.reduceLeDiff, Nat.reduceLT, Nat.reduceBEq, reduceCtorEq, reduceIte, c5, p6.1, p6.2, e7, p8.1, p8.2, hx10, lt_t hx10, lt_p hx10, nat_in (lt_n hx10) hlhx10, c16, g13_0, g13_5, g13_6, g13_7, g13_23, g13_24, g13_25, og13_0, og13_1]
          refine ⟨_, [], [0, 1], (Option.some.inj h).symm, by decide, ?_⟩
          try simp only [go_sem, Int.reduceLT, Int.reduceLE, Int.reduceBEq, Int.reduceBNe, Nat.reduceBNe, Nat.reduceAdd, Nat.reduceMul, Nat.reduceEqDiff, Nat.reduceLeDiff, Nat.reduceLT, Nat.reduceBEq, reduceCtorEq, reduceIte, c5, p6.1, p6.2, e7, p8.1, p8.2, hx10, lt_t hx10, lt_p hx10, nat_in (lt_n hx10) hlhx10, c16, g13_0, g13_5, g13_6, g13_7, g13_23, g13_24, g13_25, og13_0, og13_1, IV, sts_cons, sts_nil, obs_cons, obs_nil]
      · rintro ⟨mp_57, row_58⟩ ⟨sl, ob, n⟩ hI28 hW29 h
        simp only [IV, sts_cons, sts_nil, obs_cons, obs_nil, and_true, true_and, Nat.reduceAdd, str_len] at hI28
        obtain ⟨⟨g30_0, g30_5, g30_6, g30_7, g30_23, g30_24, g30_25⟩, og30_0, og30_1, hn⟩ := hI28
        subst hn
        try simp only [go_sem, Int.reduceLT, Int.reduceLE, Int.reduceBEq, Int.reduceBNe, Nat.reduceBNe, Nat.reduceAdd, Nat.reduceMul, Nat.reduceEqDiff, Nat.reduceLeDiff, Nat.reduceLT, Nat.reduceBEq, reduceCtorEq, reduceIte, c5, p6.1, p6.2, e7, p8.1, p8.2, lt_f (rules_0.length), g30_0, g30_5, g30_6, g30_7, g30_23, g30_24, g30_25, og30_0, og30_1]
        refine ⟨_, [], [0, 1], (Option.some.inj h).symm, by decide, ?_⟩
        try simp only [go_sem, Int.reduceLT, Int.reduceLE, Int.reduceBEq, Int.reduceBNe, Nat.reduceBNe, Nat.reduceAdd, Nat.reduceMul, Nat.reduceEqDiff, Nat.reduceLeDiff, Nat.reduceLT, Nat.reduceBEq, reduceCtorEq, reduceIte, c5, p6.1, p6.2, e7, p8.1, p8.2, lt_f (rules_0.length), g30_0, g30_5, g30_6, g30_7, g30_23, g30_24, g30_25, og30_0, og30_1, IV, sts_cons, sts_nil, obs_cons, obs_nil]
    · replace h := inr_K h hy1
      obtain rfl := Option.some.inj h
      try simp only [go_sem, Int.reduceLT, Int.reduceLE, Int.reduceBEq, Int.reduceBNe, Nat.reduceBNe, Nat.reduceAdd, Nat.reduceMul, Nat.reduceEqDiff, Nat.reduceLeDiff, Nat.reduceLT, Nat.reduceBEq, reduceCtorEq, reduceIte, c5, g4_0, g4_5, g4_6, og4_0, og4_1]
theorem i_copyCond_ok {x_0 : CondD} {r : CondD} (h : i_copyCond x_0 = some r) : Sound Try.prog J0 94 [(true, eCond x_0)] [(true, [(false, .int .i64 r.kind), (false, .str r.pattern.rel), (false, .sl 9 1 (List.map eStr r.pattern.args)), (false, .str r.left), (false, .str r.right)])] := by
  refine fnk Try.func94 (by kernel_rfl) rfl (by kernel_rfl) (by kernel_rfl) ?_
  unfold i_copyCond at h
  simp only [fnS, f94, argSt, go_sem, Int.reduceLT, Int.reduceLE, Int.reduceBEq, Int.reduceBNe, Nat.reduceBNe, Nat.reduceAdd, Nat.reduceMul, Nat.reduceEqDiff, Nat.reduceLeDiff, Nat.reduceLT, Nat.reduceBEq, reduceCtorEq, reduceIte]
  obtain ⟨v1, e1, h⟩ := bind_K h
  refine call_K (by first | exact i_copyPattern_ok e1 | simpa only [go_sem, Int.reduceLT, Int.reduceLE, Int.reduceBEq, Int.reduceBNe, Nat.reduceBNe, Nat.reduceAdd, Nat.reduceMul, Nat.reduceEqDiff, Nat.reduceLeDiff, Nat.reduceLT, Nat.reduceBEq, reduceCtorEq, reduceIte] using i_copyPattern_ok e1) ?_
  obtain rfl := Option.some.inj h
  try simp only [go_sem, Int.reduceLT, Int.reduceLE, Int.reduceBEq, Int.reduceBNe, Nat.reduceBNe, Nat.reduceAdd, Nat.reduceMul, Nat.reduceEqDiff, Nat.reduceLeDiff, Nat.reduceLT, Nat.reduceBEq, reduceCtorEq, reduceIte]
end Go.Proofs.Ytppjenkjopjeiaa

namespace Go.Proofs.Ytppjenkjopjeiaa
open Go.Proofs.Try
set_option linter.unusedSimpArgs false
set_option linter.unusedVariables false
set_option maxRecDepth 1000000
set_option maxHeartbeats 4000000
theorem s_l5Copy_ok {r_0 : RuleD} {r : RuleD} (h : s_l5Copy r_0 = some r) : Sound Try.prog J0 24 [(true, eRule r_0)] [(true, [(false, .str r.name), (false, .int .i64 r.priority), (false, .sl 97 5 (List.map eCond r.cond)), (false, .sl 93 3 (List.map eAction r.thn))])] := by
  refine fnk Try.func24 (by kernel_rfl) rfl (by kernel_rfl) (by kernel_rfl) ?_
  unfold s_l5Copy at h
  simp only [fnS, f24, argSt, go_sem, Int.reduceLT, Int.reduceLE, Int.reduceBEq, Int.reduceBNe, Nat.reduceBNe, Nat.reduceAdd, Nat.reduceMul, Nat.reduceEqDiff, Nat.reduceLeDiff, Nat.reduceLT, Nat.reduceBEq, reduceCtorEq, reduceIte]
  refine swp_for h (fun i row_5 st => IV [(1, .bp 0 0), (2, .bp 1 0), (3, .bp 2 0), (4, .p false [.c (.int .i64 ((i : Nat) : Int))])] [.box 59 [.c (.str r_0.name), .c (.int .i64 r_0.priority), .c (.sl 97 5 (List.map eCond r_0.cond)), .c (.sl 93 3 (List.map eAction r_0.thn))], .box 59 [.c (.str ⟨#[]⟩), .c (.int .i64 0), .nil 97 5, .nil 93 3], .box 59 [.c (.str r_0.name), .c (.int .i64 r_0.priority), .row 3, .nil 93 3], .row 97 5 (List.map eCond row_5) 2] st) [(true, 112, 2)] [0, 16, 112, 160] (by decide) ?_ ?_ ?_
  · simp only [go_sem, Int.reduceLT, Int.reduceLE, Int.reduceBEq, Int.reduceBNe, Nat.reduceBNe, Nat.reduceAdd, Nat.reduceMul, Nat.reduceEqDiff, Nat.reduceLeDiff, Nat.reduceLT, Nat.reduceBEq, reduceCtorEq, reduceIte, IV, sts_cons, sts_nil, obs_cons, obs_nil]
  · rintro i20 x21 row_5 ⟨sl, ob, n⟩ y1 hx2 hI3 hW4 h hy1
    simp only [IV, sts_cons, sts_nil, obs_cons, obs_nil, and_true, true_and, Nat.reduceAdd, str_len] at hI3
    obtain ⟨⟨g5_1, g5_2, g5_3, g5_4⟩, og5_0, og5_1, og5_2, og5_3, hn⟩ := hI3
    subst hn
    have hlhx2 := WF.boxL hW4 og5_0 (j := 2) rfl
    try simp only [go_sem, Int.reduceLT, Int.reduceLE, Int.reduceBEq, Int.reduceBNe, Nat.reduceBNe, Nat.reduceAdd, Nat.reduceMul, Nat.reduceEqDiff, Nat.reduceLeDiff, Nat.reduceLT, Nat.reduceBEq, reduceCtorEq, reduceIte, hx2, lt_t hx2, lt_p hx2, nat_in (lt_n hx2) hlhx2, g5_1, g5_2, g5_3, g5_4, og5_0, og5_1, og5_2, og5_3]
    obtain ⟨v22, e6, h⟩ := bind_K h
    refine call_K (by first | exact s_l4Copy_ok e6 | simpa only [go_sem, Int.reduceLT, Int.reduceLE, Int.reduceBEq, Int.reduceBNe, Nat.reduceBNe, Nat.reduceAdd, Nat.reduceMul, Nat.reduceEqDiff, Nat.reduceLeDiff, Nat.reduceLT, Nat.reduceBEq, reduceCtorEq, reduceIte, hx2, lt_t hx2, lt_p hx2, nat_in (lt_n hx2) hlhx2, g5_1, g5_2, g5_3, g5_4, og5_0, og5_1, og5_2, og5_3] using s_l4Copy_ok e6) ?_
    obtain ⟨p7, h⟩ := chk_K h
    try simp only [Nat.reduceLeDiff] at p7
    try simp only [go_sem, Int.reduceLT, Int.reduceLE, Int.reduceBEq, Int.reduceBNe, Nat.reduceBNe, Nat.reduceAdd, Nat.reduceMul, Nat.reduceEqDiff, Nat.reduceLeDiff, Nat.reduceLT, Nat.reduceBEq, reduceCtorEq, reduceIte, hx2, lt_t hx2, lt_p hx2, nat_in (lt_n hx2) hlhx2, p7, g5_1, g5_2, g5_3, g5_4, og5_0, og5_1, og5_2, og5_3]
    refine ⟨_, [], [0, 1, 2, 228], (Option.some.inj h).symm, by decide, ?_⟩
    try simp only [go_sem, Int.reduceLT, Int.reduceLE, Int.reduceBEq, Int.reduceBNe, Nat.reduceBNe, Nat.reduceAdd, Nat.reduceMul, Nat.reduceEqDiff, Nat.reduceLeDiff, Nat.reduceLT, Nat.reduceBEq, reduceCtorEq, reduceIte, hx2, lt_t hx2, lt_p hx2, nat_in (lt_n hx2) hlhx2, p7, g5_1, g5_2, g5_3, g5_4, og5_0, og5_1, og5_2, og5_3, IV, sts_cons, sts_nil, obs_cons, obs_nil]
  · rintro row_5 ⟨sl, ob, n⟩ hI8 hW9 h
    simp only [IV, sts_cons, sts_nil, obs_cons, obs_nil, and_true, true_and, Nat.reduceAdd, str_len] at hI8
    obtain ⟨⟨g10_1, g10_2, g10_3, g10_4⟩, og10_0, og10_1, og10_2, og10_3, hn⟩ := hI8
    subst hn
    try simp only [go_sem, Int.reduceLT, Int.reduceLE, Int.reduceBEq, Int.reduceBNe, Nat.reduceBNe, Nat.reduceAdd, Nat.reduceMul, Nat.reduceEqDiff, Nat.reduceLeDiff, Nat.reduceLT, Nat.reduceBEq, reduceCtorEq, reduceIte, lt_f (r_0.cond.length), g10_1, g10_2, g10_3, g10_4, og10_0, og10_1, og10_2, og10_3]
    refine swp_for h (fun i row_27 st => IV [(1, .bp 0 0), (2, .bp 1 0), (3, .bp 2 0), (5, .p false [.c (.int .i64 ((i : Nat) : Int))])] [.box 59 [.c (.str r_0.name), .c (.int .i64 r_0.priority), .c (.sl 97 5 (List.map eCond r_0.cond)), .c (.sl 93 3 (List.map eAction r_0.thn))], .box 59 [.c (.str ⟨#[]⟩), .c (.int .i64 0), .nil 97 5, .nil 93 3], .box 59 [.c (.str r_0.name), .c (.int .i64 r_0.priority), .row 3, .row 4], .row 97 5 (List.map eCond row_5) 2, .row 93 3 (List.map eAction row_27) 2] st) [(true, 2, 3)] [0, 1, 2, 3, 100] (by decide) ?_ ?_ ?_
    · simp only [go_sem, Int.reduceLT, Int.reduceLE, Int.reduceBEq, Int.reduceBNe, Nat.reduceBNe, Nat.reduceAdd, Nat.reduceMul, Nat.reduceEqDiff, Nat.reduceLeDiff, Nat.reduceLT, Nat.reduceBEq, reduceCtorEq, reduceIte, IV, sts_cons, sts_nil, obs_cons, obs_nil, lt_f (r_0.cond.length), g10_1, g10_2, g10_3, g10_4, og10_0, og10_1, og10_2, og10_3]
    · rintro i31 x32 row_27 ⟨sl, ob, n⟩ y11 hx12 hI13 hW14 h hy11
      simp only [IV, sts_cons, sts_nil, obs_cons, obs_nil, and_true, true_and, Nat.reduceAdd, str_len] at hI13
      obtain ⟨⟨g15_1, g15_2, g15_3, g15_5⟩, og15_0, og15_1, og15_2, og15_3, og15_4, hn⟩ := hI13
      subst hn
      have hlhx12 := WF.boxL hW14 og15_0 (j := 3) rfl
      try simp only [go_sem, Int.reduceLT, Int.reduceLE, Int.reduceBEq, Int.reduceBNe, Nat.reduceBNe, Nat.reduceAdd, Nat.reduceMul, Nat.reduceEqDiff, Nat.reduceLeDiff, Nat.reduceLT, Nat.reduceBEq, reduceCtorEq, reduceIte, lt_f (r_0.cond.length), hx12, lt_t hx12, lt_p hx12, nat_in (lt_n hx12) hlhx12, g15_1, g15_2, g15_3, g15_5, og15_0, og15_1, og15_2, og15_3, og15_4]
      obtain ⟨v33, e16, h⟩ := bind_K h
      refine call_K (by first | exact s_l3CopyPattern_ok e16 | simpa only [go_sem, Int.reduceLT, Int.reduceLE, Int.reduceBEq, Int.reduceBNe, Nat.reduceBNe, Nat.reduceAdd, Nat.reduceMul, Nat.reduceEqDiff, Nat.reduceLeDiff, Nat.reduceLT, Nat.reduceBEq, reduceCtorEq, reduceIte, lt_f (r_0.cond.length), hx12, lt_t hx12, lt_p hx12, nat_in (lt_n hx12) hlhx12, g15_1, g15_2, g15_3, g15_5, og15_0, og15_1, og15_2, og15_3, og15_4] using s_l3CopyPattern_ok e16) ?_
      obtain ⟨p17, h⟩ := chk_K h
      try simp only [Nat.reduceLeDiff] at p17
      try simp only [go_sem, Int.reduceLT, Int.reduceLE, Int.reduceBEq, Int.reduceBNe, Nat.reduceBNe, Nat.reduceAdd, Nat.reduceMul, Nat.reduceEqDiff, Nat.reduceLeDiff, Nat.reduceLT, Nat.reduceBEq, reduceCtorEq, reduceIte, lt_f (r_0.cond.length), hx12, lt_t hx12, lt_p hx12, nat_in (lt_n hx12) hlhx12, p17, g15_1, g15_2, g15_3, g15_5, og15_0, og15_1, og15_2, og15_3, og15_4]
      refine ⟨_, [], [0, 1, 2, 3, 357], (Option.some.inj h).symm, by decide, ?_⟩
      try simp only [go_sem, Int.reduceLT, Int.reduceLE, Int.reduceBEq, Int.reduceBNe, Nat.reduceBNe, Nat.reduceAdd, Nat.reduceMul, Nat.reduceEqDiff, Nat.reduceLeDiff, Nat.reduceLT, Nat.reduceBEq, reduceCtorEq, reduceIte, lt_f (r_0.cond.length), hx12, lt_t hx12, lt_p hx12, nat_in (lt_n hx12) hlhx12, p17, g15_1, g15_2, g15_3, g15_5, og15_0, og15_1, og15_2, og15_3, og15_4, IV, sts_cons, sts_nil, obs_cons, obs_nil]
    · rintro row_27 ⟨sl, ob, n⟩ hI18 hW19 h
      simp only [IV, sts_cons, sts_nil, obs_cons, obs_nil, and_true, true_and, Nat.reduceAdd, str_len] at hI18
      obtain ⟨⟨g20_1, g20_2, g20_3, g20_5⟩, og20_0, og20_1, og20_2, og20_3, og20_4, hn⟩ := hI18
      subst hn
      obtain rfl := Option.some.inj h
      try simp only [go_sem, Int.reduceLT, Int.reduceLE, Int.reduceBEq, Int.reduceBNe, Nat.reduceBNe, Nat.reduceAdd, Nat.reduceMul, Nat.reduceEqDiff, Nat.reduceLeDiff, Nat.reduceLT, Nat.reduceBEq, reduceCtorEq, reduceIte, lt_f (r_0.cond.length), lt_f (r_0.thn.length), g20_1, g20_2, g20_3, g20_5, og20_0, og20_1, og20_2, og20_3, og20_4]
theorem i_copyConds_ok {l_0 : (List CondD)} {r : (List CondD)} (h : i_copyConds l_0 = some r) : Sound Try.prog J0 65 [(false, [.sl 97 5 (List.map eCond l_0)])] [(false, [(false, .sl 97 5 (List.map eCond r))])] := by
  refine fnk Try.func65 (by kernel_rfl) rfl (by kernel_rfl) (by kernel_rfl) ?_
  unfold i_copyConds at h
  simp only [fnS, f65, argSt, go_sem, Int.reduceLT, Int.reduceLE, Int.reduceBEq, Int.reduceBNe, Nat.reduceBNe, Nat.reduceAdd, Nat.reduceMul, Nat.reduceEqDiff, Nat.reduceLeDiff, Nat.reduceLT, Nat.reduceBEq, reduceCtorEq, reduceIte]
  refine swp_for h (fun i row_5 st => IV [(3, .p false [.row 0]), (6, .p false [.c (.sl 97 5 (List.map eCond l_0))]), (7, .p false [.c (.int .i64 ((l_0.length : Nat) : Int))]), (8, .p false [.c (.int .i64 ((i : Nat) : Int))])] [.row 97 5 (List.map eCond row_5) 2] st) [(false, 3, 0)] [80] (by decide) ?_ ?_ ?_
  · simp only [go_sem, Int.reduceLT, Int.reduceLE, Int.reduceBEq, Int.reduceBNe, Nat.reduceBNe, Nat.reduceAdd, Nat.reduceMul, Nat.reduceEqDiff, Nat.reduceLeDiff, Nat.reduceLT, Nat.reduceBEq, reduceCtorEq, reduceIte, IV, sts_cons, sts_nil, obs_cons, obs_nil]
  · rintro i9 x10 row_5 ⟨sl, ob, n⟩ y1 hx2 hI3 hW4 h hy1
    simp only [IV, sts_cons, sts_nil, obs_cons, obs_nil, and_true, true_and, Nat.reduceAdd, str_len] at hI3
    obtain ⟨⟨g5_3, g5_6, g5_7, g5_8⟩, og5_0, hn⟩ := hI3
    subst hn
    have hlhx2 := WF.slotL hW4 g5_6 (j := 0) rfl
    try simp only [go_sem, Int.reduceLT, Int.reduceLE, Int.reduceBEq, Int.reduceBNe, Nat.reduceBNe, Nat.reduceAdd, Nat.reduceMul, Nat.reduceEqDiff, Nat.reduceLeDiff, Nat.reduceLT, Nat.reduceBEq, reduceCtorEq, reduceIte, hx2, lt_t hx2, lt_p hx2, nat_in (lt_n hx2) hlhx2, g5_3, g5_6, g5_7, g5_8, og5_0]
    obtain ⟨v11, e6, h⟩ := bind_K h
    refine call_K (by first | exact i_copyCond_ok e6 | simpa only [go_sem, Int.reduceLT, Int.reduceLE, Int.reduceBEq, Int.reduceBNe, Nat.reduceBNe, Nat.reduceAdd, Nat.reduceMul, Nat.reduceEqDiff, Nat.reduceLeDiff, Nat.reduceLT, Nat.reduceBEq, reduceCtorEq, reduceIte, hx2, lt_t hx2, lt_p hx2, nat_in (lt_n hx2) hlhx2, g5_3, g5_6, g5_7, g5_8, og5_0] using i_copyCond_ok e6) ?_
    obtain ⟨p7, h⟩ := chk_K h
    try simp only [Nat.reduceLeDiff] at p7
    try simp only [go_sem, Int.reduceLT, Int.reduceLE, Int.reduceBEq, Int.reduceBNe, Nat.reduceBNe, Nat.reduceAdd, Nat.reduceMul, Nat.reduceEqDiff, Nat.reduceLeDiff, Nat.reduceLT, Nat.reduceBEq, reduceCtorEq, reduceIte, hx2, lt_t hx2, lt_p hx2, nat_in (lt_n hx2) hlhx2, p7, g5_3, g5_6, g5_7, g5_8, og5_0]
    refine ⟨_, [], [145], (Option.some.inj h).symm, by decide, ?_⟩
    try simp only [go_sem, Int.reduceLT, Int.reduceLE, Int.reduceBEq, Int.reduceBNe, Nat.reduceBNe, Nat.reduceAdd, Nat.reduceMul, Nat.reduceEqDiff, Nat.reduceLeDiff, Nat.reduceLT, Nat.reduceBEq, reduceCtorEq, reduceIte, hx2, lt_t hx2, lt_p hx2, nat_in (lt_n hx2) hlhx2, p7, g5_3, g5_6, g5_7, g5_8, og5_0, IV, sts_cons, sts_nil, obs_cons, obs_nil]
  · rintro row_5 ⟨sl, ob, n⟩ hI8 hW9 h
    simp only [IV, sts_cons, sts_nil, obs_cons, obs_nil, and_true, true_and, Nat.reduceAdd, str_len] at hI8
    obtain ⟨⟨g10_3, g10_6, g10_7, g10_8⟩, og10_0, hn⟩ := hI8
    subst hn
    obtain rfl := Option.some.inj h
    try simp only [go_sem, Int.reduceLT, Int.reduceLE, Int.reduceBEq, Int.reduceBNe, Nat.reduceBNe, Nat.reduceAdd, Nat.reduceMul, Nat.reduceEqDiff, Nat.reduceLeDiff, Nat.reduceLT, Nat.reduceBEq, reduceCtorEq, reduceIte, lt_f (l_0.length), g10_3, g10_6, g10_7, g10_8, og10_0]
end Go.Proofs.Ytppjenkjopjeiaa

namespace Go.Proofs.Ytppjenkjopjeiaa
open Go.Proofs.Try
set_option linter.unusedSimpArgs false
set_option linter.unusedVariables false
set_option maxRecDepth 1000000
set_option maxHeartbeats 4000000
theorem s_RelevantRules_ok {rules_0 : (List RuleD)} {rel_1 : ByteArray} {r : (List RuleD)} (h : s_RelevantRules rules_0 rel_1 = some r) : Sound Try.prog J0 6 [(false, [.sl 59 4 (List.map eRule rules_0)]), (false, [.str rel_1])] [(false, [(false, .sl 59 4 (List.map eRule r))])] := by
  refine fnk Try.func6 (by kernel_rfl) rfl (by kernel_rfl) (by kernel_rfl) ?_
  unfold s_RelevantRules at h
  simp only [fnS, f6, argSt, go_sem, Int.reduceLT, Int.reduceLE, Int.reduceBEq, Int.reduceBNe, Nat.reduceBNe, Nat.reduceAdd, Nat.reduceMul, Nat.reduceEqDiff, Nat.reduceLeDiff, Nat.reduceLT, Nat.reduceBEq, reduceCtorEq, reduceIte]
  refine swp_for h (fun i row_17 st => IV [(0, .p false [.c (.sl 59 4 (List.map eRule rules_0))]), (1, .p false [.c (.str rel_1)]), (5, .p false [.row 0]), (6, .p false [.c (.int .i64 ((i : Nat) : Int))])] [.row 59 4 (List.map eRule row_17) 2] st) [] [16] (by decide) ?_ ?_ ?_
  · simp only [go_sem, Int.reduceLT, Int.reduceLE, Int.reduceBEq, Int.reduceBNe, Nat.reduceBNe, Nat.reduceAdd, Nat.reduceMul, Nat.reduceEqDiff, Nat.reduceLeDiff, Nat.reduceLT, Nat.reduceBEq, reduceCtorEq, reduceIte, IV, sts_cons, sts_nil, obs_cons, obs_nil]
  · rintro i35 x36 row_17 ⟨sl, ob, n⟩ y1 hx2 hI3 hW4 h hy1
    simp only [IV, sts_cons, sts_nil, obs_cons, obs_nil, and_true, true_and, Nat.reduceAdd, str_len] at hI3
    obtain ⟨⟨g5_0, g5_1, g5_5, g5_6⟩, og5_0, hn⟩ := hI3
    subst hn
    have hlhx2 := WF.slotL hW4 g5_0 (j := 0) rfl
    try simp only [go_sem, Int.reduceLT, Int.reduceLE, Int.reduceBEq, Int.reduceBNe, Nat.reduceBNe, Nat.reduceAdd, Nat.reduceMul, Nat.reduceEqDiff, Nat.reduceLeDiff, Nat.reduceLT, Nat.reduceBEq, reduceCtorEq, reduceIte, hx2, lt_t hx2, lt_p hx2, nat_in (lt_n hx2) hlhx2, g5_0, g5_1, g5_5, g5_6, og5_0]
    obtain ⟨v37, e6, h⟩ := bind_K h
    refine call_K (by first | exact s_WritesOf_ok e6 | simpa only [go_sem, Int.reduceLT, Int.reduceLE, Int.reduceBEq, Int.reduceBNe, Nat.reduceBNe, Nat.reduceAdd, Nat.reduceMul, Nat.reduceEqDiff, Nat.reduceLeDiff, Nat.reduceLT, Nat.reduceBEq, reduceCtorEq, reduceIte, hx2, lt_t hx2, lt_p hx2, nat_in (lt_n hx2) hlhx2, g5_0, g5_1, g5_5, g5_6, og5_0] using s_WritesOf_ok e6) ?_
    try simp only [go_sem, Int.reduceLT, Int.reduceLE, Int.reduceBEq, Int.reduceBNe, Nat.reduceBNe, Nat.reduceAdd, Nat.reduceMul, Nat.reduceEqDiff, Nat.reduceLeDiff, Nat.reduceLT, Nat.reduceBEq, reduceCtorEq, reduceIte, hx2, lt_t hx2, lt_p hx2, nat_in (lt_n hx2) hlhx2, g5_0, g5_1, g5_5, g5_6, og5_0]
    refine swp_for h (fun i _ st => IV [(0, .p false [.c (.sl 59 4 (List.map eRule rules_0))]), (1, .p false [.c (.str rel_1)]), (5, .p false [.row 0]), (6, .p false [.c (.int .i64 ((i35 : Nat) : Int))]), (7, .p false [.row 1]), (8, .p false [.c (.int .i64 ((i : Nat) : Int))])] [.row 59 4 (List.map eRule row_17) 2, .row 9 1 (List.map eStr v37) 2] st) [] [0, 129] (by decide) ?_ ?_ ?_
    · simp only [go_sem, Int.reduceLT, Int.reduceLE, Int.reduceBEq, Int.reduceBNe, Nat.reduceBNe, Nat.reduceAdd, Nat.reduceMul, Nat.reduceEqDiff, Nat.reduceLeDiff, Nat.reduceLT, Nat.reduceBEq, reduceCtorEq, reduceIte, IV, sts_cons, sts_nil, obs_cons, obs_nil, hx2, lt_t hx2, lt_p hx2, nat_in (lt_n hx2) hlhx2, g5_0, g5_1, g5_5, g5_6, og5_0]
    · rintro i47 x48 ⟨⟩ ⟨sl, ob, n⟩ y7 hx8 hI9 hW10 h hy7
      simp only [IV, sts_cons, sts_nil, obs_cons, obs_nil, and_true, true_and, Nat.reduceAdd, str_len] at hI9
      obtain ⟨⟨g11_0, g11_1, g11_5, g11_6, g11_7, g11_8⟩, og11_0, og11_1, hn⟩ := hI9
      subst hn
      have hlhx8 := WF.rowL hW10 og11_1
      try simp only [go_sem, Int.reduceLT, Int.reduceLE, Int.reduceBEq, Int.reduceBNe, Nat.reduceBNe, Nat.reduceAdd, Nat.reduceMul, Nat.reduceEqDiff, Nat.reduceLeDiff, Nat.reduceLT, Nat.reduceBEq, reduceCtorEq, reduceIte, hx2, lt_t hx2, lt_p hx2, nat_in (lt_n hx2) hlhx2, hx8, lt_t hx8, lt_p hx8, nat_in (lt_n hx8) hlhx8, g11_0, g11_1, g11_5, g11_6, g11_7, g11_8, og11_0, og11_1]
      refine ite_K h (fun c12 h => ?_) (fun c12 h => ?_)
      · try simp only [go_sem, Int.reduceLT, Int.reduceLE, Int.reduceBEq, Int.reduceBNe, Nat.reduceBNe, Nat.reduceAdd, Nat.reduceMul, Nat.reduceEqDiff, Nat.reduceLeDiff, Nat.reduceLT, Nat.reduceBEq, reduceCtorEq, reduceIte, hx2, lt_t hx2, lt_p hx2, nat_in (lt_n hx2) hlhx2, hx8, lt_t hx8, lt_p hx8, nat_in (lt_n hx8) hlhx8, c12, g11_0, g11_1, g11_5, g11_6, g11_7, g11_8, og11_0, og11_1]
        obtain ⟨v49, e13, h⟩ := bind_K h
        refine call_K (by first | exact s_l5Copy_ok e13 | simpa only [go_sem, Int.reduceLT, Int.reduceLE, Int.reduceBEq, Int.reduceBNe, Nat.reduceBNe, Nat.reduceAdd, Nat.reduceMul, Nat.reduceEqDiff, Nat.reduceLeDiff, Nat.reduceLT, Nat.reduceBEq, reduceCtorEq, reduceIte, hx2, lt_t hx2, lt_p hx2, nat_in (lt_n hx2) hlhx2, hx8, lt_t hx8, lt_p hx8, nat_in (lt_n hx8) hlhx8, c12, g11_0, g11_1, g11_5, g11_6, g11_7, g11_8, og11_0, og11_1] using s_l5Copy_ok e13) ?_
        obtain ⟨p14, h⟩ := chk_K h
        try simp only [Nat.reduceLeDiff] at p14
        replace h := inr_K h hy7
        try simp only [go_sem, Int.reduceLT, Int.reduceLE, Int.reduceBEq, Int.reduceBNe, Nat.reduceBNe, Nat.reduceAdd, Nat.reduceMul, Nat.reduceEqDiff, Nat.reduceLeDiff, Nat.reduceLT, Nat.reduceBEq, reduceCtorEq, reduceIte, hx2, lt_t hx2, lt_p hx2, nat_in (lt_n hx2) hlhx2, hx8, lt_t hx8, lt_p hx8, nat_in (lt_n hx8) hlhx8, c12, p14, g11_0, g11_1, g11_5, g11_6, g11_7, g11_8, og11_0, og11_1]
        refine ⟨_, [], [418], (Option.some.inj h).symm, by decide, ?_⟩
        try simp only [go_sem, Int.reduceLT, Int.reduceLE, Int.reduceBEq, Int.reduceBNe, Nat.reduceBNe, Nat.reduceAdd, Nat.reduceMul, Nat.reduceEqDiff, Nat.reduceLeDiff, Nat.reduceLT, Nat.reduceBEq, reduceCtorEq, reduceIte, hx2, lt_t hx2, lt_p hx2, nat_in (lt_n hx2) hlhx2, hx8, lt_t hx8, lt_p hx8, nat_in (lt_n hx8) hlhx8, c12, p14, g11_0, g11_1, g11_5, g11_6, g11_7, g11_8, og11_0, og11_1, IV, sts_cons, sts_nil, obs_cons, obs_nil]
      · try simp only [go_sem, Int.reduceLT, Int.reduceLE, Int.reduceBEq, Int.reduceBNe, Nat.reduceBNe, Nat.reduceAdd, Nat.reduceMul, Nat.reduceEqDiff, Nat.reduceLeDiff, Nat.reduceLT, Nat.reduceBEq, reduceCtorEq, reduceIte, hx2, lt_t hx2, lt_p hx2, nat_in (lt_n hx2) hlhx2, hx8, lt_t hx8, lt_p hx8, nat_in (lt_n hx8) hlhx8, c12, g11_0, g11_1, g11_5, g11_6, g11_7, g11_8, og11_0, og11_1]
        obtain ⟨v50, e15, h⟩ := bind_K h
        refine call_K (by first | exact s_RelDepends_ok e15 | simpa only [go_sem, Int.reduceLT, Int.reduceLE, Int.reduceBEq, Int.reduceBNe, Nat.reduceBNe, Nat.reduceAdd, Nat.reduceMul, Nat.reduceEqDiff, Nat.reduceLeDiff, Nat.reduceLT, Nat.reduceBEq, reduceCtorEq, reduceIte, hx2, lt_t hx2, lt_p hx2, nat_in (lt_n hx2) hlhx2, hx8, lt_t hx8, lt_p hx8, nat_in (lt_n hx8) hlhx8, c12, g11_0, g11_1, g11_5, g11_6, g11_7, g11_8, og11_0, og11_1] using s_RelDepends_ok e15) ?_
        try simp only [go_sem, Int.reduceLT, Int.reduceLE, Int.reduceBEq, Int.reduceBNe, Nat.reduceBNe, Nat.reduceAdd, Nat.reduceMul, Nat.reduceEqDiff, Nat.reduceLeDiff, Nat.reduceLT, Nat.reduceBEq, reduceCtorEq, reduceIte, hx2, lt_t hx2, lt_p hx2, nat_in (lt_n hx2) hlhx2, hx8, lt_t hx8, lt_p hx8, nat_in (lt_n hx8) hlhx8, c12, g11_0, g11_1, g11_5, g11_6, g11_7, g11_8, og11_0, og11_1]
        refine ite_K h (fun c16 h => ?_) (fun c16 h => ?_)
        · try simp only [go_sem, Int.reduceLT, Int.reduceLE, Int.reduceBEq, Int.reduceBNe, Nat.reduceBNe, Nat.reduceAdd, Nat.reduceMul, Nat.reduceEqDiff, Nat.reduceLeDiff, Nat.reduceLT, Nat.reduceBEq, reduceCtorEq, reduceIte, hx2, lt_t hx2, lt_p hx2, nat_in (lt_n hx2) hlhx2, hx8, lt_t hx8, lt_p hx8, nat_in (lt_n hx8) hlhx8, c12, c16, g11_0, g11_1, g11_5, g11_6, g11_7, g11_8, og11_0, og11_1]
          obtain ⟨v51, e17, h⟩ := bind_K h
          refine call_K (by first | exact s_l5Copy_ok e17 | simpa only [go_sem, Int.reduceLT, Int.reduceLE, Int.reduceBEq, Int.reduceBNe, Nat.reduceBNe, Nat.reduceAdd, Nat.reduceMul, Nat.reduceEqDiff, Nat.reduceLeDiff, Nat.reduceLT, Nat.reduceBEq, reduceCtorEq, reduceIte, hx2, lt_t hx2, lt_p hx2, nat_in (lt_n hx2) hlhx2, hx8, lt_t hx8, lt_p hx8, nat_in (lt_n hx8) hlhx8, c12, c16, g11_0, g11_1, g11_5, g11_6, g11_7, g11_8, og11_0, og11_1] using s_l5Copy_ok e17) ?_
          obtain ⟨p18, h⟩ := chk_K h
          try simp only [Nat.reduceLeDiff] at p18
          replace h := inr_K h hy7
          try simp only [go_sem, Int.reduceLT, Int.reduceLE, Int.reduceBEq, Int.reduceBNe, Nat.reduceBNe, Nat.reduceAdd, Nat.reduceMul, Nat.reduceEqDiff, Nat.reduceLeDiff, Nat.reduceLT, Nat.reduceBEq, reduceCtorEq, reduceIte, hx2, lt_t hx2, lt_p hx2, nat_in (lt_n hx2) hlhx2, hx8, lt_t hx8, lt_p hx8, nat_in (lt_n hx8) hlhx8, c12, c16, p18, g11_0, g11_1, g11_5, g11_6, g11_7, g11_8, og11_0, og11_1]
          refine ⟨_, [], [418], (Option.some.inj h).symm, by decide, ?_⟩
          try simp only [go_sem, Int.reduceLT, Int.reduceLE, Int.reduceBEq, Int.reduceBNe, Nat.reduceBNe, Nat.reduceAdd, Nat.reduceMul, Nat.reduceEqDiff, Nat.reduceLeDiff, Nat.reduceLT, Nat.reduceBEq, reduceCtorEq, reduceIte, hx2, lt_t hx2, lt_p hx2, nat_in (lt_n hx2) hlhx2, hx8, lt_t hx8, lt_p hx8, nat_in (lt_n hx8) hlhx8, c12, c16, p18, g11_0, g11_1, g11_5, g11_6, g11_7, g11_8, og11_0, og11_1, IV, sts_cons, sts_nil, obs_cons, obs_nil]
        · try simp only [go_sem, Int.reduceLT, Int.reduceLE, Int.reduceBEq, Int.reduceBNe, Nat.reduceBNe, Nat.reduceAdd, Nat.reduceMul, Nat.reduceEqDiff, Nat.reduceLeDiff, Nat.reduceLT, Nat.reduceBEq, reduceCtorEq, reduceIte, hx2, lt_t hx2, lt_p hx2, nat_in (lt_n hx2) hlhx2, hx8, lt_t hx8, lt_p hx8, nat_in (lt_n hx8) hlhx8, c12, c16, g11_0, g11_1, g11_5, g11_6, g11_7, g11_8, og11_0, og11_1]
          refine ⟨_, [], [0, 1], (Option.some.inj h).symm, by decide, ?_⟩
          try simp only [go_sem, Int.reduceLT, Int.reduceLE, Int.reduceBEq, Int.reduceBNe, Nat.reduceBNe, Nat.reduceAdd, Nat.reduceMul, Nat.reduceEqDiff, Nat.reduceLeDiff, Nat.reduceLT, Nat.reduceBEq, reduceCtorEq, reduceIte, hx2, lt_t hx2, lt_p hx2, nat_in (lt_n hx2) hlhx2, hx8, lt_t hx8, lt_p hx8, nat_in (lt_n hx8) hlhx8, c12, c16, g11_0, g11_1, g11_5, g11_6, g11_7, g11_8, og11_0, og11_1, IV, sts_cons, sts_nil, obs_cons, obs_nil]
    · rintro ⟨⟩ ⟨sl, ob, n⟩ hI19 hW20 h
      simp only [IV, sts_cons, sts_nil, obs_cons, obs_nil, and_true, true_and, Nat.reduceAdd, str_len] at hI19
      obtain ⟨⟨g21_0, g21_1, g21_5, g21_6, g21_7, g21_8⟩, og21_0, og21_1, hn⟩ := hI19
      subst hn
      try simp only [go_sem, Int.reduceLT, Int.reduceLE, Int.reduceBEq, Int.reduceBNe, Nat.reduceBNe, Nat.reduceAdd, Nat.reduceMul, Nat.reduceEqDiff, Nat.reduceLeDiff, Nat.reduceLT, Nat.reduceBEq, reduceCtorEq, reduceIte, hx2, lt_t hx2, lt_p hx2, nat_in (lt_n hx2) hlhx2, lt_f (v37.length), g21_0, g21_1, g21_5, g21_6, g21_7, g21_8, og21_0, og21_1]
      refine ⟨_, [], [0], (Option.some.inj h).symm, by decide, ?_⟩
      try simp only [go_sem, Int.reduceLT, Int.reduceLE, Int.reduceBEq, Int.reduceBNe, Nat.reduceBNe, Nat.reduceAdd, Nat.reduceMul, Nat.reduceEqDiff, Nat.reduceLeDiff, Nat.reduceLT, Nat.reduceBEq, reduceCtorEq, reduceIte, hx2, lt_t hx2, lt_p hx2, nat_in (lt_n hx2) hlhx2, lt_f (v37.length), g21_0, g21_1, g21_5, g21_6, g21_7, g21_8, og21_0, og21_1, IV, sts_cons, sts_nil, obs_cons, obs_nil]
  · rintro row_17 ⟨sl, ob, n⟩ hI22 hW23 h
    simp only [IV, sts_cons, sts_nil, obs_cons, obs_nil, and_true, true_and, Nat.reduceAdd, str_len] at hI22
    obtain ⟨⟨g24_0, g24_1, g24_5, g24_6⟩, og24_0, hn⟩ := hI22
    subst hn
    obtain rfl := Option.some.inj h
    try simp only [go_sem, Int.reduceLT, Int.reduceLE, Int.reduceBEq, Int.reduceBNe, Nat.reduceBNe, Nat.reduceAdd, Nat.reduceMul, Nat.reduceEqDiff, Nat.reduceLeDiff, Nat.reduceLT, Nat.reduceBEq, reduceCtorEq, reduceIte, lt_f (rules_0.length), g24_0, g24_1, g24_5, g24_6, og24_0]
theorem i_copyRule_ok {r_0 : RuleD} {r : RuleD} (h : i_copyRule r_0 = some r) : Sound Try.prog J0 28 [(true, eRule r_0)] [(true, [(false, .str r.name), (false, .int .i64 r.priority), (false, .sl 97 5 (List.map eCond r.cond)), (false, .sl 93 3 (List.map eAction r.thn))])] := by
  refine fnk Try.func28 (by kernel_rfl) rfl (by kernel_rfl) (by kernel_rfl) ?_
  unfold i_copyRule at h
  simp only [fnS, f28, argSt, go_sem, Int.reduceLT, Int.reduceLE, Int.reduceBEq, Int.reduceBNe, Nat.reduceBNe, Nat.reduceAdd, Nat.reduceMul, Nat.reduceEqDiff, Nat.reduceLeDiff, Nat.reduceLT, Nat.reduceBEq, reduceCtorEq, reduceIte]
  obtain ⟨v1, e1, h⟩ := bind_K h
  refine call_K (by first | exact i_copyConds_ok e1 | simpa only [go_sem, Int.reduceLT, Int.reduceLE, Int.reduceBEq, Int.reduceBNe, Nat.reduceBNe, Nat.reduceAdd, Nat.reduceMul, Nat.reduceEqDiff, Nat.reduceLeDiff, Nat.reduceLT, Nat.reduceBEq, reduceCtorEq, reduceIte] using i_copyConds_ok e1) ?_
  try simp only [go_sem, Int.reduceLT, Int.reduceLE, Int.reduceBEq, Int.reduceBNe, Nat.reduceBNe, Nat.reduceAdd, Nat.reduceMul, Nat.reduceEqDiff, Nat.reduceLeDiff, Nat.reduceLT, Nat.reduceBEq, reduceCtorEq, reduceIte]
  refine swp_for h (fun i row_6 st => IV [(2, .bp 0 0), (3, .bp 1 0), (15, .p false [.c (.sl 93 3 (List.map eAction r_0.thn))]), (16, .p false [.c (.int .i64 ((r_0.thn.length : Nat) : Int))]), (17, .p false [.c (.int .i64 ((i : Nat) : Int))])] [.box 59 [.c (.str ⟨#[]⟩), .c (.int .i64 0), .nil 97 5, .nil 93 3], .box 59 [.c (.str r_0.name), .c (.int .i64 r_0.priority), .row 2, .row 3], .row 97 5 (List.map eCond v1) 2, .row 93 3 (List.map eAction row_6) 2] st) [(true, 160, 3)] [16, 160, 128, 256] (by decide) ?_ ?_ ?_
  · simp only [go_sem, Int.reduceLT, Int.reduceLE, Int.reduceBEq, Int.reduceBNe, Nat.reduceBNe, Nat.reduceAdd, Nat.reduceMul, Nat.reduceEqDiff, Nat.reduceLeDiff, Nat.reduceLT, Nat.reduceBEq, reduceCtorEq, reduceIte, IV, sts_cons, sts_nil, obs_cons, obs_nil]
  · rintro i10 x11 row_6 ⟨sl, ob, n⟩ y2 hx3 hI4 hW5 h hy2
    simp only [IV, sts_cons, sts_nil, obs_cons, obs_nil, and_true, true_and, Nat.reduceAdd, str_len] at hI4
    obtain ⟨⟨g6_2, g6_3, g6_15, g6_16, g6_17⟩, og6_0, og6_1, og6_2, og6_3, hn⟩ := hI4
    subst hn
    have hlhx3 := WF.slotL hW5 g6_15 (j := 0) rfl
    try simp only [go_sem, Int.reduceLT, Int.reduceLE, Int.reduceBEq, Int.reduceBNe, Nat.reduceBNe, Nat.reduceAdd, Nat.reduceMul, Nat.reduceEqDiff, Nat.reduceLeDiff, Nat.reduceLT, Nat.reduceBEq, reduceCtorEq, reduceIte, hx3, lt_t hx3, lt_p hx3, nat_in (lt_n hx3) hlhx3, g6_2, g6_3, g6_15, g6_16, g6_17, og6_0, og6_1, og6_2, og6_3]
    obtain ⟨v12, e7, h⟩ := bind_K h
    refine call_K (by first | exact i_copyPattern_ok e7 | simpa only [go_sem, Int.reduceLT, Int.reduceLE, Int.reduceBEq, Int.reduceBNe, Nat.reduceBNe, Nat.reduceAdd, Nat.reduceMul, Nat.reduceEqDiff, Nat.reduceLeDiff, Nat.reduceLT, Nat.reduceBEq, reduceCtorEq, reduceIte, hx3, lt_t hx3, lt_p hx3, nat_in (lt_n hx3) hlhx3, g6_2, g6_3, g6_15, g6_16, g6_17, og6_0, og6_1, og6_2, og6_3] using i_copyPattern_ok e7) ?_
    obtain ⟨p8, h⟩ := chk_K h
    try simp only [Nat.reduceLeDiff] at p8
    try simp only [go_sem, Int.reduceLT, Int.reduceLE, Int.reduceBEq, Int.reduceBNe, Nat.reduceBNe, Nat.reduceAdd, Nat.reduceMul, Nat.reduceEqDiff, Nat.reduceLeDiff, Nat.reduceLT, Nat.reduceBEq, reduceCtorEq, reduceIte, hx3, lt_t hx3, lt_p hx3, nat_in (lt_n hx3) hlhx3, p8, g6_2, g6_3, g6_15, g6_16, g6_17, og6_0, og6_1, og6_2, og6_3]
    refine ⟨_, [], [0, 1, 2, 228], (Option.some.inj h).symm, by decide, ?_⟩
    try simp only [go_sem, Int.reduceLT, Int.reduceLE, Int.reduceBEq, Int.reduceBNe, Nat.reduceBNe, Nat.reduceAdd, Nat.reduceMul, Nat.reduceEqDiff, Nat.reduceLeDiff, Nat.reduceLT, Nat.reduceBEq, reduceCtorEq, reduceIte, hx3, lt_t hx3, lt_p hx3, nat_in (lt_n hx3) hlhx3, p8, g6_2, g6_3, g6_15, g6_16, g6_17, og6_0, og6_1, og6_2, og6_3, IV, sts_cons, sts_nil, obs_cons, obs_nil]
  · rintro row_6 ⟨sl, ob, n⟩ hI9 hW10 h
    simp only [IV, sts_cons, sts_nil, obs_cons, obs_nil, and_true, true_and, Nat.reduceAdd, str_len] at hI9
    obtain ⟨⟨g11_2, g11_3, g11_15, g11_16, g11_17⟩, og11_0, og11_1, og11_2, og11_3, hn⟩ := hI9
    subst hn
    obtain rfl := Option.some.inj h
    try simp only [go_sem, Int.reduceLT, Int.reduceLE, Int.reduceBEq, Int.reduceBNe, Nat.reduceBNe, Nat.reduceAdd, Nat.reduceMul, Nat.reduceEqDiff, Nat.reduceLeDiff, Nat.reduceLT, Nat.reduceBEq, reduceCtorEq, reduceIte, lt_f (r_0.thn.length), g11_2, g11_3, g11_15, g11_16, g11_17, og11_0, og11_1, og11_2, og11_3]
end Go.Proofs.Ytppjenkjopjeiaa

namespace Go.Proofs.Ytppjenkjopjeiaa
open Go.Proofs.Try
set_option linter.unusedSimpArgs false
set_option linter.unusedVariables false
set_option maxRecDepth 1000000
set_option maxHeartbeats 4000000
theorem i_RelevantRules_ok {rules_0 : (List RuleD)} {rel_1 : ByteArray} {r : (List RuleD)} (h : i_RelevantRules rules_0 rel_1 = some r) : Sound Try.prog J0 8 [(false, [.sl 59 4 (List.map eRule rules_0)]), (false, [.str rel_1])] [(false, [(false, .sl 59 4 (List.map eRule r))])] := by
  refine fnk Try.func8 (by kernel_rfl) rfl (by kernel_rfl) (by kernel_rfl) ?_
  unfold i_RelevantRules at h
  simp only [fnS, f8, argSt, go_sem, Int.reduceLT, Int.reduceLE, Int.reduceBEq, Int.reduceBNe, Nat.reduceBNe, Nat.reduceAdd, Nat.reduceMul, Nat.reduceEqDiff, Nat.reduceLeDiff, Nat.reduceLT, Nat.reduceBEq, reduceCtorEq, reduceIte]
  obtain ⟨v1, e1, h⟩ := bind_K h
  refine new_KM (by first | exact i_relReach_ok e1 | simpa only [go_sem, Int.reduceLT, Int.reduceLE, Int.reduceBEq, Int.reduceBNe, Nat.reduceBNe, Nat.reduceAdd, Nat.reduceMul, Nat.reduceEqDiff, Nat.reduceLeDiff, Nat.reduceLT, Nat.reduceBEq, reduceCtorEq, reduceIte] using i_relReach_ok e1) ?_
  try simp only [go_sem, Int.reduceLT, Int.reduceLE, Int.reduceBEq, Int.reduceBNe, Nat.reduceBNe, Nat.reduceAdd, Nat.reduceMul, Nat.reduceEqDiff, Nat.reduceLeDiff, Nat.reduceLT, Nat.reduceBEq, reduceCtorEq, reduceIte]
  refine swp_for h (fun i row_22 st => IV [(5, .p false [.row 0]), (6, .p false [.row 1]), (16, .p false [.c (.sl 59 4 (List.map eRule rules_0))]), (17, .p false [.c (.int .i64 ((rules_0.length : Nat) : Int))]), (18, .p false [.c (.int .i64 ((i : Nat) : Int))])] [.map .str .bool (List.map eSB (mPut v1 rel_1 true)), .row 59 4 (List.map eRule row_22) 2] st) [(false, 6, 0)] [48, 192] (by decide) ?_ ?_ ?_
  · simp only [go_sem, Int.reduceLT, Int.reduceLE, Int.reduceBEq, Int.reduceBNe, Nat.reduceBNe, Nat.reduceAdd, Nat.reduceMul, Nat.reduceEqDiff, Nat.reduceLeDiff, Nat.reduceLT, Nat.reduceBEq, reduceCtorEq, reduceIte, IV, sts_cons, sts_nil, obs_cons, obs_nil]
  · rintro i34 x35 row_22 ⟨sl, ob, n⟩ y2 hx3 hI4 hW5 h hy2
    simp only [IV, sts_cons, sts_nil, obs_cons, obs_nil, and_true, true_and, Nat.reduceAdd, str_len] at hI4
    obtain ⟨⟨g6_5, g6_6, g6_16, g6_17, g6_18⟩, og6_0, og6_1, hn⟩ := hI4
    subst hn
    have hlhx3 := WF.slotL hW5 g6_16 (j := 0) rfl
    try simp only [go_sem, Int.reduceLT, Int.reduceLE, Int.reduceBEq, Int.reduceBNe, Nat.reduceBNe, Nat.reduceAdd, Nat.reduceMul, Nat.reduceEqDiff, Nat.reduceLeDiff, Nat.reduceLT, Nat.reduceBEq, reduceCtorEq, reduceIte, hx3, lt_t hx3, lt_p hx3, nat_in (lt_n hx3) hlhx3, g6_5, g6_6, g6_16, g6_17, g6_18, og6_0, og6_1]
    obtain ⟨v36, e7, h⟩ := bind_K h
    refine call_K (by first | exact i_WritesOf_ok e7 | simpa only [go_sem, Int.reduceLT, Int.reduceLE, Int.reduceBEq, Int.reduceBNe, Nat.reduceBNe, Nat.reduceAdd, Nat.reduceMul, Nat.reduceEqDiff, Nat.reduceLeDiff, Nat.reduceLT, Nat.reduceBEq, reduceCtorEq, reduceIte, hx3, lt_t hx3, lt_p hx3, nat_in (lt_n hx3) hlhx3, g6_5, g6_6, g6_16, g6_17, g6_18, og6_0, og6_1] using i_WritesOf_ok e7) ?_
    try simp only [go_sem, Int.reduceLT, Int.reduceLE, Int.reduceBEq, Int.reduceBNe, Nat.reduceBNe, Nat.reduceAdd, Nat.reduceMul, Nat.reduceEqDiff, Nat.reduceLeDiff, Nat.reduceLT, Nat.reduceBEq, reduceCtorEq, reduceIte, hx3, lt_t hx3, lt_p hx3, nat_in (lt_n hx3) hlhx3, g6_5, g6_6, g6_16, g6_17, g6_18, og6_0, og6_1]
    refine swp_for h (fun i _ st => IV [(5, .p false [.row 0]), (6, .p false [.row 1]), (8, .bp 2 0), (16, .p false [.c (.sl 59 4 (List.map eRule rules_0))]), (17, .p false [.c (.int .i64 ((rules_0.length : Nat) : Int))]), (18, .p false [.c (.int .i64 ((i34 : Nat) : Int))]), (23, .p false [.row 3]), (24, .p false [.c (.int .i64 ((v36.length : Nat) : Int))]), (25, .p false [.c (.int .i64 ((i : Nat) : Int))])] [.map .str .bool (List.map eSB (mPut v1 rel_1 true)), .row 59 4 (List.map eRule row_22) 2, .box 59 [.c (.str x35.name), .c (.int .i64 x35.priority), .c (.sl 97 5 (List.map eCond x35.cond)), .c (.sl 93 3 (List.map eAction x35.thn))], .row 9 1 (List.map eStr v36) 2] st) [] [0, 1, 50, 98] (by decide) ?_ ?_ ?_
    · simp only [go_sem, Int.reduceLT, Int.reduceLE, Int.reduceBEq, Int.reduceBNe, Nat.reduceBNe, Nat.reduceAdd, Nat.reduceMul, Nat.reduceEqDiff, Nat.reduceLeDiff, Nat.reduceLT, Nat.reduceBEq, reduceCtorEq, reduceIte, IV, sts_cons, sts_nil, obs_cons, obs_nil, hx3, lt_t hx3, lt_p hx3, nat_in (lt_n hx3) hlhx3, g6_5, g6_6, g6_16, g6_17, g6_18, og6_0, og6_1]
    · rintro i42 x43 ⟨⟩ ⟨sl, ob, n⟩ y8 hx9 hI10 hW11 h hy8
      simp only [IV, sts_cons, sts_nil, obs_cons, obs_nil, and_true, true_and, Nat.reduceAdd, str_len] at hI10
      obtain ⟨⟨g12_5, g12_6, g12_8, g12_16, g12_17, g12_18, g12_23, g12_24, g12_25⟩, og12_0, og12_1, og12_2, og12_3, hn⟩ := hI10
      subst hn
      have hlhx9 := WF.rowL hW11 og12_3
      try simp only [go_sem, Int.reduceLT, Int.reduceLE, Int.reduceBEq, Int.reduceBNe, Nat.reduceBNe, Nat.reduceAdd, Nat.reduceMul, Nat.reduceEqDiff, Nat.reduceLeDiff, Nat.reduceLT, Nat.reduceBEq, reduceCtorEq, reduceIte, hx3, lt_t hx3, lt_p hx3, nat_in (lt_n hx3) hlhx3, hx9, lt_t hx9, lt_p hx9, nat_in (lt_n hx9) hlhx9, g12_5, g12_6, g12_8, g12_16, g12_17, g12_18, g12_23, g12_24, g12_25, og12_0, og12_1, og12_2, og12_3]
      refine ite_K h (fun c13 h => ?_) (fun c13 h => ?_)
      · try simp only [go_sem, Int.reduceLT, Int.reduceLE, Int.reduceBEq, Int.reduceBNe, Nat.reduceBNe, Nat.reduceAdd, Nat.reduceMul, Nat.reduceEqDiff, Nat.reduceLeDiff, Nat.reduceLT, Nat.reduceBEq, reduceCtorEq, reduceIte, hx3, lt_t hx3, lt_p hx3, nat_in (lt_n hx3) hlhx3, hx9, lt_t hx9, lt_p hx9, nat_in (lt_n hx9) hlhx9, c13, g12_5, g12_6, g12_8, g12_16, g12_17, g12_18, g12_23, g12_24, g12_25, og12_0, og12_1, og12_2, og12_3]
        obtain ⟨v44, e14, h⟩ := bind_K h
        refine call_K (by first | exact i_copyRule_ok e14 | simpa only [go_sem, Int.reduceLT, Int.reduceLE, Int.reduceBEq, Int.reduceBNe, Nat.reduceBNe, Nat.reduceAdd, Nat.reduceMul, Nat.reduceEqDiff, Nat.reduceLeDiff, Nat.reduceLT, Nat.reduceBEq, reduceCtorEq, reduceIte, hx3, lt_t hx3, lt_p hx3, nat_in (lt_n hx3) hlhx3, hx9, lt_t hx9, lt_p hx9, nat_in (lt_n hx9) hlhx9, c13, g12_5, g12_6, g12_8, g12_16, g12_17, g12_18, g12_23, g12_24, g12_25, og12_0, og12_1, og12_2, og12_3] using i_copyRule_ok e14) ?_
        obtain ⟨p15, h⟩ := chk_K h
        try simp only [Nat.reduceLeDiff] at p15
        replace h := inr_K h hy8
        try simp only [go_sem, Int.reduceLT, Int.reduceLE, Int.reduceBEq, Int.reduceBNe, Nat.reduceBNe, Nat.reduceAdd, Nat.reduceMul, Nat.reduceEqDiff, Nat.reduceLeDiff, Nat.reduceLT, Nat.reduceBEq, reduceCtorEq, reduceIte, hx3, lt_t hx3, lt_p hx3, nat_in (lt_n hx3) hlhx3, hx9, lt_t hx9, lt_p hx9, nat_in (lt_n hx9) hlhx9, c13, p15, g12_5, g12_6, g12_8, g12_16, g12_17, g12_18, g12_23, g12_24, g12_25, og12_0, og12_1, og12_2, og12_3]
        refine ⟨_, [], [0, 180], (Option.some.inj h).symm, by decide, ?_⟩
        try simp only [go_sem, Int.reduceLT, Int.reduceLE, Int.reduceBEq, Int.reduceBNe, Nat.reduceBNe, Nat.reduceAdd, Nat.reduceMul, Nat.reduceEqDiff, Nat.reduceLeDiff, Nat.reduceLT, Nat.reduceBEq, reduceCtorEq, reduceIte, hx3, lt_t hx3, lt_p hx3, nat_in (lt_n hx3) hlhx3, hx9, lt_t hx9, lt_p hx9, nat_in (lt_n hx9) hlhx9, c13, p15, g12_5, g12_6, g12_8, g12_16, g12_17, g12_18, g12_23, g12_24, g12_25, og12_0, og12_1, og12_2, og12_3, IV, sts_cons, sts_nil, obs_cons, obs_nil]
      · try simp only [go_sem, Int.reduceLT, Int.reduceLE, Int.reduceBEq, Int.reduceBNe, Nat.reduceBNe, Nat.reduceAdd, Nat.reduceMul, Nat.reduceEqDiff, Nat.reduceLeDiff, Nat.reduceLT, Nat.reduceBEq, reduceCtorEq, reduceIte, hx3, lt_t hx3, lt_p hx3, nat_in (lt_n hx3) hlhx3, hx9, lt_t hx9, lt_p hx9, nat_in (lt_n hx9) hlhx9, c13, g12_5, g12_6, g12_8, g12_16, g12_17, g12_18, g12_23, g12_24, g12_25, og12_0, og12_1, og12_2, og12_3]
        refine ⟨_, [], [0, 1, 2, 3], (Option.some.inj h).symm, by decide, ?_⟩
        try simp only [go_sem, Int.reduceLT, Int.reduceLE, Int.reduceBEq, Int.reduceBNe, Nat.reduceBNe, Nat.reduceAdd, Nat.reduceMul, Nat.reduceEqDiff, Nat.reduceLeDiff, Nat.reduceLT, Nat.reduceBEq, reduceCtorEq, reduceIte, hx3, lt_t hx3, lt_p hx3, nat_in (lt_n hx3) hlhx3, hx9, lt_t hx9, lt_p hx9, nat_in (lt_n hx9) hlhx9, c13, g12_5, g12_6, g12_8, g12_16, g12_17, g12_18, g12_23, g12_24, g12_25, og12_0, og12_1, og12_2, og12_3, IV, sts_cons, sts_nil, obs_cons, obs_nil]
    · rintro ⟨⟩ ⟨sl, ob, n⟩ hI16 hW17 h
      simp only [IV, sts_cons, sts_nil, obs_cons, obs_nil, and_true, true_and, Nat.reduceAdd, str_len] at hI16
      obtain ⟨⟨g18_5, g18_6, g18_8, g18_16, g18_17, g18_18, g18_23, g18_24, g18_25⟩, og18_0, og18_1, og18_2, og18_3, hn⟩ := hI16
      subst hn
      try simp only [go_sem, Int.reduceLT, Int.reduceLE, Int.reduceBEq, Int.reduceBNe, Nat.reduceBNe, Nat.reduceAdd, Nat.reduceMul, Nat.reduceEqDiff, Nat.reduceLeDiff, Nat.reduceLT, Nat.reduceBEq, reduceCtorEq, reduceIte, hx3, lt_t hx3, lt_p hx3, nat_in (lt_n hx3) hlhx3, lt_f (v36.length), g18_5, g18_6, g18_8, g18_16, g18_17, g18_18, g18_23, g18_24, g18_25, og18_0, og18_1, og18_2, og18_3]
      refine ⟨_, [], [0, 1], (Option.some.inj h).symm, by decide, ?_⟩
      try simp only [go_sem, Int.reduceLT, Int.reduceLE, Int.reduceBEq, Int.reduceBNe, Nat.reduceBNe, Nat.reduceAdd, Nat.reduceMul, Nat.reduceEqDiff, Nat.reduceLeDiff, Nat.reduceLT, Nat.reduceBEq, reduceCtorEq, reduceIte, hx3, lt_t hx3, lt_p hx3, nat_in (lt_n hx3) hlhx3, lt_f (v36.length), g18_5, g18_6, g18_8, g18_16, g18_17, g18_18, g18_23, g18_24, g18_25, og18_0, og18_1, og18_2, og18_3, IV, sts_cons, sts_nil, obs_cons, obs_nil]
  · rintro row_22 ⟨sl, ob, n⟩ hI19 hW20 h
    simp only [IV, sts_cons, sts_nil, obs_cons, obs_nil, and_true, true_and, Nat.reduceAdd, str_len] at hI19
    obtain ⟨⟨g21_5, g21_6, g21_16, g21_17, g21_18⟩, og21_0, og21_1, hn⟩ := hI19
    subst hn
    obtain rfl := Option.some.inj h
    try simp only [go_sem, Int.reduceLT, Int.reduceLE, Int.reduceBEq, Int.reduceBNe, Nat.reduceBNe, Nat.reduceAdd, Nat.reduceMul, Nat.reduceEqDiff, Nat.reduceLeDiff, Nat.reduceLT, Nat.reduceBEq, reduceCtorEq, reduceIte, lt_f (rules_0.length), g21_5, g21_6, g21_16, g21_17, g21_18, og21_0, og21_1]
end Go.Proofs.Ytppjenkjopjeiaa

namespace Go.Proofs.Ytppjenkjopjeiaa
open Go.RowKit
/-- a codec and trees say the same -/
structure Enc {α : Type} (c : Codec α) (f : α → List CT) : Prop where
  to : ∀ {w : World} {cs : List Value} {x : α} {L : List Nat}, c.rep w cs x L → RCs w (f x) cs L
  of : ∀ {w : World} {cs : List Value} {x : α} {L : List Nat}, RCs w (f x) cs L → c.rep w cs x L
section
variable {α : Type} {c : Codec α} {f : α → List CT} {w : World}
theorem Enc.reps (h : Enc c f) : ∀ {ds : List α} {xs : List Value} {L : List Nat}, c.reps w xs ds L → REs w c.size (ds.map f) xs L
  | [], _, _, h1 => h1
  | _ :: _, _, _, ⟨c1, c2, L1, L2, h1, h2, h3, h4⟩ => ⟨c1, c2, L1, L2, h1, h2, ⟨h.to h3, c.len h3⟩, h.reps h4⟩
theorem Enc.reps_of (h : Enc c f) : ∀ {ds : List α} {xs : List Value} {L : List Nat}, REs w c.size (ds.map f) xs L → c.reps w xs ds L
  | [], _, _, h1 => h1
  | _ :: _, _, _, ⟨c1, c2, L1, L2, h1, h2, h3, h4⟩ => ⟨c1, c2, L1, L2, h1, h2, h.of h3.1, h.reps_of h4⟩
theorem Enc.sl (h : Enc c f) (e : Nat) {v : Value} {ds : List α} {L : List Nat} : (sliceC c).rep w [v] ds L ↔ RC w (.sl e c.size (ds.map f)) v L := by
  constructor
  · rintro ⟨A, cap, hv, h1, h2, xs, L0, L1, hL, h3, h4⟩
    obtain rfl : v = _ := by simpa using hv
    exact ⟨A, cap, xs, L0, L1, by simp, by simpa using h1, h2, hL, c.pos, by simpa using h3, h.reps h4⟩
  · rintro ⟨A, cap, xs, L0, L1, hv, h1, h2, hL, h0, h3, h4⟩
    exact ⟨A, cap, by simpa using hv, by simpa using h1, h2, xs, L0, L1, hL, by simpa using h3, h.reps_of h4⟩
theorem RCs.solo {x : CT} {v : Value} {L : List Nat} (h : RC w x v L) : RCs w [x] [v] L := ⟨v, [], L, [], rfl, by simp, h, rfl, rfl⟩
theorem RCs.more {x : CT} {v : Value} {L M : List Nat} {r : List CT} {cs : List Value} (h : RC w x v L) (k : RCs w r cs M) : RCs w (x :: r) (v :: cs) (L ++ M) := ⟨v, cs, L, M, rfl, rfl, h, k⟩
theorem Enc.slice (h : Enc c f) (e : Nat) : Enc (sliceC c) (fun l => [.sl e c.size (l.map f)]) where
  to := fun {w cs x L} hr => by
    obtain ⟨A, cap, rfl, h1⟩ := id hr
    exact RCs.solo ((h.sl e).1 hr)
  of := fun {w cs x L} hr => by
    obtain ⟨v, cs', L1, L2, rfl, rfl, h1, rfl, rfl⟩ := hr
    rw [List.append_nil]
    exact (h.sl e).2 h1
end
theorem encInt : Enc intC eInt where
  to := fun ⟨h1, h2⟩ => by subst h1; subst h2; exact RCs.solo ⟨rfl, rfl⟩
  of := fun ⟨v, cs', L1, L2, h1, h2, h3, h4, h5⟩ => by
    obtain ⟨rfl, rfl⟩ := h3
    subst h4; subst h5; exact ⟨h1, h2⟩
theorem encByte : Enc byteC eByte where
  to := fun ⟨h1, h2⟩ => by subst h1; subst h2; exact RCs.solo ⟨rfl, rfl⟩
  of := fun ⟨v, cs', L1, L2, h1, h2, h3, h4, h5⟩ => by
    obtain ⟨rfl, rfl⟩ := h3
    subst h4; subst h5; exact ⟨h1, h2⟩
theorem encBool : Enc boolC eBool where
  to := fun ⟨h1, h2⟩ => by subst h1; subst h2; exact RCs.solo ⟨rfl, rfl⟩
  of := fun ⟨v, cs', L1, L2, h1, h2, h3, h4, h5⟩ => by
    obtain ⟨rfl, rfl⟩ := h3
    subst h4; subst h5; exact ⟨h1, h2⟩
theorem encStr : Enc strC eStr where
  to := fun ⟨h1, h2, h3⟩ => by subst h1; subst h2; exact RCs.solo ⟨rfl, rfl, h3⟩
  of := fun ⟨v, cs', L1, L2, h1, h2, h3, h4, h5⟩ => by
    obtain ⟨rfl, rfl, t⟩ := h3
    subst h4; subst h5; exact ⟨h1, h2, t⟩
/-- an argument; nothing is written to in the meantime -/
def Arg0 (w : World) : Bool × List CT → Value → Prop := ArgR w fun _ => False
theorem arg_sl {α : Type} {c : Codec α} {f : α → List CT} (h : Enc c f) (e : Nat) {w : World} {v : Value} {ds : List α} {L : List Nat} (hr : (sliceC c).rep w [v] ds L) : Arg0 w (false, [.sl e c.size (ds.map f)]) v := .inr ⟨rfl, _, L, rfl, (h.sl e).1 hr, fun _ _ h => h⟩
theorem arg_int (w : World) (n : Int) : Arg0 w (false, [.int .i64 n]) (.int .i64 n) := .inr ⟨rfl, _, [], rfl, ⟨rfl, rfl⟩, fun _ _ h => h⟩
theorem arg_bool (w : World) (b : Bool) : Arg0 w (false, [.bool b]) (.bool b) := .inr ⟨rfl, _, [], rfl, ⟨rfl, rfl⟩, fun _ _ h => h⟩
theorem arg_str (w : World) (s : ByteArray) (h : s.size ≤ 9223372036854775807) : Arg0 w (false, [.str s]) (.string s) := .inr ⟨rfl, _, [], rfl, ⟨rfl, rfl, h⟩, fun _ _ h => h⟩
theorem arg_agg {α : Type} {c : Codec α} {f : α → List CT} (h : Enc c f) {w : World} {vs : List Value} {x : α} {L : List Nat} (hr : c.rep w vs x L) : Arg0 w (true, f x) (.agg vs.toArray) := .inl ⟨rfl, vs, L, rfl, h.to hr, fun _ _ h => h⟩
section
variable {w w' : World} {v : Value} {e : Ending}
theorem res_one {B : Nat} {n : Nat → Prop} {x : RT} (h : ResR w B n [x] v) : ∃ F, OP w B n x v F ∧ Own w B F := by
  obtain ⟨vs, F, ⟨u, vs', F1, F2, rfl, rfl, h1, rfl, rfl⟩, h2, rfl⟩ := h
  rw [List.append_nil] at h2
  exact ⟨F1, by simpa using h1, h2⟩
theorem res_sl {α : Type} {c : Codec α} {f : α → List CT} (h : Enc c f) {t : Nat} {ds : List α} {n : Nat → Prop} (hr : ResR w' w.heap.size n [(false, [(false, .sl t c.size (ds.map f))])] v) (hb : Below w.heap.size w w') : AccC c t w v ds w' := by
  obtain ⟨F, h1, h2⟩ := res_one hr
  rcases h1 with ⟨h1, _⟩ | ⟨_, ct, h1, h3⟩
  · simp at h1
  · obtain rfl : _ = ct := by simpa using h1
    obtain ⟨_, cs, L, h4, h5, rfl, _⟩ := h3
    exact ⟨⟨cs, L, by simpa using h4, h.reps_of h5, h2⟩, hb⟩
theorem res_int {n : Int} {B : Nat} {m : Nat → Prop} (hr : ResR w B m [(false, [(false, .int .i64 n)])] v) : v = .int .i64 n := by
  obtain ⟨F, h1, h2⟩ := res_one hr
  rcases h1 with ⟨h1, _⟩ | ⟨_, ct, h1, h3⟩
  · simp at h1
  · obtain rfl : _ = ct := by simpa using h1
    exact h3.1.1
theorem res_bool {b : Bool} {B : Nat} {m : Nat → Prop} (hr : ResR w B m [(false, [(false, .bool b)])] v) : v = .bool b := by
  obtain ⟨F, h1, h2⟩ := res_one hr
  rcases h1 with ⟨h1, _⟩ | ⟨_, ct, h1, h3⟩
  · simp at h1
  · obtain rfl : _ = ct := by simpa using h1
    exact h3.1.1
theorem res_str {s : ByteArray} {B : Nat} {m : Nat → Prop} (hr : ResR w B m [(false, [(false, .str s)])] v) : v = .string s := by
  obtain ⟨F, h1, h2⟩ := res_one hr
  rcases h1 with ⟨h1, _⟩ | ⟨_, ct, h1, h3⟩
  · simp at h1
  · obtain rfl : _ = ct := by simpa using h1
    exact h3.1.1
/-- a slice that is only lent: what it leads to lies in the world -/
theorem res_lent {α : Type} {c : Codec α} {f : α → List CT} (h : Enc c f) {t B : Nat} {ds : List α} {n : Nat → Prop} (hr : ResR w B n [(false, [(true, .sl t c.size (ds.map f))])] v) : ∃ L, (sliceC c).rep w [v] ds L := by
  obtain ⟨F, h1, h2⟩ := res_one hr
  rcases h1 with ⟨h1, _⟩ | ⟨_, ct, h1, h3⟩
  · simp at h1
  · obtain rfl : _ = ct := by simpa using h1
    obtain ⟨_, L, h4, _⟩ := h3
    exact ⟨L, (h.sl t).2 h4⟩
end
section
variable {P : Program} {J : World → Prop} {f : FuncId} {args : List (Bool × List CT)} {res : List RT}
theorem Sound.calls (h : Sound P J f args res) {w : World} {vs : List Value} (hj : J w) (ha : All2 (Arg0 w) args vs) : Calls P f vs.toArray w fun e w' => ∃ v n, e = .returned v ∧ ResR w' w.heap.size n res v ∧ Below w.heap.size w w' :=
  (h.2 w (fun _ => False) vs hj (fun _ h => h.elim) ha).mono fun _ _ ⟨v, n, h1, h2, _, h3⟩ => ⟨v, n, h1, h2, h3⟩
/-- a slice as the result -/
theorem Sound.givesS {α : Type} {c : Codec α} {g : α → List CT} {t : Nat} {ds : List α} (h : Sound P J f args [(false, [(false, .sl t c.size (ds.map g))])]) (hg : Enc c g) {w : World} {vs : List Value} (hj : J w) (ha : All2 (Arg0 w) args vs) : Calls P f vs.toArray w (GivesS c t w ds) :=
  (h.calls hj ha).mono fun _ _ ⟨v, _, h1, h2, h3⟩ => ⟨v, h1, res_sl hg h2 h3⟩
theorem Sound.givesB {b : Bool} (h : Sound P J f args [(false, [(false, .bool b)])]) {w : World} {vs : List Value} (hj : J w) (ha : All2 (Arg0 w) args vs) : Calls P f vs.toArray w fun e w' => e = .returned (.bool b) ∧ Below w.heap.size w w' :=
  (h.calls hj ha).mono fun _ _ ⟨v, _, h1, h2, h3⟩ => ⟨by rw [h1, res_bool h2], h3⟩
theorem Sound.givesI {b : Int} (h : Sound P J f args [(false, [(false, .int .i64 b)])]) {w : World} {vs : List Value} (hj : J w) (ha : All2 (Arg0 w) args vs) : Calls P f vs.toArray w fun e w' => e = .returned (.int .i64 b) ∧ Below w.heap.size w w' :=
  (h.calls hj ha).mono fun _ _ ⟨v, _, h1, h2, h3⟩ => ⟨by rw [h1, res_int h2], h3⟩
theorem Sound.givesT {b : ByteArray} (h : Sound P J f args [(false, [(false, .str b)])]) {w : World} {vs : List Value} (hj : J w) (ha : All2 (Arg0 w) args vs) : Calls P f vs.toArray w fun e w' => e = .returned (.string b) ∧ Below w.heap.size w w' :=
  (h.calls hj ha).mono fun _ _ ⟨v, _, h1, h2, h3⟩ => ⟨by rw [h1, res_str h2], h3⟩
end
end Go.Proofs.Ytppjenkjopjeiaa

namespace Go.Proofs.Ytppjenkjopjeiaa
theorem encCond : Enc cCond eCond where
  to := fun {w cs x L} h => by
    obtain ⟨A1, c1, L1, rfl, rfl, t0, t1, t2, n1, m1, s1⟩ := h
    have hh : RCs w (eCond x) _ _ := RCs.more ⟨rfl, rfl⟩ (RCs.more ⟨rfl, rfl, t0⟩ (RCs.more ((encStr.sl 9).1 ⟨A1, c1, rfl, n1, m1, s1⟩) (RCs.more ⟨rfl, rfl, t1⟩ (RCs.solo ⟨rfl, rfl, t2⟩))))
    simpa only [List.nil_append, List.append_nil, List.append_assoc] using hh
  of := fun {w cs x L} h => by
    obtain ⟨v0, r0, K0, M0, rfl, rfl, h0, v1, r1, K1, M1, rfl, rfl, h1, v2, r2, K2, M2, rfl, rfl, h2, v3, r3, K3, M3, rfl, rfl, h3, v4, r4, K4, M4, rfl, rfl, h4, rfl, rfl⟩ := h
    obtain ⟨rfl, rfl⟩ := h0
    obtain ⟨rfl, rfl, t0⟩ := h1
    obtain ⟨A1, c1, e1, n1, m1, s1⟩ := (encStr.sl 9).2 h2
    cases e1
    obtain ⟨rfl, rfl, t1⟩ := h3
    obtain ⟨rfl, rfl, t2⟩ := h4
    exact ⟨A1, c1, _, rfl, by simp only [List.nil_append, List.append_nil, List.append_assoc], t0, t1, t2, n1, m1, s1⟩
theorem encAction : Enc cAction eAction where
  to := fun {w cs x L} h => by
    obtain ⟨A1, c1, L1, rfl, rfl, t0, n1, m1, s1⟩ := h
    have hh : RCs w (eAction x) _ _ := RCs.more ⟨rfl, rfl⟩ (RCs.more ⟨rfl, rfl, t0⟩ (RCs.solo ((encStr.sl 9).1 ⟨A1, c1, rfl, n1, m1, s1⟩)))
    simpa only [List.nil_append, List.append_nil, List.append_assoc] using hh
  of := fun {w cs x L} h => by
    obtain ⟨v0, r0, K0, M0, rfl, rfl, h0, v1, r1, K1, M1, rfl, rfl, h1, v2, r2, K2, M2, rfl, rfl, h2, rfl, rfl⟩ := h
    obtain ⟨rfl, rfl⟩ := h0
    obtain ⟨rfl, rfl, t0⟩ := h1
    obtain ⟨A1, c1, e1, n1, m1, s1⟩ := (encStr.sl 9).2 h2
    cases e1
    exact ⟨A1, c1, _, rfl, by simp only [List.nil_append, List.append_nil, List.append_assoc], t0, n1, m1, s1⟩
theorem encRule : Enc cRule eRule where
  to := fun {w cs x L} h => by
    obtain ⟨A1, c1, L1, A2, c2, L2, rfl, rfl, t0, n1, m1, s1, n2, m2, s2⟩ := h
    have hh : RCs w (eRule x) _ _ := RCs.more ⟨rfl, rfl, t0⟩ (RCs.more ⟨rfl, rfl⟩ (RCs.more ((encCond.sl 97).1 ⟨A1, c1, rfl, n1, m1, s1⟩) (RCs.solo ((encAction.sl 93).1 ⟨A2, c2, rfl, n2, m2, s2⟩))))
    simpa only [List.nil_append, List.append_nil, List.append_assoc] using hh
  of := fun {w cs x L} h => by
    obtain ⟨v0, r0, K0, M0, rfl, rfl, h0, v1, r1, K1, M1, rfl, rfl, h1, v2, r2, K2, M2, rfl, rfl, h2, v3, r3, K3, M3, rfl, rfl, h3, rfl, rfl⟩ := h
    obtain ⟨rfl, rfl, t0⟩ := h0
    obtain ⟨rfl, rfl⟩ := h1
    obtain ⟨A1, c1, e1, n1, m1, s1⟩ := (encCond.sl 97).2 h2
    cases e1
    obtain ⟨A2, c2, e2, n2, m2, s2⟩ := (encAction.sl 93).2 h3
    cases e2
    exact ⟨A1, c1, _, A2, c2, _, rfl, by simp only [List.nil_append, List.append_nil, List.append_assoc], t0, n1, m1, s1, n2, m2, s2⟩
end Go.Proofs.Ytppjenkjopjeiaa

namespace Go.Proofs.Ytppjenkjopjeiaa
open Go.RowKit

set_option maxHeartbeats 400000 in
theorem szStringS_any (A : Option Addr) (n c : Nat) (ds : List ByteArray) (L : List Nat) (left : Int) (w : World) (hn : n = ds.length) (hm : n ≤ 9223372036854775807) (h0 : 0 ≤ left) (h1 : left ≤ 1048576) (h : Sli strC w A ds L) :
    Calls Try.prog 123 #[.slice A n c, .int .i64 left] w (SzPost (costStrs ds) left w) := by
  have H := Lib.hid h
  have HN := Lib.hid hn
  clear h hn
  by_cases hlen : (n : Int) ≤ left
  · go_enter Try.func123, Try.ntmps123
    go_wp2
    go_loop [1, 5] (fun q i => ∃ (k : Nat) (l : Int), k ≤ n ∧ i = .int .i64 k ∧ q = .int .i64 l ∧ 0 ≤ l ∧ l ≤ left ∧ Hid (szR ((ds.drop k).map ByteArray.size).sum l = szR (costStrs ds) left)) (fun _ i => n - (intOf i).toNat)
    case atStart => exact ⟨0, left - n, Nat.zero_le _, rfl, rfl, by omega, by omega, Lib.hid (by
        have e := HN.out
        exact szR_step _ _ _ _ (by omega) (by simp [costStrs]; omega))⟩
    case round =>
      obtain ⟨k, l, hk, rfl, rfl, hl0, hl1, HE⟩ := hrel
      by_cases hlt : k < n
      · obtain ⟨b, off, cs, Lk, rfl, _, _, hrep, hc⟩ := H.out.at_ (show k < ds.length by have := HN.out; omega)
        obtain ⟨rfl, _, hss⟩ := str_rep hrep
        have hc0 := hc 0 _ rfl
        clear hc hrep
        have hd : Hid (ds.drop k = ds[k]'(by have := HN.out; omega) :: ds.drop (k + 1)) := List.drop_eq_getElem_cons _
        generalize ds[k]'(by have := HN.out; omega) = s at hc0 hd hss
        simp only [show strC.size = 1 from rfl, Nat.mul_one, Nat.add_zero] at hc0
        by_cases hs : (s.size : Int) ≤ l
        · go_wp2
          go_round
          case rel => exact ⟨k + 1, l - s.size, by omega, by go_num, rfl, by omega, by omega, Lib.hid (by rw [← HE.out, hd.out]; exact szR_step _ _ _ _ (by omega) (by simp))⟩
          case measure => simp [intOf]; omega
        · go_wp2
          go_ret
          exact ⟨ret_i (by rw [← HE.out, hd.out, szR_neg (by simp; omega)]), Below.refl _ _⟩
      · go_wp2
        go_ret
        exact ⟨ret_i (by rw [← HE.out, List.drop_of_length_le (by have := HN.out; omega)]; simp [szR, hl0]), Below.refl _ _⟩
  · go_enter Try.func123, Try.ntmps123
    go_wp2
    go_ret
    exact ⟨ret_i (by rw [szR_neg (by have := HN.out; simp [costStrs]; omega)]), Below.refl _ _⟩

set_option maxHeartbeats 400000 in
set_option maxHeartbeats 800000 in
theorem szPattern_any (cs : List Value) (x : PatternD) (L : List Nat) (left : Int) (w : World) (h0 : 0 ≤ left) (h1 : left ≤ 1048576) (h : cPattern.rep w cs x L) :
    Calls Try.prog 114 #[.agg cs.toArray, .int .i64 left] w (SzPost (costPattern x) left w) := by
  obtain ⟨A1, c1, L1, rfl, _hL, t0, n1, m1, s1⟩ := h
  unfold maxLen at m1
  have S1 := Lib.hid s1
  clear s1
  have B0 : Hid (Below w.heap.size w (w.alloc (.cells #[.string x.rel, .slice A1 x.args.length c1] 130))) := (Below.refl _ _).alloc (Nat.le_refl _) _
  have K0 : Hid (Blk (w.alloc (.cells #[.string x.rel, .slice A1 x.args.length c1] 130)) w.heap.size 130 #[.string x.rel, .slice A1 x.args.length c1]) := Blk.new _ _ _
  go_enter Try.func114, Try.ntmps114
  by_cases k1 : (x.rel.size : Int) ≤ left
  rotate_left
  · go_wp2_with fail
    go_ret
    exact ⟨ret_i (by rw [szR_neg (by simp only [costPattern]; omega)]), B0.out⟩
  go_wp2_with fail
  refine (szStringS_any A1 _ c1 x.args L1 _ _ rfl (by omega) (by omega) (by omega) (S1.out.below B0.out)).mono ?_
  rintro e w1 ⟨rfl, hb1⟩
  have B1 := Lib.hid (B0.out.trans (hb1.mono B0.out.size))
  have K1 := Lib.hid (K0.out.later hb1)
  have f0 := K1.out.at (i := 0) rfl
  have f1 := K1.out.at (i := 1) rfl
  clear hb1
  by_cases k2 : ((costStrs x.args : Nat) : Int) ≤ left - x.rel.size
  rotate_left
  · rw [szR_neg k2]
    go_wp2_with fail
    go_ret
    exact ⟨ret_i (by rw [szR_neg (by simp only [costPattern]; omega)]), B1.out⟩
  rw [szR_pos k2]
  go_wp2_with fail
  go_ret
  exact ⟨ret_i (by rw [szR_pos (by simp only [costPattern]; omega)] <;> simp only [costPattern] <;> omega), B1.out⟩

set_option maxHeartbeats 800000 in
theorem szCond_any (cs : List Value) (x : CondD) (L : List Nat) (left : Int) (w : World) (h0 : 0 ≤ left) (h1 : left ≤ 1048576) (h : cCond.rep w cs x L) :
    Calls Try.prog 87 #[.agg cs.toArray, .int .i64 left] w (SzPost (costCond x) left w) := by
  obtain ⟨A1, c1, L1, rfl, _hL, t0, t1, t2, n1, m1, s1⟩ := h
  unfold maxLen at m1
  have S1 := Lib.hid s1
  clear s1
  have B0 : Hid (Below w.heap.size w (w.alloc (.cells #[.int .i64 x.kind, .string x.pattern.rel, .slice A1 x.pattern.args.length c1, .string x.left, .string x.right] 132))) := (Below.refl _ _).alloc (Nat.le_refl _) _
  have K0 : Hid (Blk (w.alloc (.cells #[.int .i64 x.kind, .string x.pattern.rel, .slice A1 x.pattern.args.length c1, .string x.left, .string x.right] 132)) w.heap.size 132 #[.int .i64 x.kind, .string x.pattern.rel, .slice A1 x.pattern.args.length c1, .string x.left, .string x.right]) := Blk.new _ _ _
  go_enter Try.func87, Try.ntmps87
  go_wp2_with fail
  refine (szPattern_any [.string x.pattern.rel, .slice A1 x.pattern.args.length c1] x.pattern _ _ _ (by omega) (by omega) ⟨A1, c1, L1, rfl, rfl, t0, n1, (by unfold maxLen; omega), S1.out.below B0.out⟩).mono ?_
  rintro e w1 ⟨rfl, hb1⟩
  have B1 := Lib.hid (B0.out.trans (hb1.mono B0.out.size))
  have K1 := Lib.hid (K0.out.later hb1)
  have f0 := K1.out.at (i := 0) rfl
  have f1 := K1.out.at (i := 1) rfl
  have f2 := K1.out.at (i := 2) rfl
  have f3 := K1.out.at (i := 3) rfl
  have f4 := K1.out.at (i := 4) rfl
  clear hb1
  by_cases k1 : ((costPattern x.pattern : Nat) : Int) ≤ left
  rotate_left
  · rw [szR_neg k1]
    go_wp2_with fail
    go_ret
    exact ⟨ret_i (by rw [szR_neg (by simp only [costCond]; omega)]), B1.out⟩
  rw [szR_pos k1]
  by_cases k2 : (x.left.size : Int) ≤ left - (costPattern x.pattern : Nat)
  rotate_left
  · go_wp2_with fail
    go_ret
    exact ⟨ret_i (by rw [szR_neg (by simp only [costCond]; omega)]), B1.out⟩
  by_cases k3 : (x.right.size : Int) ≤ left - (costPattern x.pattern : Nat) - x.left.size
  rotate_left
  · go_wp2_with fail
    go_ret
    exact ⟨ret_i (by rw [szR_neg (by simp only [costCond]; omega)]), B1.out⟩
  go_wp2_with fail
  go_ret
  exact ⟨ret_i (by rw [szR_pos (by simp only [costCond]; omega)] <;> simp only [costCond] <;> omega), B1.out⟩

set_option maxHeartbeats 800000 in
theorem szCondS_any (A : Option Addr) (n c : Nat) (ds : List CondD) (L : List Nat) (left : Int) (w : World) (hn : n = ds.length) (hm : n ≤ 9223372036854775807) (h0 : 0 ≤ left) (h1 : left ≤ 1048576) (h : Sli cCond w A ds L) :
    Calls Try.prog 53 #[.slice A n c, .int .i64 left] w (SzPost (costCondS ds) left w) := by
  have H := Lib.hid h
  have HN := Lib.hid hn
  clear h hn
  by_cases hlen : (n : Int) ≤ left
  · go_enter Try.func53, Try.ntmps53
    go_wp2
    go_loopw [1, 5] (fun q i wr => ∃ (k : Nat) (l : Int), k ≤ n ∧ i = .int .i64 k ∧ q = .int .i64 l ∧ 0 ≤ l ∧ l ≤ left ∧ Hid (Below w.heap.size w wr) ∧ Hid (szR ((ds.drop k).map costCond).sum l = szR (costCondS ds) left)) (fun _ i _ => n - (intOf i).toNat)
    case atStart => exact ⟨0, left - n, Nat.zero_le _, rfl, rfl, by omega, by omega, Below.refl _ _, Lib.hid (by
        have e := HN.out
        exact szR_step _ _ _ _ (by omega) (by simp only [costCondS, List.drop_zero]; omega))⟩
    case round =>
      obtain ⟨k, l, hk, rfl, rfl, hl0, hl1, HB, HE⟩ := hrel
      by_cases hlt : k < n
      · have hkl : k < ds.length := by have := HN.out; omega
        obtain ⟨b, off, cs, Lk, rfl, hbL, hLk, hrep, hc⟩ := H.out.at_ hkl
        have hbl : b < w.heap.size := H.out.lt b hbL
        have HR := Lib.hid (cCond.keep hrep (keep_below HB.out (fun y m => H.out.lt y (hLk y m))))
        obtain ⟨A1, c1, rfl⟩ := cCond_cells hrep
        have q0 : wr.cell? ⟨b, off + k * 5, none⟩ = _ := (HB.out.cell (p := ⟨b, off + (k * 5 + 0), none⟩) hbl).trans (hc 0 _ rfl)
        have q1 : wr.cell? ⟨b, off + k * 5 + 1, none⟩ = _ := (HB.out.cell (p := ⟨b, off + (k * 5 + 1), none⟩) hbl).trans (hc 1 _ rfl)
        have q2 : wr.cell? ⟨b, off + k * 5 + 2, none⟩ = _ := (HB.out.cell (p := ⟨b, off + (k * 5 + 2), none⟩) hbl).trans (hc 2 _ rfl)
        have q3 : wr.cell? ⟨b, off + k * 5 + 3, none⟩ = _ := (HB.out.cell (p := ⟨b, off + (k * 5 + 3), none⟩) hbl).trans (hc 3 _ rfl)
        have q4 : wr.cell? ⟨b, off + k * 5 + 4, none⟩ = _ := (HB.out.cell (p := ⟨b, off + (k * 5 + 4), none⟩) hbl).trans (hc 4 _ rfl)
        have hd : Hid (ds.drop k = ds[k] :: ds.drop (k + 1)) := List.drop_eq_getElem_cons _
        generalize ds[k] = x at *
        clear hc hrep
        by_cases hs : (costCond x : Int) ≤ l
        · go_wp2_with (go_at_call 87; refine (szCond_any _ x Lk _ _ (by omega) (by omega) HR.out).mono ?_; rintro e w1 ⟨rfl, hb1⟩; rw [szR_pos hs]; have HB1 := Lib.hid (HB.out.trans (hb1.mono HB.out.size)); clear hb1)
          go_roundw
          case rel => exact ⟨k + 1, l - costCond x, by omega, by go_num, rfl, by omega, by omega, HB1.out, Lib.hid (by rw [← HE.out, hd.out]; exact szR_step _ _ _ _ (by omega) (by simp))⟩
          case measure => simp [intOf]; omega
        · go_wp2_with (go_at_call 87; refine (szCond_any _ x Lk _ _ (by omega) (by omega) HR.out).mono ?_; rintro e w1 ⟨rfl, hb1⟩; rw [szR_neg hs]; have HB1 := Lib.hid (HB.out.trans (hb1.mono HB.out.size)); clear hb1)
          go_ret
          exact ⟨ret_i (by rw [← HE.out, hd.out, szR_neg (by simp; omega)]), HB1.out⟩
      · go_wp2
        go_ret
        exact ⟨ret_i (by rw [← HE.out, List.drop_of_length_le (by have := HN.out; omega)]; simp [szR, hl0]), HB.out⟩
  · go_enter Try.func53, Try.ntmps53
    go_wp2
    go_ret
    exact ⟨ret_i (by rw [szR_neg (by have := HN.out; simp only [costCondS]; omega)]), Below.refl _ _⟩

set_option maxHeartbeats 800000 in
theorem szAction_any (cs : List Value) (x : ActionD) (L : List Nat) (left : Int) (w : World) (h0 : 0 ≤ left) (h1 : left ≤ 1048576) (h : cAction.rep w cs x L) :
    Calls Try.prog 88 #[.agg cs.toArray, .int .i64 left] w (SzPost (costAction x) left w) := by
  obtain ⟨A1, c1, L1, rfl, _hL, t0, n1, m1, s1⟩ := h
  unfold maxLen at m1
  have S1 := Lib.hid s1
  clear s1
  have B0 : Hid (Below w.heap.size w (w.alloc (.cells #[.int .i64 x.kind, .string x.pattern.rel, .slice A1 x.pattern.args.length c1] 135))) := (Below.refl _ _).alloc (Nat.le_refl _) _
  have K0 : Hid (Blk (w.alloc (.cells #[.int .i64 x.kind, .string x.pattern.rel, .slice A1 x.pattern.args.length c1] 135)) w.heap.size 135 #[.int .i64 x.kind, .string x.pattern.rel, .slice A1 x.pattern.args.length c1]) := Blk.new _ _ _
  go_enter Try.func88, Try.ntmps88
  go_wp2_with fail
  refine (szPattern_any [.string x.pattern.rel, .slice A1 x.pattern.args.length c1] x.pattern _ _ _ (by omega) (by omega) ⟨A1, c1, L1, rfl, rfl, t0, n1, (by unfold maxLen; omega), S1.out.below B0.out⟩).mono ?_
  rintro e w1 ⟨rfl, hb1⟩
  have B1 := Lib.hid (B0.out.trans (hb1.mono B0.out.size))
  have K1 := Lib.hid (K0.out.later hb1)
  have f0 := K1.out.at (i := 0) rfl
  have f1 := K1.out.at (i := 1) rfl
  have f2 := K1.out.at (i := 2) rfl
  clear hb1
  by_cases k1 : ((costPattern x.pattern : Nat) : Int) ≤ left
  rotate_left
  · rw [szR_neg k1]
    go_wp2_with fail
    go_ret
    exact ⟨ret_i (by rw [szR_neg (by simp only [costAction]; omega)]), B1.out⟩
  rw [szR_pos k1]
  go_wp2_with fail
  go_ret
  exact ⟨ret_i (by rw [szR_pos (by simp only [costAction]; omega)] <;> simp only [costAction] <;> omega), B1.out⟩

set_option maxHeartbeats 800000 in
theorem szActionS_any (A : Option Addr) (n c : Nat) (ds : List ActionD) (L : List Nat) (left : Int) (w : World) (hn : n = ds.length) (hm : n ≤ 9223372036854775807) (h0 : 0 ≤ left) (h1 : left ≤ 1048576) (h : Sli cAction w A ds L) :
    Calls Try.prog 54 #[.slice A n c, .int .i64 left] w (SzPost (costActionS ds) left w) := by
  have H := Lib.hid h
  have HN := Lib.hid hn
  clear h hn
  by_cases hlen : (n : Int) ≤ left
  · go_enter Try.func54, Try.ntmps54
    go_wp2
    go_loopw [1, 5] (fun q i wr => ∃ (k : Nat) (l : Int), k ≤ n ∧ i = .int .i64 k ∧ q = .int .i64 l ∧ 0 ≤ l ∧ l ≤ left ∧ Hid (Below w.heap.size w wr) ∧ Hid (szR ((ds.drop k).map costAction).sum l = szR (costActionS ds) left)) (fun _ i _ => n - (intOf i).toNat)
    case atStart => exact ⟨0, left - n, Nat.zero_le _, rfl, rfl, by omega, by omega, Below.refl _ _, Lib.hid (by
        have e := HN.out
        exact szR_step _ _ _ _ (by omega) (by simp only [costActionS, List.drop_zero]; omega))⟩
    case round =>
      obtain ⟨k, l, hk, rfl, rfl, hl0, hl1, HB, HE⟩ := hrel
      by_cases hlt : k < n
      · have hkl : k < ds.length := by have := HN.out; omega
        obtain ⟨b, off, cs, Lk, rfl, hbL, hLk, hrep, hc⟩ := H.out.at_ hkl
        have hbl : b < w.heap.size := H.out.lt b hbL
        have HR := Lib.hid (cAction.keep hrep (keep_below HB.out (fun y m => H.out.lt y (hLk y m))))
        obtain ⟨A1, c1, rfl⟩ := cAction_cells hrep
        have q0 : wr.cell? ⟨b, off + k * 3, none⟩ = _ := (HB.out.cell (p := ⟨b, off + (k * 3 + 0), none⟩) hbl).trans (hc 0 _ rfl)
        have q1 : wr.cell? ⟨b, off + k * 3 + 1, none⟩ = _ := (HB.out.cell (p := ⟨b, off + (k * 3 + 1), none⟩) hbl).trans (hc 1 _ rfl)
        have q2 : wr.cell? ⟨b, off + k * 3 + 2, none⟩ = _ := (HB.out.cell (p := ⟨b, off + (k * 3 + 2), none⟩) hbl).trans (hc 2 _ rfl)
        have hd : Hid (ds.drop k = ds[k] :: ds.drop (k + 1)) := List.drop_eq_getElem_cons _
        generalize ds[k] = x at *
        clear hc hrep
        by_cases hs : (costAction x : Int) ≤ l
        · go_wp2_with (go_at_call 88; refine (szAction_any _ x Lk _ _ (by omega) (by omega) HR.out).mono ?_; rintro e w1 ⟨rfl, hb1⟩; rw [szR_pos hs]; have HB1 := Lib.hid (HB.out.trans (hb1.mono HB.out.size)); clear hb1)
          go_roundw
          case rel => exact ⟨k + 1, l - costAction x, by omega, by go_num, rfl, by omega, by omega, HB1.out, Lib.hid (by rw [← HE.out, hd.out]; exact szR_step _ _ _ _ (by omega) (by simp))⟩
          case measure => simp [intOf]; omega
        · go_wp2_with (go_at_call 88; refine (szAction_any _ x Lk _ _ (by omega) (by omega) HR.out).mono ?_; rintro e w1 ⟨rfl, hb1⟩; rw [szR_neg hs]; have HB1 := Lib.hid (HB.out.trans (hb1.mono HB.out.size)); clear hb1)
          go_ret
          exact ⟨ret_i (by rw [← HE.out, hd.out, szR_neg (by simp; omega)]), HB1.out⟩
      · go_wp2
        go_ret
        exact ⟨ret_i (by rw [← HE.out, List.drop_of_length_le (by have := HN.out; omega)]; simp [szR, hl0]), HB.out⟩
  · go_enter Try.func54, Try.ntmps54
    go_wp2
    go_ret
    exact ⟨ret_i (by rw [szR_neg (by have := HN.out; simp only [costActionS]; omega)]), Below.refl _ _⟩

set_option maxHeartbeats 800000 in
theorem szRule_any (cs : List Value) (x : RuleD) (L : List Nat) (left : Int) (w : World) (h0 : 0 ≤ left) (h1 : left ≤ 1048576) (h : cRule.rep w cs x L) :
    Calls Try.prog 21 #[.agg cs.toArray, .int .i64 left] w (SzPost (costRule x) left w) := by
  obtain ⟨A1, c1, L1, A2, c2, L2, rfl, _hL, t0, n1, m1, s1, n2, m2, s2⟩ := h
  unfold maxLen at m1 m2
  have S1 := Lib.hid s1
  clear s1
  have S2 := Lib.hid s2
  clear s2
  have B0 : Hid (Below w.heap.size w (w.alloc (.cells #[.string x.name, .int .i64 x.priority, .slice A1 x.cond.length c1, .slice A2 x.thn.length c2] 53))) := (Below.refl _ _).alloc (Nat.le_refl _) _
  have K0 : Hid (Blk (w.alloc (.cells #[.string x.name, .int .i64 x.priority, .slice A1 x.cond.length c1, .slice A2 x.thn.length c2] 53)) w.heap.size 53 #[.string x.name, .int .i64 x.priority, .slice A1 x.cond.length c1, .slice A2 x.thn.length c2]) := Blk.new _ _ _
  go_enter Try.func21, Try.ntmps21
  by_cases k1 : (x.name.size : Int) ≤ left
  rotate_left
  · go_wp2_with fail
    go_ret
    exact ⟨ret_i (by rw [szR_neg (by simp only [costRule]; omega)]), B0.out⟩
  go_wp2_with fail
  refine (szCondS_any A1 _ c1 x.cond L1 _ _ rfl (by omega) (by omega) (by omega) (S1.out.below B0.out)).mono ?_
  rintro e w1 ⟨rfl, hb1⟩
  have B1 := Lib.hid (B0.out.trans (hb1.mono B0.out.size))
  have K1 := Lib.hid (K0.out.later hb1)
  have f0 := K1.out.at (i := 0) rfl
  have f1 := K1.out.at (i := 1) rfl
  have f2 := K1.out.at (i := 2) rfl
  have f3 := K1.out.at (i := 3) rfl
  clear hb1
  by_cases k2 : ((costCondS x.cond : Nat) : Int) ≤ left - x.name.size
  rotate_left
  · rw [szR_neg k2]
    go_wp2_with fail
    go_ret
    exact ⟨ret_i (by rw [szR_neg (by simp only [costRule]; omega)]), B1.out⟩
  rw [szR_pos k2]
  go_wp2_with fail
  refine (szActionS_any A2 _ c2 x.thn L2 _ _ rfl (by omega) (by omega) (by omega) (S2.out.below B1.out)).mono ?_
  rintro e w2 ⟨rfl, hb2⟩
  have B2 := Lib.hid (B1.out.trans (hb2.mono B1.out.size))
  have K2 := Lib.hid (K1.out.later hb2)
  clear f0 f1 f2 f3
  have f0 := K2.out.at (i := 0) rfl
  have f1 := K2.out.at (i := 1) rfl
  have f2 := K2.out.at (i := 2) rfl
  have f3 := K2.out.at (i := 3) rfl
  clear hb2
  by_cases k3 : ((costActionS x.thn : Nat) : Int) ≤ left - x.name.size - (costCondS x.cond : Nat)
  rotate_left
  · rw [szR_neg k3]
    go_wp2_with fail
    go_ret
    exact ⟨ret_i (by rw [szR_neg (by simp only [costRule]; omega)]), B2.out⟩
  rw [szR_pos k3]
  go_wp2_with fail
  go_ret
  exact ⟨ret_i (by rw [szR_pos (by simp only [costRule]; omega)] <;> simp only [costRule] <;> omega), B2.out⟩

set_option maxHeartbeats 800000 in
theorem szRuleS_any (A : Option Addr) (n c : Nat) (ds : List RuleD) (L : List Nat) (left : Int) (w : World) (hn : n = ds.length) (hm : n ≤ 9223372036854775807) (h0 : 0 ≤ left) (h1 : left ≤ 1048576) (h : Sli cRule w A ds L) :
    Calls Try.prog 5 #[.slice A n c, .int .i64 left] w (SzPost (costRuleS ds) left w) := by
  have H := Lib.hid h
  have HN := Lib.hid hn
  clear h hn
  by_cases hlen : (n : Int) ≤ left
  · go_enter Try.func5, Try.ntmps5
    go_wp2
    go_loopw [1, 5] (fun q i wr => ∃ (k : Nat) (l : Int), k ≤ n ∧ i = .int .i64 k ∧ q = .int .i64 l ∧ 0 ≤ l ∧ l ≤ left ∧ Hid (Below w.heap.size w wr) ∧ Hid (szR ((ds.drop k).map costRule).sum l = szR (costRuleS ds) left)) (fun _ i _ => n - (intOf i).toNat)
    case atStart => exact ⟨0, left - n, Nat.zero_le _, rfl, rfl, by omega, by omega, Below.refl _ _, Lib.hid (by
        have e := HN.out
        exact szR_step _ _ _ _ (by omega) (by simp only [costRuleS, List.drop_zero]; omega))⟩
    case round =>
      obtain ⟨k, l, hk, rfl, rfl, hl0, hl1, HB, HE⟩ := hrel
      by_cases hlt : k < n
      · have hkl : k < ds.length := by have := HN.out; omega
        obtain ⟨b, off, cs, Lk, rfl, hbL, hLk, hrep, hc⟩ := H.out.at_ hkl
        have hbl : b < w.heap.size := H.out.lt b hbL
        have HR := Lib.hid (cRule.keep hrep (keep_below HB.out (fun y m => H.out.lt y (hLk y m))))
        obtain ⟨A1, c1, A2, c2, rfl⟩ := cRule_cells hrep
        have q0 : wr.cell? ⟨b, off + k * 4, none⟩ = _ := (HB.out.cell (p := ⟨b, off + (k * 4 + 0), none⟩) hbl).trans (hc 0 _ rfl)
        have q1 : wr.cell? ⟨b, off + k * 4 + 1, none⟩ = _ := (HB.out.cell (p := ⟨b, off + (k * 4 + 1), none⟩) hbl).trans (hc 1 _ rfl)
        have q2 : wr.cell? ⟨b, off + k * 4 + 2, none⟩ = _ := (HB.out.cell (p := ⟨b, off + (k * 4 + 2), none⟩) hbl).trans (hc 2 _ rfl)
        have q3 : wr.cell? ⟨b, off + k * 4 + 3, none⟩ = _ := (HB.out.cell (p := ⟨b, off + (k * 4 + 3), none⟩) hbl).trans (hc 3 _ rfl)
        have hd : Hid (ds.drop k = ds[k] :: ds.drop (k + 1)) := List.drop_eq_getElem_cons _
        generalize ds[k] = x at *
        clear hc hrep
        by_cases hs : (costRule x : Int) ≤ l
        · go_wp2_with (go_at_call 21; refine (szRule_any _ x Lk _ _ (by omega) (by omega) HR.out).mono ?_; rintro e w1 ⟨rfl, hb1⟩; rw [szR_pos hs]; have HB1 := Lib.hid (HB.out.trans (hb1.mono HB.out.size)); clear hb1)
          go_roundw
          case rel => exact ⟨k + 1, l - costRule x, by omega, by go_num, rfl, by omega, by omega, HB1.out, Lib.hid (by rw [← HE.out, hd.out]; exact szR_step _ _ _ _ (by omega) (by simp))⟩
          case measure => simp [intOf]; omega
        · go_wp2_with (go_at_call 21; refine (szRule_any _ x Lk _ _ (by omega) (by omega) HR.out).mono ?_; rintro e w1 ⟨rfl, hb1⟩; rw [szR_neg hs]; have HB1 := Lib.hid (HB.out.trans (hb1.mono HB.out.size)); clear hb1)
          go_ret
          exact ⟨ret_i (by rw [← HE.out, hd.out, szR_neg (by simp; omega)]), HB1.out⟩
      · go_wp2
        go_ret
        exact ⟨ret_i (by rw [← HE.out, List.drop_of_length_le (by have := HN.out; omega)]; simp [szR, hl0]), HB.out⟩
  · go_enter Try.func5, Try.ntmps5
    go_wp2
    go_ret
    exact ⟨ret_i (by rw [szR_neg (by have := HN.out; simp only [costRuleS]; omega)]), Below.refl _ _⟩

end Go.Proofs.Ytppjenkjopjeiaa

namespace Go.Proofs.Ytppjenkjopjeiaa
open Go.RowKit

theorem Try.infoString_ : (Try.prog.info? 9).map (fun i => (i.zero, i.size, i.bytes)) = some (some (.string ⟨#[]⟩), 1, 16) := by kernel_rfl
set_option maxHeartbeats 1600000 in
theorem toStringS_any (A : Option Addr) (n c : Nat) (ds : List ByteArray) (L : List Nat) (w : World) (hn : n = ds.length) (hm : ds.length ≤ 1099511627776) (h : Sli strC w A ds L) :
    Calls Try.prog 124 #[.slice A n c] w (GivesS strC 9 w ds) := by
  obtain ⟨i0, hi, hz0, hz1, hz2⟩ := info_parts Try.infoString_
  rw [← hn] at hm
  have H := Lib.hid h
  have HN := Lib.hid hn
  clear h hn
  go_enter Try.func124, Try.ntmps124
  go_wp2_with (at_make; refine wpList_make_full _ rfl _ _ 54 rfl w.heap.size 9 i0 _ 1 Try.underlying54 hi hz0 hz1 .i64 .i64 _ _ n rfl rfl rfl rfl (by rw [hz2]; omega) (by unfold maxLen; omega) (Nat.le_refl _) ?_; intro w1 hown hg)
  have hb : Below w.heap.size w w1 := (Below.refl _ _).grown hg (Nat.le_refl _) (by simp)
  have HF0 : Hid (Filling strC 9 w n ds 0 w1) := Filling.start hown hb
  clear hown hg hb
  go_wp2
  go_loopw [4] (fun i wr => ∃ (k : Nat), k ≤ n ∧ i = .int .i64 k ∧ Hid (Filling strC 9 w n ds k wr)) (fun i _ => n - (intOf i).toNat)
  case atStart => exact ⟨0, Nat.zero_le _, rfl, HF0⟩
  case round =>
    obtain ⟨k, hk, rfl, HF⟩ := hrel
    by_cases hlt : k < n
    · have hkl : k < ds.length := by have := HN.out; omega
      obtain ⟨b, off, cs, Lk, rfl, hbL, hLk, hrep, hc⟩ := H.out.at_ hkl
      have hbl : b < w.heap.size := H.out.lt b hbL
      have hrep0 := hrep
      obtain ⟨rfl, _, hss⟩ := hrep0
      have q0 := (HF.out.below.cell (p := ⟨b, off + (k * strC.size + 0), none⟩) hbl).trans (hc 0 _ rfl)
      have HS := Lib.hid (HF.out.store (w2 := wr) (x := ds[k]) (M := []) hlt HN.out (fun _ => rfl) (Below.refl _ _) ⟨⟨rfl, rfl, hss⟩, Own.nil _ _⟩)
      obtain ⟨d0, e0⟩ := HF.out.cell hlt (j := 0) (by decide)
      have z0 := HF.out.frozen k
      simp only [show strC.size = 1 from rfl, Nat.mul_one, Nat.add_zero] at q0 HS e0
      generalize ds[k] = x at *
      clear hc hrep
      go_wp2_with fail
      go_roundw
      case rel => exact ⟨k + 1, by omega, by go_num, HS.out⟩
      case measure => simp [intOf]; omega
    · obtain rfl : k = n := by omega
      go_wp2
      go_ret
      exact ⟨_, rfl, HF.out.done HN.out⟩

set_option maxHeartbeats 1600000 in
theorem toPattern_any (cs : List Value) (x : PatternD) (L : List Nat) (w : World) (hz : costPattern x ≤ 1048576) (h : cPattern.rep w cs x L) :
    Calls Try.prog 116 #[.agg cs.toArray] w (Gives cPattern w x) := by
  obtain ⟨A1, c1, L1, rfl, _hL, t0, n1, m1, s1⟩ := h
  unfold maxLen at m1
  have S1 := Lib.hid s1
  clear s1
  simp only [costPattern] at hz
  go_enter Try.func116, Try.ntmps116
  go_wp2_with fail
  refine (toStringS_any A1 _ c1 x.args L1 _ rfl (by simp only [costStrs] at hz; omega) (S1.out.below (by repeat (first | refine Below.setCell ?_ (by dsimp only; omega) _ | refine Below.alloc ?_ (by first | (simp; done) | (simp; omega) | omega) _ | exact Below.refl _ _)))).mono ?_
  rintro e w1 ⟨v1, rfl, a1⟩
  obtain ⟨vA1, vc1, rfl⟩ := a1.shape
  have hb1 := a1.below
  obtain ⟨M1, g1⟩ := a1.got
  clear a1
  have G1 := Lib.hid (g1.mono (show w.heap.size + 3 ≤ _ by simp))
  have lt1 := Lib.hid g1.lt
  clear g1
  have B1 : Hid (Below w.heap.size w w1) := Below.trans (by repeat (first | refine Below.setCell ?_ (by dsimp only; omega) _ | refine Below.alloc ?_ (by first | (simp; done) | (simp; omega) | omega) _ | exact Below.refl _ _)) (hb1.mono (by first | (simp; done) | (simp; omega) | omega))
  have K0 : Hid (Blk w1 w.heap.size 130 #[.string x.rel, .slice A1 x.args.length c1]) := Blk.later (Blk.alloc (Blk.alloc (Blk.new _ _ _) _) _) hb1
  have K1 : Hid (Blk w1 (w.heap.size + 1) 91 #[.string ⟨#[]⟩, .slice none 0 0]) := Blk.later (Blk.alloc (Blk.new_at (by simp)) _) hb1
  have K2 : Hid (Blk w1 (w.heap.size + 1 + 1) 91 #[.string x.rel, .slice none 0 0]) := Blk.later (Blk.new_at (by simp)) hb1
  have f0 := K0.out.at (i := 0) rfl
  have r0 := K1.out.at (i := 0) rfl
  have o0 := K2.out.at (i := 0) rfl
  have rz0 := K1.out.frozen 0
  have oz0 := K2.out.frozen 0
  have f1 := K0.out.at (i := 1) rfl
  have r1 := K1.out.at (i := 1) rfl
  have o1 := K2.out.at (i := 1) rfl
  have rz1 := K1.out.frozen 1
  have oz1 := K2.out.frozen 1
  have hz1 : w.heap.size + 2 < w1.heap.size := by have := hb1.size; simp at this; omega
  clear hb1
  go_wp2_with fail
  refine bodyPost_ret (v := .agg #[.string x.rel, .slice vA1 x.args.length vc1]) (by simp [results, Try.results116, go_sem, r0, r1]) rfl ?_
  obtain ⟨nn1, mm1, ss1⟩ := sliceC_out G1.out.rep
  exact gives_of (wr := w1) (M1) ⟨⟨vA1, vc1, M1, rfl, rfl, t0, nn1, mm1, ss1⟩, by have o := G1.out.own; simpa only [List.append_assoc] using o⟩ (by intro b hb; repeat rw [Below.heap_setCell _ _ _ _ (by dsimp only; omega)]) (by repeat (first | refine Below.setCell ?_ (by dsimp only; omega) _ | refine Below.alloc ?_ (by first | (simp; done) | (simp; omega) | omega) _ | exact B1.out))

set_option maxHeartbeats 1600000 in
theorem toCond_any (cs : List Value) (x : CondD) (L : List Nat) (w : World) (hz : costCond x ≤ 1048576) (h : cCond.rep w cs x L) :
    Calls Try.prog 91 #[.agg cs.toArray] w (Gives cCond w x) := by
  obtain ⟨A1, c1, L1, rfl, _hL, t0, t1, t2, n1, m1, s1⟩ := h
  unfold maxLen at m1
  have S1 := Lib.hid s1
  clear s1
  simp only [costCond] at hz
  go_enter Try.func91, Try.ntmps91
  go_wp2_with fail
  refine (toPattern_any [.string x.pattern.rel, .slice A1 x.pattern.args.length c1] x.pattern _ _ (by omega) ⟨A1, c1, L1, rfl, rfl, t0, n1, (by unfold maxLen; omega), S1.out.below (by repeat (first | refine Below.setCell ?_ (by dsimp only; omega) _ | refine Below.alloc ?_ (by first | (simp; done) | (simp; omega) | omega) _ | exact Below.refl _ _))⟩).mono ?_
  rintro e w1 ⟨cs1, M1, rfl, g1, hb1⟩
  obtain ⟨vA1, vc1, rfl⟩ := cPattern_cells g1.rep
  have G1 := Lib.hid (g1.mono (show w.heap.size + 3 ≤ _ by simp))
  have lt1 := Lib.hid g1.lt
  clear g1
  have B1 : Hid (Below w.heap.size w w1) := Below.trans (by repeat (first | refine Below.setCell ?_ (by dsimp only; omega) _ | refine Below.alloc ?_ (by first | (simp; done) | (simp; omega) | omega) _ | exact Below.refl _ _)) (hb1.mono (by first | (simp; done) | (simp; omega) | omega))
  have K0 : Hid (Blk w1 w.heap.size 132 #[.int .i64 x.kind, .string x.pattern.rel, .slice A1 x.pattern.args.length c1, .string x.left, .string x.right]) := Blk.later (Blk.alloc (Blk.alloc (Blk.new _ _ _) _) _) hb1
  have K1 : Hid (Blk w1 (w.heap.size + 1) 97 #[.int .i64 0, .string ⟨#[]⟩, .slice none 0 0, .string ⟨#[]⟩, .string ⟨#[]⟩]) := Blk.later (Blk.alloc (Blk.new_at (by simp)) _) hb1
  have K2 : Hid (Blk w1 (w.heap.size + 1 + 1) 97 #[.int .i64 x.kind, .string ⟨#[]⟩, .slice none 0 0, .string ⟨#[]⟩, .string ⟨#[]⟩]) := Blk.later (Blk.new_at (by simp)) hb1
  have f0 := K0.out.at (i := 0) rfl
  have r0 := K1.out.at (i := 0) rfl
  have o0 := K2.out.at (i := 0) rfl
  have rz0 := K1.out.frozen 0
  have oz0 := K2.out.frozen 0
  have f1 := K0.out.at (i := 1) rfl
  have r1 := K1.out.at (i := 1) rfl
  have o1 := K2.out.at (i := 1) rfl
  have rz1 := K1.out.frozen 1
  have oz1 := K2.out.frozen 1
  have f2 := K0.out.at (i := 2) rfl
  have r2 := K1.out.at (i := 2) rfl
  have o2 := K2.out.at (i := 2) rfl
  have rz2 := K1.out.frozen 2
  have oz2 := K2.out.frozen 2
  have f3 := K0.out.at (i := 3) rfl
  have r3 := K1.out.at (i := 3) rfl
  have o3 := K2.out.at (i := 3) rfl
  have rz3 := K1.out.frozen 3
  have oz3 := K2.out.frozen 3
  have f4 := K0.out.at (i := 4) rfl
  have r4 := K1.out.at (i := 4) rfl
  have o4 := K2.out.at (i := 4) rfl
  have rz4 := K1.out.frozen 4
  have oz4 := K2.out.frozen 4
  have hz1 : w.heap.size + 2 < w1.heap.size := by have := hb1.size; simp at this; omega
  clear hb1
  go_wp2_with fail
  refine bodyPost_ret (v := .agg #[.int .i64 x.kind, .string x.pattern.rel, .slice vA1 x.pattern.args.length vc1, .string x.left, .string x.right]) (by simp [results, Try.results91, go_sem, r0, r1, r2, r3, r4]) rfl ?_
  obtain ⟨_, _, N1, hcs1, hL1, _, nn1, mm1, ss1⟩ := G1.out.rep
  cases hcs1
  subst hL1
  exact gives_of (wr := w1) (M1) ⟨⟨vA1, vc1, M1, rfl, rfl, t0, t1, t2, nn1, mm1, ss1⟩, by have o := G1.out.own; simpa only [List.append_assoc] using o⟩ (by intro b hb; repeat rw [Below.heap_setCell _ _ _ _ (by dsimp only; omega)]) (by repeat (first | refine Below.setCell ?_ (by dsimp only; omega) _ | refine Below.alloc ?_ (by first | (simp; done) | (simp; omega) | omega) _ | exact B1.out))

theorem Try.infoCond : (Try.prog.info? 97).map (fun i => (i.zero, i.size, i.bytes)) = some (some (.agg #[.int .i64 0, .string ⟨#[]⟩, .slice none 0 0, .string ⟨#[]⟩, .string ⟨#[]⟩]), 5, 80) := by kernel_rfl
set_option maxHeartbeats 1600000 in
theorem toCondS_any (A : Option Addr) (n c : Nat) (ds : List CondD) (L : List Nat) (w : World) (hn : n = ds.length) (hz : costCondS ds ≤ 1048576) (h : Sli cCond w A ds L) :
    Calls Try.prog 60 #[.slice A n c] w (GivesS cCond 97 w ds) := by
  obtain ⟨i0, hi, hz0, hz1, hz2⟩ := info_parts Try.infoCond
  have H := Lib.hid h
  have HN := Lib.hid hn
  have hm : n ≤ 1048576 := by simp only [costCondS] at hz; omega
  have HZ := Lib.hid hz
  clear h hn hz
  go_enter Try.func60, Try.ntmps60
  go_wp2_with (at_make; refine wpList_make_full _ rfl _ _ 56 rfl w.heap.size 97 i0 _ 5 Try.underlying56 hi hz0 hz1 .i64 .i64 _ _ n rfl rfl rfl rfl (by rw [hz2]; omega) (by unfold maxLen; omega) (Nat.le_refl _) ?_; intro w1 hown hg)
  have hb : Below w.heap.size w w1 := (Below.refl _ _).grown hg (Nat.le_refl _) (by simp)
  have HF0 : Hid (Filling cCond 97 w n ds 0 w1) := Filling.start hown hb
  clear hown hg hb
  go_wp2
  go_loopw [4] (fun i wr => ∃ (k : Nat), k ≤ n ∧ i = .int .i64 k ∧ Hid (Filling cCond 97 w n ds k wr)) (fun i _ => n - (intOf i).toNat)
  case atStart => exact ⟨0, Nat.zero_le _, rfl, HF0⟩
  case round =>
    obtain ⟨k, hk, rfl, HF⟩ := hrel
    by_cases hlt : k < n
    · have hkl : k < ds.length := by have := HN.out; omega
      obtain ⟨b, off, cs, Lk, rfl, hbL, hLk, hrep, hc⟩ := H.out.at_ hkl
      have hbl : b < w.heap.size := H.out.lt b hbL
      have HR := Lib.hid (cCond.keep hrep (keep_below HF.out.below (fun y m => H.out.lt y (hLk y m))))
      obtain ⟨A1, c1, rfl⟩ := cCond_cells hrep
      have q0 : wr.cell? ⟨b, off + k * 5, none⟩ = _ := (HF.out.below.cell (p := ⟨b, off + (k * 5 + 0), none⟩) hbl).trans (hc 0 _ rfl)
      have q1 : wr.cell? ⟨b, off + k * 5 + 1, none⟩ = _ := (HF.out.below.cell (p := ⟨b, off + (k * 5 + 1), none⟩) hbl).trans (hc 1 _ rfl)
      have q2 : wr.cell? ⟨b, off + k * 5 + 2, none⟩ = _ := (HF.out.below.cell (p := ⟨b, off + (k * 5 + 2), none⟩) hbl).trans (hc 2 _ rfl)
      have q3 : wr.cell? ⟨b, off + k * 5 + 3, none⟩ = _ := (HF.out.below.cell (p := ⟨b, off + (k * 5 + 3), none⟩) hbl).trans (hc 3 _ rfl)
      have q4 : wr.cell? ⟨b, off + k * 5 + 4, none⟩ = _ := (HF.out.below.cell (p := ⟨b, off + (k * 5 + 4), none⟩) hbl).trans (hc 4 _ rfl)
      have hcx : Hid (costCond ds[k] ≤ 1048576) := cost_le costCond ds k hkl (by have := HZ.out; simp only [costCondS] at this; omega)
      obtain ⟨x, hx⟩ : ∃ x, x = ds[k] := ⟨_, rfl⟩
      have HX := Lib.hid hx
      rw [← hx] at HR q0 q1 q2 q3 q4 hcx
      clear hc hrep hx
      go_wp2_with fail
      refine (toCond_any _ x Lk _ hcx.out HR.out).mono ?_
      rintro e w2 ⟨cs2, M2, rfl, g2, hb2⟩
      have HF2 := Lib.hid (HF.out.later hb2)
      have HS := Lib.hid (HF.out.store hlt HN.out (fun _ => HX.out) hb2 g2)
      obtain ⟨vA1, vc1, rfl⟩ := cCond_cells g2.rep
      clear g2 hb2
      obtain ⟨d0, e0⟩ : ∃ d, w2.cell? ⟨w.heap.size, k * 5, none⟩ = some d := HF2.out.cell hlt (j := 0) (by decide)
      have z0 := HF2.out.frozen (k * 5)
      obtain ⟨d1, e1⟩ : ∃ d, w2.cell? ⟨w.heap.size, k * 5 + 1, none⟩ = some d := HF2.out.cell hlt (j := 1) (by decide)
      have z1 := HF2.out.frozen (k * 5 + 1)
      obtain ⟨d2, e2⟩ : ∃ d, w2.cell? ⟨w.heap.size, k * 5 + 2, none⟩ = some d := HF2.out.cell hlt (j := 2) (by decide)
      have z2 := HF2.out.frozen (k * 5 + 2)
      obtain ⟨d3, e3⟩ : ∃ d, w2.cell? ⟨w.heap.size, k * 5 + 3, none⟩ = some d := HF2.out.cell hlt (j := 3) (by decide)
      have z3 := HF2.out.frozen (k * 5 + 3)
      obtain ⟨d4, e4⟩ : ∃ d, w2.cell? ⟨w.heap.size, k * 5 + 4, none⟩ = some d := HF2.out.cell hlt (j := 4) (by decide)
      have z4 := HF2.out.frozen (k * 5 + 4)
      go_wp2_with fail
      go_roundw
      case rel => exact ⟨k + 1, by omega, by go_num, HS.out⟩
      case measure => simp [intOf]; omega
    · obtain rfl : k = n := by omega
      go_wp2
      go_ret
      exact ⟨_, rfl, HF.out.done HN.out⟩

set_option maxHeartbeats 1600000 in
theorem toAction_any (cs : List Value) (x : ActionD) (L : List Nat) (w : World) (hz : costAction x ≤ 1048576) (h : cAction.rep w cs x L) :
    Calls Try.prog 92 #[.agg cs.toArray] w (Gives cAction w x) := by
  obtain ⟨A1, c1, L1, rfl, _hL, t0, n1, m1, s1⟩ := h
  unfold maxLen at m1
  have S1 := Lib.hid s1
  clear s1
  simp only [costAction] at hz
  go_enter Try.func92, Try.ntmps92
  go_wp2_with fail
  refine (toPattern_any [.string x.pattern.rel, .slice A1 x.pattern.args.length c1] x.pattern _ _ (by omega) ⟨A1, c1, L1, rfl, rfl, t0, n1, (by unfold maxLen; omega), S1.out.below (by repeat (first | refine Below.setCell ?_ (by dsimp only; omega) _ | refine Below.alloc ?_ (by first | (simp; done) | (simp; omega) | omega) _ | exact Below.refl _ _))⟩).mono ?_
  rintro e w1 ⟨cs1, M1, rfl, g1, hb1⟩
  obtain ⟨vA1, vc1, rfl⟩ := cPattern_cells g1.rep
  have G1 := Lib.hid (g1.mono (show w.heap.size + 3 ≤ _ by simp))
  have lt1 := Lib.hid g1.lt
  clear g1
  have B1 : Hid (Below w.heap.size w w1) := Below.trans (by repeat (first | refine Below.setCell ?_ (by dsimp only; omega) _ | refine Below.alloc ?_ (by first | (simp; done) | (simp; omega) | omega) _ | exact Below.refl _ _)) (hb1.mono (by first | (simp; done) | (simp; omega) | omega))
  have K0 : Hid (Blk w1 w.heap.size 135 #[.int .i64 x.kind, .string x.pattern.rel, .slice A1 x.pattern.args.length c1]) := Blk.later (Blk.alloc (Blk.alloc (Blk.new _ _ _) _) _) hb1
  have K1 : Hid (Blk w1 (w.heap.size + 1) 93 #[.int .i64 0, .string ⟨#[]⟩, .slice none 0 0]) := Blk.later (Blk.alloc (Blk.new_at (by simp)) _) hb1
  have K2 : Hid (Blk w1 (w.heap.size + 1 + 1) 93 #[.int .i64 x.kind, .string ⟨#[]⟩, .slice none 0 0]) := Blk.later (Blk.new_at (by simp)) hb1
  have f0 := K0.out.at (i := 0) rfl
  have r0 := K1.out.at (i := 0) rfl
  have o0 := K2.out.at (i := 0) rfl
  have rz0 := K1.out.frozen 0
  have oz0 := K2.out.frozen 0
  have f1 := K0.out.at (i := 1) rfl
  have r1 := K1.out.at (i := 1) rfl
  have o1 := K2.out.at (i := 1) rfl
  have rz1 := K1.out.frozen 1
  have oz1 := K2.out.frozen 1
  have f2 := K0.out.at (i := 2) rfl
  have r2 := K1.out.at (i := 2) rfl
  have o2 := K2.out.at (i := 2) rfl
  have rz2 := K1.out.frozen 2
  have oz2 := K2.out.frozen 2
  have hz1 : w.heap.size + 2 < w1.heap.size := by have := hb1.size; simp at this; omega
  clear hb1
  go_wp2_with fail
  refine bodyPost_ret (v := .agg #[.int .i64 x.kind, .string x.pattern.rel, .slice vA1 x.pattern.args.length vc1]) (by simp [results, Try.results92, go_sem, r0, r1, r2]) rfl ?_
  obtain ⟨_, _, N1, hcs1, hL1, _, nn1, mm1, ss1⟩ := G1.out.rep
  cases hcs1
  subst hL1
  exact gives_of (wr := w1) (M1) ⟨⟨vA1, vc1, M1, rfl, rfl, t0, nn1, mm1, ss1⟩, by have o := G1.out.own; simpa only [List.append_assoc] using o⟩ (by intro b hb; repeat rw [Below.heap_setCell _ _ _ _ (by dsimp only; omega)]) (by repeat (first | refine Below.setCell ?_ (by dsimp only; omega) _ | refine Below.alloc ?_ (by first | (simp; done) | (simp; omega) | omega) _ | exact B1.out))

theorem Try.infoAction : (Try.prog.info? 93).map (fun i => (i.zero, i.size, i.bytes)) = some (some (.agg #[.int .i64 0, .string ⟨#[]⟩, .slice none 0 0]), 3, 48) := by kernel_rfl
set_option maxHeartbeats 1600000 in
theorem toActionS_any (A : Option Addr) (n c : Nat) (ds : List ActionD) (L : List Nat) (w : World) (hn : n = ds.length) (hz : costActionS ds ≤ 1048576) (h : Sli cAction w A ds L) :
    Calls Try.prog 61 #[.slice A n c] w (GivesS cAction 93 w ds) := by
  obtain ⟨i0, hi, hz0, hz1, hz2⟩ := info_parts Try.infoAction
  have H := Lib.hid h
  have HN := Lib.hid hn
  have hm : n ≤ 1048576 := by simp only [costActionS] at hz; omega
  have HZ := Lib.hid hz
  clear h hn hz
  go_enter Try.func61, Try.ntmps61
  go_wp2_with (at_make; refine wpList_make_full _ rfl _ _ 57 rfl w.heap.size 93 i0 _ 3 Try.underlying57 hi hz0 hz1 .i64 .i64 _ _ n rfl rfl rfl rfl (by rw [hz2]; omega) (by unfold maxLen; omega) (Nat.le_refl _) ?_; intro w1 hown hg)
  have hb : Below w.heap.size w w1 := (Below.refl _ _).grown hg (Nat.le_refl _) (by simp)
  have HF0 : Hid (Filling cAction 93 w n ds 0 w1) := Filling.start hown hb
  clear hown hg hb
  go_wp2
  go_loopw [4] (fun i wr => ∃ (k : Nat), k ≤ n ∧ i = .int .i64 k ∧ Hid (Filling cAction 93 w n ds k wr)) (fun i _ => n - (intOf i).toNat)
  case atStart => exact ⟨0, Nat.zero_le _, rfl, HF0⟩
  case round =>
    obtain ⟨k, hk, rfl, HF⟩ := hrel
    by_cases hlt : k < n
    · have hkl : k < ds.length := by have := HN.out; omega
      obtain ⟨b, off, cs, Lk, rfl, hbL, hLk, hrep, hc⟩ := H.out.at_ hkl
      have hbl : b < w.heap.size := H.out.lt b hbL
      have HR := Lib.hid (cAction.keep hrep (keep_below HF.out.below (fun y m => H.out.lt y (hLk y m))))
      obtain ⟨A1, c1, rfl⟩ := cAction_cells hrep
      have q0 : wr.cell? ⟨b, off + k * 3, none⟩ = _ := (HF.out.below.cell (p := ⟨b, off + (k * 3 + 0), none⟩) hbl).trans (hc 0 _ rfl)
      have q1 : wr.cell? ⟨b, off + k * 3 + 1, none⟩ = _ := (HF.out.below.cell (p := ⟨b, off + (k * 3 + 1), none⟩) hbl).trans (hc 1 _ rfl)
      have q2 : wr.cell? ⟨b, off + k * 3 + 2, none⟩ = _ := (HF.out.below.cell (p := ⟨b, off + (k * 3 + 2), none⟩) hbl).trans (hc 2 _ rfl)
      have hcx : Hid (costAction ds[k] ≤ 1048576) := cost_le costAction ds k hkl (by have := HZ.out; simp only [costActionS] at this; omega)
      obtain ⟨x, hx⟩ : ∃ x, x = ds[k] := ⟨_, rfl⟩
      have HX := Lib.hid hx
      rw [← hx] at HR q0 q1 q2 hcx
      clear hc hrep hx
      go_wp2_with fail
      refine (toAction_any _ x Lk _ hcx.out HR.out).mono ?_
      rintro e w2 ⟨cs2, M2, rfl, g2, hb2⟩
      have HF2 := Lib.hid (HF.out.later hb2)
      have HS := Lib.hid (HF.out.store hlt HN.out (fun _ => HX.out) hb2 g2)
      obtain ⟨vA1, vc1, rfl⟩ := cAction_cells g2.rep
      clear g2 hb2
      obtain ⟨d0, e0⟩ : ∃ d, w2.cell? ⟨w.heap.size, k * 3, none⟩ = some d := HF2.out.cell hlt (j := 0) (by decide)
      have z0 := HF2.out.frozen (k * 3)
      obtain ⟨d1, e1⟩ : ∃ d, w2.cell? ⟨w.heap.size, k * 3 + 1, none⟩ = some d := HF2.out.cell hlt (j := 1) (by decide)
      have z1 := HF2.out.frozen (k * 3 + 1)
      obtain ⟨d2, e2⟩ : ∃ d, w2.cell? ⟨w.heap.size, k * 3 + 2, none⟩ = some d := HF2.out.cell hlt (j := 2) (by decide)
      have z2 := HF2.out.frozen (k * 3 + 2)
      go_wp2_with fail
      go_roundw
      case rel => exact ⟨k + 1, by omega, by go_num, HS.out⟩
      case measure => simp [intOf]; omega
    · obtain rfl : k = n := by omega
      go_wp2
      go_ret
      exact ⟨_, rfl, HF.out.done HN.out⟩

set_option maxHeartbeats 1600000 in
theorem toRule_any (cs : List Value) (x : RuleD) (L : List Nat) (w : World) (hz : costRule x ≤ 1048576) (h : cRule.rep w cs x L) :
    Calls Try.prog 25 #[.agg cs.toArray] w (Gives cRule w x) := by
  obtain ⟨A1, c1, L1, A2, c2, L2, rfl, _hL, t0, n1, m1, s1, n2, m2, s2⟩ := h
  unfold maxLen at m1 m2
  have S1 := Lib.hid s1
  clear s1
  have S2 := Lib.hid s2
  clear s2
  simp only [costRule] at hz
  go_enter Try.func25, Try.ntmps25
  go_wp2_with fail
  refine (toCondS_any A1 _ c1 x.cond L1 _ rfl (by omega) (S1.out.below (by repeat (first | refine Below.setCell ?_ (by dsimp only; omega) _ | refine Below.alloc ?_ (by first | (simp; done) | (simp; omega) | omega) _ | exact Below.refl _ _)))).mono ?_
  rintro e w1 ⟨v1, rfl, a1⟩
  obtain ⟨vA1, vc1, rfl⟩ := a1.shape
  have hb1 := a1.below
  obtain ⟨M1, g1⟩ := a1.got
  clear a1
  have G1 := Lib.hid (g1.mono (show w.heap.size + 3 ≤ _ by simp))
  have lt1 := Lib.hid g1.lt
  clear g1
  have B1 : Hid (Below w.heap.size w w1) := Below.trans (by repeat (first | refine Below.setCell ?_ (by dsimp only; omega) _ | refine Below.alloc ?_ (by first | (simp; done) | (simp; omega) | omega) _ | exact Below.refl _ _)) (hb1.mono (by first | (simp; done) | (simp; omega) | omega))
  have K0 : Hid (Blk w1 w.heap.size 53 #[.string x.name, .int .i64 x.priority, .slice A1 x.cond.length c1, .slice A2 x.thn.length c2]) := Blk.later (Blk.alloc (Blk.alloc (Blk.new _ _ _) _) _) hb1
  have K1 : Hid (Blk w1 (w.heap.size + 1) 59 #[.string ⟨#[]⟩, .int .i64 0, .slice none 0 0, .slice none 0 0]) := Blk.later (Blk.alloc (Blk.new_at (by simp)) _) hb1
  have K2 : Hid (Blk w1 (w.heap.size + 1 + 1) 59 #[.string x.name, .int .i64 x.priority, .slice none 0 0, .slice none 0 0]) := Blk.later (Blk.new_at (by simp)) hb1
  have f0 := K0.out.at (i := 0) rfl
  have r0 := K1.out.at (i := 0) rfl
  have o0 := K2.out.at (i := 0) rfl
  have rz0 := K1.out.frozen 0
  have oz0 := K2.out.frozen 0
  have f1 := K0.out.at (i := 1) rfl
  have r1 := K1.out.at (i := 1) rfl
  have o1 := K2.out.at (i := 1) rfl
  have rz1 := K1.out.frozen 1
  have oz1 := K2.out.frozen 1
  have f2 := K0.out.at (i := 2) rfl
  have r2 := K1.out.at (i := 2) rfl
  have o2 := K2.out.at (i := 2) rfl
  have rz2 := K1.out.frozen 2
  have oz2 := K2.out.frozen 2
  have f3 := K0.out.at (i := 3) rfl
  have r3 := K1.out.at (i := 3) rfl
  have o3 := K2.out.at (i := 3) rfl
  have rz3 := K1.out.frozen 3
  have oz3 := K2.out.frozen 3
  have hz1 : w.heap.size + 2 < w1.heap.size := by have := hb1.size; simp at this; omega
  clear hb1
  go_wp2_with fail
  refine (toActionS_any A2 _ c2 x.thn L2 _ rfl (by omega) (S2.out.below (by repeat (first | refine Below.setCell ?_ (by dsimp only; omega) _ | refine Below.alloc ?_ (by first | (simp; done) | (simp; omega) | omega) _ | exact B1.out)))).mono ?_
  rintro e w2 ⟨v2, rfl, a2⟩
  obtain ⟨vA2, vc2, rfl⟩ := a2.shape
  have hb2 := a2.below
  obtain ⟨M2, g2⟩ := a2.got
  clear a2
  have G2 := Lib.hid (g2.mono (show w1.heap.size ≤ _ by simp))
  have lt2 := Lib.hid g2.lt
  clear g2
  have B2 : Hid (Below w.heap.size w w2) := Below.trans (by repeat (first | refine Below.setCell ?_ (by dsimp only; omega) _ | refine Below.alloc ?_ (by first | (simp; done) | (simp; omega) | omega) _ | exact B1.out)) (hb2.mono (by first | (simp; done) | (simp; omega) | omega))
  have G1 : Hid (Got (sliceC cCond) (w.heap.size + 3) [.slice vA1 x.cond.length vc1] x.cond M1 w2) := Got.later (by repeat (first | refine Got.setCell ?_ (by dsimp only; omega) _ | exact G1.out)) hb2
  have K0 := Lib.hid (Blk.later (Blk.far K0.out (by dsimp only; omega) _) hb2)
  have K1 := Lib.hid (Blk.later (Blk.far K1.out (by dsimp only; omega) _) hb2)
  have K2 := Lib.hid (Blk.later (Blk.set_ K2.out 2 _) hb2)
  clear f0 r0 o0 rz0 oz0 f1 r1 o1 rz1 oz1 f2 r2 o2 rz2 oz2 f3 r3 o3 rz3 oz3
  have f0 := K0.out.at (i := 0) rfl
  have r0 := K1.out.at (i := 0) rfl
  have o0 := K2.out.at (i := 0) rfl
  have rz0 := K1.out.frozen 0
  have oz0 := K2.out.frozen 0
  have f1 := K0.out.at (i := 1) rfl
  have r1 := K1.out.at (i := 1) rfl
  have o1 := K2.out.at (i := 1) rfl
  have rz1 := K1.out.frozen 1
  have oz1 := K2.out.frozen 1
  have f2 := K0.out.at (i := 2) rfl
  have r2 := K1.out.at (i := 2) rfl
  have o2 := K2.out.at (i := 2) rfl
  have rz2 := K1.out.frozen 2
  have oz2 := K2.out.frozen 2
  have f3 := K0.out.at (i := 3) rfl
  have r3 := K1.out.at (i := 3) rfl
  have o3 := K2.out.at (i := 3) rfl
  have rz3 := K1.out.frozen 3
  have oz3 := K2.out.frozen 3
  have hz2 : w.heap.size + 2 < w2.heap.size := by have := hb2.size; simp at this; omega
  have hy2 : w1.heap.size ≤ w2.heap.size := by have := hb2.size; simp at this; omega
  clear hb2
  go_wp2_with fail
  refine bodyPost_ret (v := .agg #[.string x.name, .int .i64 x.priority, .slice vA1 x.cond.length vc1, .slice vA2 x.thn.length vc2]) (by simp [results, Try.results25, go_sem, r0, r1, r2, r3]) rfl ?_
  obtain ⟨nn1, mm1, ss1⟩ := sliceC_out G1.out.rep
  obtain ⟨nn2, mm2, ss2⟩ := sliceC_out G2.out.rep
  exact gives_of (wr := w2) (M1 ++ M2) ⟨⟨vA1, vc1, M1, vA2, vc2, M2, rfl, rfl, t0, nn1, mm1, ss1, nn2, mm2, ss2⟩, by have o := (Own.append G1.out.own G2.out.own (by omega) lt1.out); simpa only [List.append_assoc] using o⟩ (by intro b hb; repeat rw [Below.heap_setCell _ _ _ _ (by dsimp only; omega)]) (by repeat (first | refine Below.setCell ?_ (by dsimp only; omega) _ | refine Below.alloc ?_ (by first | (simp; done) | (simp; omega) | omega) _ | exact B2.out))

theorem Try.infoRule : (Try.prog.info? 59).map (fun i => (i.zero, i.size, i.bytes)) = some (some (.agg #[.string ⟨#[]⟩, .int .i64 0, .slice none 0 0, .slice none 0 0]), 4, 72) := by kernel_rfl
set_option maxHeartbeats 1600000 in
theorem toRuleS_any (A : Option Addr) (n c : Nat) (ds : List RuleD) (L : List Nat) (w : World) (hn : n = ds.length) (hz : costRuleS ds ≤ 1048576) (h : Sli cRule w A ds L) :
    Calls Try.prog 7 #[.slice A n c] w (GivesS cRule 59 w ds) := by
  obtain ⟨i0, hi, hz0, hz1, hz2⟩ := info_parts Try.infoRule
  have H := Lib.hid h
  have HN := Lib.hid hn
  have hm : n ≤ 1048576 := by simp only [costRuleS] at hz; omega
  have HZ := Lib.hid hz
  clear h hn hz
  go_enter Try.func7, Try.ntmps7
  go_wp2_with (at_make; refine wpList_make_full _ rfl _ _ 24 rfl w.heap.size 59 i0 _ 4 Try.underlying24 hi hz0 hz1 .i64 .i64 _ _ n rfl rfl rfl rfl (by rw [hz2]; omega) (by unfold maxLen; omega) (Nat.le_refl _) ?_; intro w1 hown hg)
  have hb : Below w.heap.size w w1 := (Below.refl _ _).grown hg (Nat.le_refl _) (by simp)
  have HF0 : Hid (Filling cRule 59 w n ds 0 w1) := Filling.start hown hb
  clear hown hg hb
  go_wp2
  go_loopw [4] (fun i wr => ∃ (k : Nat), k ≤ n ∧ i = .int .i64 k ∧ Hid (Filling cRule 59 w n ds k wr)) (fun i _ => n - (intOf i).toNat)
  case atStart => exact ⟨0, Nat.zero_le _, rfl, HF0⟩
  case round =>
    obtain ⟨k, hk, rfl, HF⟩ := hrel
    by_cases hlt : k < n
    · have hkl : k < ds.length := by have := HN.out; omega
      obtain ⟨b, off, cs, Lk, rfl, hbL, hLk, hrep, hc⟩ := H.out.at_ hkl
      have hbl : b < w.heap.size := H.out.lt b hbL
      have HR := Lib.hid (cRule.keep hrep (keep_below HF.out.below (fun y m => H.out.lt y (hLk y m))))
      obtain ⟨A1, c1, A2, c2, rfl⟩ := cRule_cells hrep
      have q0 : wr.cell? ⟨b, off + k * 4, none⟩ = _ := (HF.out.below.cell (p := ⟨b, off + (k * 4 + 0), none⟩) hbl).trans (hc 0 _ rfl)
      have q1 : wr.cell? ⟨b, off + k * 4 + 1, none⟩ = _ := (HF.out.below.cell (p := ⟨b, off + (k * 4 + 1), none⟩) hbl).trans (hc 1 _ rfl)
      have q2 : wr.cell? ⟨b, off + k * 4 + 2, none⟩ = _ := (HF.out.below.cell (p := ⟨b, off + (k * 4 + 2), none⟩) hbl).trans (hc 2 _ rfl)
      have q3 : wr.cell? ⟨b, off + k * 4 + 3, none⟩ = _ := (HF.out.below.cell (p := ⟨b, off + (k * 4 + 3), none⟩) hbl).trans (hc 3 _ rfl)
      have hcx : Hid (costRule ds[k] ≤ 1048576) := cost_le costRule ds k hkl (by have := HZ.out; simp only [costRuleS] at this; omega)
      obtain ⟨x, hx⟩ : ∃ x, x = ds[k] := ⟨_, rfl⟩
      have HX := Lib.hid hx
      rw [← hx] at HR q0 q1 q2 q3 hcx
      clear hc hrep hx
      go_wp2_with fail
      refine (toRule_any _ x Lk _ hcx.out HR.out).mono ?_
      rintro e w2 ⟨cs2, M2, rfl, g2, hb2⟩
      have HF2 := Lib.hid (HF.out.later hb2)
      have HS := Lib.hid (HF.out.store hlt HN.out (fun _ => HX.out) hb2 g2)
      obtain ⟨vA1, vc1, vA2, vc2, rfl⟩ := cRule_cells g2.rep
      clear g2 hb2
      obtain ⟨d0, e0⟩ : ∃ d, w2.cell? ⟨w.heap.size, k * 4, none⟩ = some d := HF2.out.cell hlt (j := 0) (by decide)
      have z0 := HF2.out.frozen (k * 4)
      obtain ⟨d1, e1⟩ : ∃ d, w2.cell? ⟨w.heap.size, k * 4 + 1, none⟩ = some d := HF2.out.cell hlt (j := 1) (by decide)
      have z1 := HF2.out.frozen (k * 4 + 1)
      obtain ⟨d2, e2⟩ : ∃ d, w2.cell? ⟨w.heap.size, k * 4 + 2, none⟩ = some d := HF2.out.cell hlt (j := 2) (by decide)
      have z2 := HF2.out.frozen (k * 4 + 2)
      obtain ⟨d3, e3⟩ : ∃ d, w2.cell? ⟨w.heap.size, k * 4 + 3, none⟩ = some d := HF2.out.cell hlt (j := 3) (by decide)
      have z3 := HF2.out.frozen (k * 4 + 3)
      go_wp2_with fail
      go_roundw
      case rel => exact ⟨k + 1, by omega, by go_num, HS.out⟩
      case measure => simp [intOf]; omega
    · obtain rfl : k = n := by omega
      go_wp2
      go_ret
      exact ⟨_, rfl, HF.out.done HN.out⟩

end Go.Proofs.Ytppjenkjopjeiaa

namespace Go.Proofs.Ytppjenkjopjeiaa
open Go.RowKit

def TruePost (w : World) (e : Ending) (w' : World) : Prop := e = .returned (.bool true) ∧ Below w.heap.size w w'

set_option maxHeartbeats 1600000 in
theorem eqStringS_any (A B : Option Addr) (n c d : Nat) (ds : List ByteArray) (L M : List Nat) (w : World) (hn : n = ds.length) (hm : n ≤ 9223372036854775807) (h1 : Sli strC w A ds L) (h2 : Sli strC w B ds M) :
    Calls Try.prog 126 #[.slice A n c, .slice B n d] w (TruePost w) := by
  have H1 := Lib.hid h1
  have H2 := Lib.hid h2
  have HN := Lib.hid hn
  clear h1 h2 hn
  have hne : ((n : Int) != n) = false := by simp
  go_enter Try.func126, Try.ntmps126
  go_wp2
  go_loopw [5] (fun i wr => ∃ (k : Nat), k ≤ n ∧ i = .int .i64 k ∧ Hid (∃ q, wr = w.drewN q)) (fun i _ => n - (intOf i).toNat)
  case atStart => exact ⟨0, Nat.zero_le _, rfl, 0, rfl⟩
  case round =>
    obtain ⟨k, hk, rfl, hq⟩ := hrel
    obtain ⟨q, rfl⟩ := hq.out
    by_cases hlt : k < n
    · have hkl : k < ds.length := by have := HN.out; omega
      obtain ⟨b, off, cs, Lk, rfl, _, _, hrep, hc⟩ := H1.out.at_ hkl
      obtain ⟨b', off', cs', Mk, rfl, _, _, hrep', hc'⟩ := H2.out.at_ hkl
      generalize ds[k] = x at *
      obtain ⟨rfl, _, _⟩ := hrep
      obtain ⟨rfl, _, _⟩ := hrep'
      have q0 := hc 0 _ rfl
      have p0 := hc' 0 _ rfl
      simp only [show strC.size = 1 from rfl, Nat.mul_one, Nat.add_zero] at q0 p0
      clear hc hc'
      have k0 : (0 : Int) ≤ k := by omega
      have k1 : (k : Int) < n := by omega
      go_wp2_with fail
      go_quiet (fail)
      go_wp2_with fail
      go_roundw
      case rel => exact ⟨k + 1, by omega, by go_num, by first | exact drew_ex _ _ _ | exact drew_ex1 _ _⟩
      case measure => simp [intOf]; omega
    · go_wp2
      go_ret
      exact ⟨rfl, below_of_drewN _ _ _⟩

set_option maxHeartbeats 1600000 in
theorem eqPattern_any (cs ds : List Value) (x : PatternD) (L M : List Nat) (w : World) (h1 : cPattern.rep w cs x L) (h2 : cPattern.rep w ds x M) :
    Calls Try.prog 118 #[.agg cs.toArray, .agg ds.toArray] w (TruePost w) := by
  obtain ⟨aA1, ac1, aL1, rfl, _ahL, at0, an1, am1, as1⟩ := h1
  obtain ⟨bA1, bc1, bL1, rfl, _bhL, bt0, bn1, bm1, bs1⟩ := h2
  unfold maxLen at am1 bm1
  have SA1 := Lib.hid as1
  have SB1 := Lib.hid bs1
  clear as1 bs1
  go_enter Try.func118, Try.ntmps118
  go_wp2_with fail
  refine (eqStringS_any aA1 bA1 _ ac1 bc1 x.args aL1 bL1 _ rfl (by omega) (SA1.out.below (by repeat (first | refine Below.setCell ?_ (by dsimp only; omega) _ | refine Below.alloc ?_ (by first | (simp; done) | (simp; omega) | omega) _ | exact Below.refl _ _))) (SB1.out.below (by repeat (first | refine Below.setCell ?_ (by dsimp only; omega) _ | refine Below.alloc ?_ (by first | (simp; done) | (simp; omega) | omega) _ | exact Below.refl _ _)))).mono ?_
  rintro e w1 ⟨rfl, hb1⟩
  have B1 : Hid (Below w.heap.size w w1) := Below.trans (by repeat (first | refine Below.setCell ?_ (by dsimp only; omega) _ | refine Below.alloc ?_ (by first | (simp; done) | (simp; omega) | omega) _ | exact Below.refl _ _)) (hb1.mono (by first | (simp; done) | (simp; omega) | omega))
  have K0 : Hid (Blk w1 w.heap.size 91 #[.string x.rel, .slice aA1 x.args.length ac1]) := Blk.later (Blk.alloc (Blk.new _ _ _) _) hb1
  have K1 : Hid (Blk w1 (w.heap.size + 1) 91 #[.string x.rel, .slice bA1 x.args.length bc1]) := Blk.later (Blk.new_at (by simp)) hb1
  have f0 := K0.out.at (i := 0) rfl
  have r0 := K1.out.at (i := 0) rfl
  have f1 := K0.out.at (i := 1) rfl
  have r1 := K1.out.at (i := 1) rfl
  clear hb1
  have hz1 := B1.out.size
  go_wp2_with fail
  go_ret
  exact ⟨rfl, (by repeat (first | refine Below.setCell ?_ (by dsimp only; omega) _ | refine Below.alloc ?_ (by first | (simp; done) | (simp; omega) | omega) _ | exact B1.out))⟩

set_option maxHeartbeats 1600000 in
theorem eqCond_any (cs ds : List Value) (x : CondD) (L M : List Nat) (w : World) (h1 : cCond.rep w cs x L) (h2 : cCond.rep w ds x M) :
    Calls Try.prog 96 #[.agg cs.toArray, .agg ds.toArray] w (TruePost w) := by
  obtain ⟨aA1, ac1, aL1, rfl, _ahL, at0, at1, at2, an1, am1, as1⟩ := h1
  obtain ⟨bA1, bc1, bL1, rfl, _bhL, bt0, bt1, bt2, bn1, bm1, bs1⟩ := h2
  unfold maxLen at am1 bm1
  have SA1 := Lib.hid as1
  have SB1 := Lib.hid bs1
  clear as1 bs1
  go_enter Try.func96, Try.ntmps96
  go_wp2_with fail
  refine (eqPattern_any [.string x.pattern.rel, .slice aA1 x.pattern.args.length ac1] [.string x.pattern.rel, .slice bA1 x.pattern.args.length bc1] x.pattern _ _ _ ⟨aA1, ac1, aL1, rfl, rfl, at0, an1, (by unfold maxLen; omega), SA1.out.below (by repeat (first | refine Below.setCell ?_ (by dsimp only; omega) _ | refine Below.alloc ?_ (by first | (simp; done) | (simp; omega) | omega) _ | exact Below.refl _ _))⟩ ⟨bA1, bc1, bL1, rfl, rfl, bt0, bn1, (by unfold maxLen; omega), SB1.out.below (by repeat (first | refine Below.setCell ?_ (by dsimp only; omega) _ | refine Below.alloc ?_ (by first | (simp; done) | (simp; omega) | omega) _ | exact Below.refl _ _))⟩).mono ?_
  rintro e w1 ⟨rfl, hb1⟩
  have B1 : Hid (Below w.heap.size w w1) := Below.trans (by repeat (first | refine Below.setCell ?_ (by dsimp only; omega) _ | refine Below.alloc ?_ (by first | (simp; done) | (simp; omega) | omega) _ | exact Below.refl _ _)) (hb1.mono (by first | (simp; done) | (simp; omega) | omega))
  have K0 : Hid (Blk w1 w.heap.size 97 #[.int .i64 x.kind, .string x.pattern.rel, .slice aA1 x.pattern.args.length ac1, .string x.left, .string x.right]) := Blk.later (Blk.alloc (Blk.new _ _ _) _) hb1
  have K1 : Hid (Blk w1 (w.heap.size + 1) 97 #[.int .i64 x.kind, .string x.pattern.rel, .slice bA1 x.pattern.args.length bc1, .string x.left, .string x.right]) := Blk.later (Blk.new_at (by simp)) hb1
  have f0 := K0.out.at (i := 0) rfl
  have r0 := K1.out.at (i := 0) rfl
  have f1 := K0.out.at (i := 1) rfl
  have r1 := K1.out.at (i := 1) rfl
  have f2 := K0.out.at (i := 2) rfl
  have r2 := K1.out.at (i := 2) rfl
  have f3 := K0.out.at (i := 3) rfl
  have r3 := K1.out.at (i := 3) rfl
  have f4 := K0.out.at (i := 4) rfl
  have r4 := K1.out.at (i := 4) rfl
  clear hb1
  have hz1 := B1.out.size
  go_wp2_with fail
  go_ret
  exact ⟨rfl, (by repeat (first | refine Below.setCell ?_ (by dsimp only; omega) _ | refine Below.alloc ?_ (by first | (simp; done) | (simp; omega) | omega) _ | exact B1.out))⟩

set_option maxRecDepth 100000 in
set_option maxHeartbeats 1600000 in
theorem eqCondS_any (A B : Option Addr) (n c d : Nat) (ds : List CondD) (L M : List Nat) (w : World) (hn : n = ds.length) (hm : n ≤ 9223372036854775807) (h1 : Sli cCond w A ds L) (h2 : Sli cCond w B ds M) :
    Calls Try.prog 67 #[.slice A n c, .slice B n d] w (TruePost w) := by
  have H1 := Lib.hid h1
  have H2 := Lib.hid h2
  have HN := Lib.hid hn
  clear h1 h2 hn
  have hne : ((n : Int) != n) = false := by simp
  go_enter Try.func67, Try.ntmps67
  go_wp2
  go_loopw [5] (fun i wr => ∃ (k : Nat), k ≤ n ∧ i = .int .i64 k ∧ Hid (Below w.heap.size w wr)) (fun i _ => n - (intOf i).toNat)
  case atStart => exact ⟨0, Nat.zero_le _, rfl, Below.refl _ _⟩
  case round =>
    obtain ⟨k, hk, rfl, HB⟩ := hrel
    by_cases hlt : k < n
    · have hkl : k < ds.length := by have := HN.out; omega
      obtain ⟨b, off, cs, Lk, rfl, hbL, hLk, hrep, hc⟩ := H1.out.at_ hkl
      obtain ⟨b', off', cs', Mk, rfl, hbM, hMk, hrep', hc'⟩ := H2.out.at_ hkl
      have hbl : b < w.heap.size := H1.out.lt b hbL
      have hbl' : b' < w.heap.size := H2.out.lt b' hbM
      have HR := Lib.hid (cCond.keep hrep (keep_below HB.out (fun y m => H1.out.lt y (hLk y m))))
      have HR' := Lib.hid (cCond.keep hrep' (keep_below HB.out (fun y m => H2.out.lt y (hMk y m))))
      generalize ds[k] = x at *
      obtain ⟨aA1, ac1, rfl⟩ := cCond_cells hrep
      obtain ⟨bA1, bc1, rfl⟩ := cCond_cells hrep'
      have q0 : wr.cell? ⟨b, off + k * 5, none⟩ = _ := (HB.out.cell (p := ⟨b, off + (k * 5 + 0), none⟩) hbl).trans (hc 0 _ rfl)
      have p0 : wr.cell? ⟨b', off' + k * 5, none⟩ = _ := (HB.out.cell (p := ⟨b', off' + (k * 5 + 0), none⟩) hbl').trans (hc' 0 _ rfl)
      have q1 : wr.cell? ⟨b, off + k * 5 + 1, none⟩ = _ := (HB.out.cell (p := ⟨b, off + (k * 5 + 1), none⟩) hbl).trans (hc 1 _ rfl)
      have p1 : wr.cell? ⟨b', off' + k * 5 + 1, none⟩ = _ := (HB.out.cell (p := ⟨b', off' + (k * 5 + 1), none⟩) hbl').trans (hc' 1 _ rfl)
      have q2 : wr.cell? ⟨b, off + k * 5 + 2, none⟩ = _ := (HB.out.cell (p := ⟨b, off + (k * 5 + 2), none⟩) hbl).trans (hc 2 _ rfl)
      have p2 : wr.cell? ⟨b', off' + k * 5 + 2, none⟩ = _ := (HB.out.cell (p := ⟨b', off' + (k * 5 + 2), none⟩) hbl').trans (hc' 2 _ rfl)
      have q3 : wr.cell? ⟨b, off + k * 5 + 3, none⟩ = _ := (HB.out.cell (p := ⟨b, off + (k * 5 + 3), none⟩) hbl).trans (hc 3 _ rfl)
      have p3 : wr.cell? ⟨b', off' + k * 5 + 3, none⟩ = _ := (HB.out.cell (p := ⟨b', off' + (k * 5 + 3), none⟩) hbl').trans (hc' 3 _ rfl)
      have q4 : wr.cell? ⟨b, off + k * 5 + 4, none⟩ = _ := (HB.out.cell (p := ⟨b, off + (k * 5 + 4), none⟩) hbl).trans (hc 4 _ rfl)
      have p4 : wr.cell? ⟨b', off' + k * 5 + 4, none⟩ = _ := (HB.out.cell (p := ⟨b', off' + (k * 5 + 4), none⟩) hbl').trans (hc' 4 _ rfl)
      clear hc hc' hrep hrep'
      have k0 : (0 : Int) ≤ k := by omega
      have k1 : (k : Int) < n := by omega
      go_wp2_with fail
      go_still_tail 8, (by kernel_rfl)
      change wpList _ _ _ _ _ wr.drew
      go_wp2_with (go_at_call 96; (refine (eqCond_any _ _ x Lk Mk wr.drew (cCond.keep HR.out (fun _ _ => rfl)) (cCond.keep HR'.out (fun _ _ => rfl))).mono ?_; rintro e w1 ⟨rfl, hb1⟩; have HB1 := Lib.hid (HB.out.drew.trans (hb1.mono HB.out.size)); clear hb1))
      go_roundw
      case rel => exact ⟨k + 1, by omega, by go_num, HB1.out⟩
      case measure => simp [intOf]; omega
    · go_wp2
      go_ret
      exact ⟨rfl, HB.out⟩

set_option maxHeartbeats 1600000 in
theorem eqAction_any (cs ds : List Value) (x : ActionD) (L M : List Nat) (w : World) (h1 : cAction.rep w cs x L) (h2 : cAction.rep w ds x M) :
    Calls Try.prog 97 #[.agg cs.toArray, .agg ds.toArray] w (TruePost w) := by
  obtain ⟨aA1, ac1, aL1, rfl, _ahL, at0, an1, am1, as1⟩ := h1
  obtain ⟨bA1, bc1, bL1, rfl, _bhL, bt0, bn1, bm1, bs1⟩ := h2
  unfold maxLen at am1 bm1
  have SA1 := Lib.hid as1
  have SB1 := Lib.hid bs1
  clear as1 bs1
  go_enter Try.func97, Try.ntmps97
  go_wp2_with fail
  refine (eqPattern_any [.string x.pattern.rel, .slice aA1 x.pattern.args.length ac1] [.string x.pattern.rel, .slice bA1 x.pattern.args.length bc1] x.pattern _ _ _ ⟨aA1, ac1, aL1, rfl, rfl, at0, an1, (by unfold maxLen; omega), SA1.out.below (by repeat (first | refine Below.setCell ?_ (by dsimp only; omega) _ | refine Below.alloc ?_ (by first | (simp; done) | (simp; omega) | omega) _ | exact Below.refl _ _))⟩ ⟨bA1, bc1, bL1, rfl, rfl, bt0, bn1, (by unfold maxLen; omega), SB1.out.below (by repeat (first | refine Below.setCell ?_ (by dsimp only; omega) _ | refine Below.alloc ?_ (by first | (simp; done) | (simp; omega) | omega) _ | exact Below.refl _ _))⟩).mono ?_
  rintro e w1 ⟨rfl, hb1⟩
  have B1 : Hid (Below w.heap.size w w1) := Below.trans (by repeat (first | refine Below.setCell ?_ (by dsimp only; omega) _ | refine Below.alloc ?_ (by first | (simp; done) | (simp; omega) | omega) _ | exact Below.refl _ _)) (hb1.mono (by first | (simp; done) | (simp; omega) | omega))
  have K0 : Hid (Blk w1 w.heap.size 93 #[.int .i64 x.kind, .string x.pattern.rel, .slice aA1 x.pattern.args.length ac1]) := Blk.later (Blk.alloc (Blk.new _ _ _) _) hb1
  have K1 : Hid (Blk w1 (w.heap.size + 1) 93 #[.int .i64 x.kind, .string x.pattern.rel, .slice bA1 x.pattern.args.length bc1]) := Blk.later (Blk.new_at (by simp)) hb1
  have f0 := K0.out.at (i := 0) rfl
  have r0 := K1.out.at (i := 0) rfl
  have f1 := K0.out.at (i := 1) rfl
  have r1 := K1.out.at (i := 1) rfl
  have f2 := K0.out.at (i := 2) rfl
  have r2 := K1.out.at (i := 2) rfl
  clear hb1
  have hz1 := B1.out.size
  go_wp2_with fail
  go_ret
  exact ⟨rfl, (by repeat (first | refine Below.setCell ?_ (by dsimp only; omega) _ | refine Below.alloc ?_ (by first | (simp; done) | (simp; omega) | omega) _ | exact B1.out))⟩

set_option maxRecDepth 100000 in
set_option maxHeartbeats 1600000 in
theorem eqActionS_any (A B : Option Addr) (n c d : Nat) (ds : List ActionD) (L M : List Nat) (w : World) (hn : n = ds.length) (hm : n ≤ 9223372036854775807) (h1 : Sli cAction w A ds L) (h2 : Sli cAction w B ds M) :
    Calls Try.prog 68 #[.slice A n c, .slice B n d] w (TruePost w) := by
  have H1 := Lib.hid h1
  have H2 := Lib.hid h2
  have HN := Lib.hid hn
  clear h1 h2 hn
  have hne : ((n : Int) != n) = false := by simp
  go_enter Try.func68, Try.ntmps68
  go_wp2
  go_loopw [5] (fun i wr => ∃ (k : Nat), k ≤ n ∧ i = .int .i64 k ∧ Hid (Below w.heap.size w wr)) (fun i _ => n - (intOf i).toNat)
  case atStart => exact ⟨0, Nat.zero_le _, rfl, Below.refl _ _⟩
  case round =>
    obtain ⟨k, hk, rfl, HB⟩ := hrel
    by_cases hlt : k < n
    · have hkl : k < ds.length := by have := HN.out; omega
      obtain ⟨b, off, cs, Lk, rfl, hbL, hLk, hrep, hc⟩ := H1.out.at_ hkl
      obtain ⟨b', off', cs', Mk, rfl, hbM, hMk, hrep', hc'⟩ := H2.out.at_ hkl
      have hbl : b < w.heap.size := H1.out.lt b hbL
      have hbl' : b' < w.heap.size := H2.out.lt b' hbM
      have HR := Lib.hid (cAction.keep hrep (keep_below HB.out (fun y m => H1.out.lt y (hLk y m))))
      have HR' := Lib.hid (cAction.keep hrep' (keep_below HB.out (fun y m => H2.out.lt y (hMk y m))))
      generalize ds[k] = x at *
      obtain ⟨aA1, ac1, rfl⟩ := cAction_cells hrep
      obtain ⟨bA1, bc1, rfl⟩ := cAction_cells hrep'
      have q0 : wr.cell? ⟨b, off + k * 3, none⟩ = _ := (HB.out.cell (p := ⟨b, off + (k * 3 + 0), none⟩) hbl).trans (hc 0 _ rfl)
      have p0 : wr.cell? ⟨b', off' + k * 3, none⟩ = _ := (HB.out.cell (p := ⟨b', off' + (k * 3 + 0), none⟩) hbl').trans (hc' 0 _ rfl)
      have q1 : wr.cell? ⟨b, off + k * 3 + 1, none⟩ = _ := (HB.out.cell (p := ⟨b, off + (k * 3 + 1), none⟩) hbl).trans (hc 1 _ rfl)
      have p1 : wr.cell? ⟨b', off' + k * 3 + 1, none⟩ = _ := (HB.out.cell (p := ⟨b', off' + (k * 3 + 1), none⟩) hbl').trans (hc' 1 _ rfl)
      have q2 : wr.cell? ⟨b, off + k * 3 + 2, none⟩ = _ := (HB.out.cell (p := ⟨b, off + (k * 3 + 2), none⟩) hbl).trans (hc 2 _ rfl)
      have p2 : wr.cell? ⟨b', off' + k * 3 + 2, none⟩ = _ := (HB.out.cell (p := ⟨b', off' + (k * 3 + 2), none⟩) hbl').trans (hc' 2 _ rfl)
      clear hc hc' hrep hrep'
      have k0 : (0 : Int) ≤ k := by omega
      have k1 : (k : Int) < n := by omega
      go_wp2_with fail
      go_still_tail 8, (by kernel_rfl)
      change wpList _ _ _ _ _ wr.drew
      go_wp2_with (go_at_call 97; (refine (eqAction_any _ _ x Lk Mk wr.drew (cAction.keep HR.out (fun _ _ => rfl)) (cAction.keep HR'.out (fun _ _ => rfl))).mono ?_; rintro e w1 ⟨rfl, hb1⟩; have HB1 := Lib.hid (HB.out.drew.trans (hb1.mono HB.out.size)); clear hb1))
      go_roundw
      case rel => exact ⟨k + 1, by omega, by go_num, HB1.out⟩
      case measure => simp [intOf]; omega
    · go_wp2
      go_ret
      exact ⟨rfl, HB.out⟩

set_option maxHeartbeats 1600000 in
theorem eqRule_any (cs ds : List Value) (x : RuleD) (L M : List Nat) (w : World) (h1 : cRule.rep w cs x L) (h2 : cRule.rep w ds x M) :
    Calls Try.prog 29 #[.agg cs.toArray, .agg ds.toArray] w (TruePost w) := by
  obtain ⟨aA1, ac1, aL1, aA2, ac2, aL2, rfl, _ahL, at0, an1, am1, as1, an2, am2, as2⟩ := h1
  obtain ⟨bA1, bc1, bL1, bA2, bc2, bL2, rfl, _bhL, bt0, bn1, bm1, bs1, bn2, bm2, bs2⟩ := h2
  unfold maxLen at am1 bm1 am2 bm2
  have SA1 := Lib.hid as1
  have SB1 := Lib.hid bs1
  clear as1 bs1
  have SA2 := Lib.hid as2
  have SB2 := Lib.hid bs2
  clear as2 bs2
  go_enter Try.func29, Try.ntmps29
  go_wp2_with fail
  refine (eqCondS_any aA1 bA1 _ ac1 bc1 x.cond aL1 bL1 _ rfl (by omega) (SA1.out.below (by repeat (first | refine Below.setCell ?_ (by dsimp only; omega) _ | refine Below.alloc ?_ (by first | (simp; done) | (simp; omega) | omega) _ | exact Below.refl _ _))) (SB1.out.below (by repeat (first | refine Below.setCell ?_ (by dsimp only; omega) _ | refine Below.alloc ?_ (by first | (simp; done) | (simp; omega) | omega) _ | exact Below.refl _ _)))).mono ?_
  rintro e w1 ⟨rfl, hb1⟩
  have B1 : Hid (Below w.heap.size w w1) := Below.trans (by repeat (first | refine Below.setCell ?_ (by dsimp only; omega) _ | refine Below.alloc ?_ (by first | (simp; done) | (simp; omega) | omega) _ | exact Below.refl _ _)) (hb1.mono (by first | (simp; done) | (simp; omega) | omega))
  have K0 : Hid (Blk w1 w.heap.size 59 #[.string x.name, .int .i64 x.priority, .slice aA1 x.cond.length ac1, .slice aA2 x.thn.length ac2]) := Blk.later (Blk.alloc (Blk.new _ _ _) _) hb1
  have K1 : Hid (Blk w1 (w.heap.size + 1) 59 #[.string x.name, .int .i64 x.priority, .slice bA1 x.cond.length bc1, .slice bA2 x.thn.length bc2]) := Blk.later (Blk.new_at (by simp)) hb1
  have f0 := K0.out.at (i := 0) rfl
  have r0 := K1.out.at (i := 0) rfl
  have f1 := K0.out.at (i := 1) rfl
  have r1 := K1.out.at (i := 1) rfl
  have f2 := K0.out.at (i := 2) rfl
  have r2 := K1.out.at (i := 2) rfl
  have f3 := K0.out.at (i := 3) rfl
  have r3 := K1.out.at (i := 3) rfl
  clear hb1
  have hz1 := B1.out.size
  go_wp2_with fail
  refine (eqActionS_any aA2 bA2 _ ac2 bc2 x.thn aL2 bL2 _ rfl (by omega) (SA2.out.below (by repeat (first | refine Below.setCell ?_ (by dsimp only; omega) _ | refine Below.alloc ?_ (by first | (simp; done) | (simp; omega) | omega) _ | exact B1.out))) (SB2.out.below (by repeat (first | refine Below.setCell ?_ (by dsimp only; omega) _ | refine Below.alloc ?_ (by first | (simp; done) | (simp; omega) | omega) _ | exact B1.out)))).mono ?_
  rintro e w2 ⟨rfl, hb2⟩
  have B2 : Hid (Below w.heap.size w w2) := Below.trans (by repeat (first | refine Below.setCell ?_ (by dsimp only; omega) _ | refine Below.alloc ?_ (by first | (simp; done) | (simp; omega) | omega) _ | exact B1.out)) (hb2.mono (by first | (simp; done) | (simp; omega) | omega))
  have K0 := Lib.hid (K0.out.later hb2)
  have K1 := Lib.hid (K1.out.later hb2)
  clear f0 r0 f1 r1 f2 r2 f3 r3
  have f0 := K0.out.at (i := 0) rfl
  have r0 := K1.out.at (i := 0) rfl
  have f1 := K0.out.at (i := 1) rfl
  have r1 := K1.out.at (i := 1) rfl
  have f2 := K0.out.at (i := 2) rfl
  have r2 := K1.out.at (i := 2) rfl
  have f3 := K0.out.at (i := 3) rfl
  have r3 := K1.out.at (i := 3) rfl
  clear hb2
  have hz2 := B2.out.size
  go_wp2_with fail
  go_ret
  exact ⟨rfl, (by repeat (first | refine Below.setCell ?_ (by dsimp only; omega) _ | refine Below.alloc ?_ (by first | (simp; done) | (simp; omega) | omega) _ | exact B2.out))⟩

set_option maxRecDepth 100000 in
set_option maxHeartbeats 1600000 in
theorem eqRuleS_any (A B : Option Addr) (n c d : Nat) (ds : List RuleD) (L M : List Nat) (w : World) (hn : n = ds.length) (hm : n ≤ 9223372036854775807) (h1 : Sli cRule w A ds L) (h2 : Sli cRule w B ds M) :
    Calls Try.prog 9 #[.slice A n c, .slice B n d] w (TruePost w) := by
  have H1 := Lib.hid h1
  have H2 := Lib.hid h2
  have HN := Lib.hid hn
  clear h1 h2 hn
  have hne : ((n : Int) != n) = false := by simp
  go_enter Try.func9, Try.ntmps9
  go_wp2
  go_loopw [5] (fun i wr => ∃ (k : Nat), k ≤ n ∧ i = .int .i64 k ∧ Hid (Below w.heap.size w wr)) (fun i _ => n - (intOf i).toNat)
  case atStart => exact ⟨0, Nat.zero_le _, rfl, Below.refl _ _⟩
  case round =>
    obtain ⟨k, hk, rfl, HB⟩ := hrel
    by_cases hlt : k < n
    · have hkl : k < ds.length := by have := HN.out; omega
      obtain ⟨b, off, cs, Lk, rfl, hbL, hLk, hrep, hc⟩ := H1.out.at_ hkl
      obtain ⟨b', off', cs', Mk, rfl, hbM, hMk, hrep', hc'⟩ := H2.out.at_ hkl
      have hbl : b < w.heap.size := H1.out.lt b hbL
      have hbl' : b' < w.heap.size := H2.out.lt b' hbM
      have HR := Lib.hid (cRule.keep hrep (keep_below HB.out (fun y m => H1.out.lt y (hLk y m))))
      have HR' := Lib.hid (cRule.keep hrep' (keep_below HB.out (fun y m => H2.out.lt y (hMk y m))))
      generalize ds[k] = x at *
      obtain ⟨aA1, ac1, aA2, ac2, rfl⟩ := cRule_cells hrep
      obtain ⟨bA1, bc1, bA2, bc2, rfl⟩ := cRule_cells hrep'
      have q0 : wr.cell? ⟨b, off + k * 4, none⟩ = _ := (HB.out.cell (p := ⟨b, off + (k * 4 + 0), none⟩) hbl).trans (hc 0 _ rfl)
      have p0 : wr.cell? ⟨b', off' + k * 4, none⟩ = _ := (HB.out.cell (p := ⟨b', off' + (k * 4 + 0), none⟩) hbl').trans (hc' 0 _ rfl)
      have q1 : wr.cell? ⟨b, off + k * 4 + 1, none⟩ = _ := (HB.out.cell (p := ⟨b, off + (k * 4 + 1), none⟩) hbl).trans (hc 1 _ rfl)
      have p1 : wr.cell? ⟨b', off' + k * 4 + 1, none⟩ = _ := (HB.out.cell (p := ⟨b', off' + (k * 4 + 1), none⟩) hbl').trans (hc' 1 _ rfl)
      have q2 : wr.cell? ⟨b, off + k * 4 + 2, none⟩ = _ := (HB.out.cell (p := ⟨b, off + (k * 4 + 2), none⟩) hbl).trans (hc 2 _ rfl)
      have p2 : wr.cell? ⟨b', off' + k * 4 + 2, none⟩ = _ := (HB.out.cell (p := ⟨b', off' + (k * 4 + 2), none⟩) hbl').trans (hc' 2 _ rfl)
      have q3 : wr.cell? ⟨b, off + k * 4 + 3, none⟩ = _ := (HB.out.cell (p := ⟨b, off + (k * 4 + 3), none⟩) hbl).trans (hc 3 _ rfl)
      have p3 : wr.cell? ⟨b', off' + k * 4 + 3, none⟩ = _ := (HB.out.cell (p := ⟨b', off' + (k * 4 + 3), none⟩) hbl').trans (hc' 3 _ rfl)
      clear hc hc' hrep hrep'
      have k0 : (0 : Int) ≤ k := by omega
      have k1 : (k : Int) < n := by omega
      go_wp2_with fail
      go_still_tail 8, (by kernel_rfl)
      change wpList _ _ _ _ _ wr.drew
      go_wp2_with (go_at_call 29; (refine (eqRule_any _ _ x Lk Mk wr.drew (cRule.keep HR.out (fun _ _ => rfl)) (cRule.keep HR'.out (fun _ _ => rfl))).mono ?_; rintro e w1 ⟨rfl, hb1⟩; have HB1 := Lib.hid (HB.out.drew.trans (hb1.mono HB.out.size)); clear hb1))
      go_roundw
      case rel => exact ⟨k + 1, by omega, by go_num, HB1.out⟩
      case measure => simp [intOf]; omega
    · go_wp2
      go_ret
      exact ⟨rfl, HB.out⟩

end Go.Proofs.Ytppjenkjopjeiaa

namespace Go.Proofs.Ytppjenkjopjeiaa
open Go.RowKit

/-- the digits of a number ahead of a text -/
def mDig : Nat → Nat → List UInt8 → List UInt8
  | 0, _, acc => acc
  | f + 1, k, acc => if k = 0 then acc else mDig f (k / 10) ((48 + UInt8.ofNat (k % 10)) :: acc)
def mText (k : Nat) : ByteArray := ⟨(109 :: mDig (k + 1) k []).toArray⟩

/-- 'string([]byte{b})' -/
theorem run_byte_string (W : World) (z : Int) : (convert 30 9 (.slice (some ⟨W.heap.size, 0, none⟩) 1 1)).run Try.prog (W.alloc (.cells #[.int .u8 z] 5)) = .ok (.string ⟨#[UInt8.ofNat z.toNat]⟩) (W.alloc (.cells #[.int .u8 z] 5)) := by
  rw [run_convert_bytes_string _ _ _ _ _ _ _ Try.underlying30 Try.underlying5 Try.underlying9, run_bytesToString _ _ _ _ [z] (by simp [loadCells, go_sem])]
  rfl

set_option maxHeartbeats 800000 in
set_option maxRecDepth 100000 in
theorem markText_any (k : Nat) (w : World) (h0 : 1 ≤ k) (h1 : k ≤ 4611686018427387904) :
    Calls Try.prog 30 #[.int .i64 k] w fun e w' => e = .returned (.string (mText k)) ∧ Below w.heap.size w w' := by
  have hle : ¬ ((k : Int) ≤ 0) := by omega
  have kc := run_byte_string
  go_enter Try.func30, Try.ntmps30
  go_wp2
  go_loopw [0, 3] (fun i s wr => ∃ (f q : Nat) (acc : List UInt8), i = .int .i64 q ∧ s = .string ⟨acc.toArray⟩ ∧ q ≤ k ∧ q < f ∧ acc.length + q ≤ k ∧ Hid (mDig f q acc = mDig (k + 1) k []) ∧ Hid (Below w.heap.size w wr)) (fun i _ _ => (intOf i).toNat)
  case atStart => exact ⟨k + 1, k, [], rfl, rfl, Nat.le_refl _, by omega, by simp, Lib.hid rfl, Below.refl _ _⟩
  case round =>
    obtain ⟨f, q, acc, rfl, rfl, hqk, hqf, hal, HE, HB⟩ := hrel
    by_cases hq : 0 < q
    · have hq' : (0 : Int) < q := by omega
      have HEn : Hid (mDig (f - 1) (q / 10) ((48 + UInt8.ofNat (q % 10)) :: acc) = mDig (k + 1) k []) := by
        rw [Hid, ← HE.out]
        obtain ⟨f, rfl⟩ : ∃ g, f = g + 1 := ⟨f - 1, by omega⟩
        rw [mDig, if_neg (by omega)]; rfl
      go_wp2
      go_roundw
      case rel => exact ⟨f - 1, q / 10, _, by go_num, congrArg Value.string (by rw [ByteArray.mk_append_mk]; simp), by omega, by omega, by simp only [List.length_cons]; omega, HEn, HB.out.alloc HB.out.size _⟩
      case measure => simp [intOf]; omega
    · obtain rfl : q = 0 := by omega
      have e : Hid (mDig (k + 1) k [] = acc) := by
        rw [Hid, ← HE.out]
        obtain ⟨f, rfl⟩ : ∃ g, f = g + 1 := ⟨f - 1, by omega⟩
        simp [mDig]
      have hq' : ¬ (0 : Int) < (0 : Nat) := by omega
      go_wp2
      go_ret
      exact ⟨congrArg (fun s => Ending.returned (.string s)) (by rw [mText, e.out, ByteArray.mk_append_mk]; simp), HB.out⟩
theorem mDig_len : ∀ (f k : Nat) (acc : List UInt8), (mDig f k acc).length ≤ acc.length + f
  | 0, _, acc => by simp [mDig]
  | f + 1, k, acc => by
    rw [mDig]
    split
    · omega
    · have := mDig_len f (k / 10) ((48 + UInt8.ofNat (k % 10)) :: acc)
      simp at this; omega
theorem mText_size (k : Nat) (h : k ≤ 4611686018427387904) : (mText k).size ≤ 9223372036854775807 := by
  have := mDig_len (k + 1) k []
  simp [mText, ByteArray.size] at this ⊢
  omega

end Go.Proofs.Ytppjenkjopjeiaa

namespace Go.Proofs.Ytppjenkjopjeiaa
open Go.RowKit

def mTx (k : Int) : ByteArray := mText k.toNat
theorem markText_int (k : Int) (w : World) (h0 : 1 ≤ k) (h1 : k ≤ 4611686018427387904) :
    Calls Try.prog 30 #[.int .i64 k] w fun e w' => e = .returned (.string (mTx k)) ∧ Below w.heap.size w w' := by
  obtain ⟨n, rfl⟩ := Int.eq_ofNat_of_zero_le (show 0 ≤ k by omega)
  exact markText_any n w (by omega) (by omega)
theorem mTx_size (k : Int) (h : k ≤ 4611686018427387904) : (mTx k).size ≤ 9223372036854775807 := mText_size _ (by omega)
def mkStringS : Int → List ByteArray → List ByteArray
  | _, [] => []
  | k, _ :: r => mTx k :: mkStringS (k + 1) r
def nextStringS (k : Int) (l : List ByteArray) : Int := k + l.length
theorem mkStringS_len (k : Int) (l : List ByteArray) : (mkStringS k l).length = l.length := by induction l generalizing k with | nil => rfl | cons x r ih => simp [mkStringS, ih]
theorem nextStringS_ge (k : Int) (l : List ByteArray) : k ≤ nextStringS k l := by unfold nextStringS; omega
theorem nextStringS_le (k : Int) (l : List ByteArray) : nextStringS k l ≤ k + 16 * costStrs l := by unfold nextStringS costStrs; omega
def mkCond (k : Int) (x : CondD) : CondD := ⟨(k), ⟨mTx (k + 1), mkStringS (k + 1 + 1) x.pattern.args⟩, mTx (nextStringS (k + 1 + 1) x.pattern.args), mTx (nextStringS (k + 1 + 1) x.pattern.args + 1)⟩
def nextCond (k : Int) (x : CondD) : Int := nextStringS (k + 1 + 1) x.pattern.args + 1 + 1
def mkCondS : Int → List CondD → List CondD
  | _, [] => []
  | k, x :: r => mkCond k x :: mkCondS (nextCond k x) r
def nextCondS : Int → List CondD → Int
  | k, [] => k
  | k, x :: r => nextCondS (nextCond k x) r
theorem mkCondS_len (k : Int) (l : List CondD) : (mkCondS k l).length = l.length := by induction l generalizing k with | nil => rfl | cons x r ih => simp [mkCondS, ih]
theorem nextCond_ge (k : Int) (x : CondD) : k ≤ nextCond k x := by
  unfold nextCond
  have := nextStringS_ge (k + 1 + 1) x.pattern.args
  omega
theorem nextCondS_ge (k : Int) (l : List CondD) : k ≤ nextCondS k l := by
  induction l generalizing k with
  | nil => exact Int.le_refl _
  | cons x r ih => exact Int.le_trans (nextCond_ge k x) (ih _)
theorem nextCond_le (k : Int) (x : CondD) : nextCond k x ≤ k + 4 + 16 * costCond x := by
  unfold nextCond
  have := nextStringS_le (k + 1 + 1) x.pattern.args
  simp only [costCond, costPattern]
  omega
theorem nextCondS_le (k : Int) (l : List CondD) : nextCondS k l ≤ k + 16 * costCondS l := by
  induction l generalizing k with
  | nil => simp [nextCondS, costCondS]
  | cons x r ih =>
    have h1 := nextCond_le k x
    have h2 := ih (nextCond k x)
    simp only [nextCondS, costCondS, List.length_cons, List.map_cons, List.sum_cons] at h2 ⊢
    omega

def mkAction (k : Int) (x : ActionD) : ActionD := ⟨(k), ⟨mTx (k + 1), mkStringS (k + 1 + 1) x.pattern.args⟩⟩
def nextAction (k : Int) (x : ActionD) : Int := nextStringS (k + 1 + 1) x.pattern.args
def mkActionS : Int → List ActionD → List ActionD
  | _, [] => []
  | k, x :: r => mkAction k x :: mkActionS (nextAction k x) r
def nextActionS : Int → List ActionD → Int
  | k, [] => k
  | k, x :: r => nextActionS (nextAction k x) r
theorem mkActionS_len (k : Int) (l : List ActionD) : (mkActionS k l).length = l.length := by induction l generalizing k with | nil => rfl | cons x r ih => simp [mkActionS, ih]
theorem nextAction_ge (k : Int) (x : ActionD) : k ≤ nextAction k x := by
  unfold nextAction
  have := nextStringS_ge (k + 1 + 1) x.pattern.args
  omega
theorem nextActionS_ge (k : Int) (l : List ActionD) : k ≤ nextActionS k l := by
  induction l generalizing k with
  | nil => exact Int.le_refl _
  | cons x r ih => exact Int.le_trans (nextAction_ge k x) (ih _)
theorem nextAction_le (k : Int) (x : ActionD) : nextAction k x ≤ k + 2 + 16 * costAction x := by
  unfold nextAction
  have := nextStringS_le (k + 1 + 1) x.pattern.args
  simp only [costAction, costPattern]
  omega
theorem nextActionS_le (k : Int) (l : List ActionD) : nextActionS k l ≤ k + 16 * costActionS l := by
  induction l generalizing k with
  | nil => simp [nextActionS, costActionS]
  | cons x r ih =>
    have h1 := nextAction_le k x
    have h2 := ih (nextAction k x)
    simp only [nextActionS, costActionS, List.length_cons, List.map_cons, List.sum_cons] at h2 ⊢
    omega

def mkRule (k : Int) (x : RuleD) : RuleD := ⟨mTx (k), (k + 1), mkCondS (k + 1 + 1) x.cond, mkActionS (nextCondS (k + 1 + 1) x.cond) x.thn⟩
def nextRule (k : Int) (x : RuleD) : Int := nextActionS (nextCondS (k + 1 + 1) x.cond) x.thn
def mkRuleS : Int → List RuleD → List RuleD
  | _, [] => []
  | k, x :: r => mkRule k x :: mkRuleS (nextRule k x) r
def nextRuleS : Int → List RuleD → Int
  | k, [] => k
  | k, x :: r => nextRuleS (nextRule k x) r
theorem mkRuleS_len (k : Int) (l : List RuleD) : (mkRuleS k l).length = l.length := by induction l generalizing k with | nil => rfl | cons x r ih => simp [mkRuleS, ih]
theorem nextRule_ge (k : Int) (x : RuleD) : k ≤ nextRule k x := by
  unfold nextRule
  have := nextCondS_ge (k + 1 + 1) x.cond
  have := nextActionS_ge (nextCondS (k + 1 + 1) x.cond) x.thn
  omega
theorem nextRuleS_ge (k : Int) (l : List RuleD) : k ≤ nextRuleS k l := by
  induction l generalizing k with
  | nil => exact Int.le_refl _
  | cons x r ih => exact Int.le_trans (nextRule_ge k x) (ih _)
theorem nextRule_le (k : Int) (x : RuleD) : nextRule k x ≤ k + 2 + 16 * costRule x := by
  unfold nextRule
  have := nextCondS_le (k + 1 + 1) x.cond
  have := nextActionS_le (nextCondS (k + 1 + 1) x.cond) x.thn
  simp only [costRule]
  omega
theorem nextRuleS_le (k : Int) (l : List RuleD) : nextRuleS k l ≤ k + 16 * costRuleS l := by
  induction l generalizing k with
  | nil => simp [nextRuleS, costRuleS]
  | cons x r ih =>
    have h1 := nextRule_le k x
    have h2 := ih (nextRule k x)
    simp only [nextRuleS, costRuleS, List.length_cons, List.map_cons, List.sum_cons] at h2 ⊢
    omega

end Go.Proofs.Ytppjenkjopjeiaa

namespace Go.Proofs.Ytppjenkjopjeiaa
open Go.RowKit

set_option maxHeartbeats 1600000 in
theorem markStringS_any (A : Option Addr) (n c : Nat) (ds : List ByteArray) (L : List Nat) (base : Nat) (k : Int) (w : World) (hn : n = ds.length) (hk0 : 1 ≤ k) (hk1 : nextStringS k ds ≤ 4611686018427387904) (h : Got (sliceC strC) base [.slice A n c] ds L w) :
    Calls Try.prog 69 #[.slice A n c, .int .i64 k] w fun e w' => e = .returned (.int .i64 (nextStringS k ds)) ∧ Got (sliceC strC) base [.slice A n c] (mkStringS k ds) L w' ∧ Only L w w' := by
  have H := Lib.hid h
  have HN := Lib.hid hn
  have hk1' : k + n ≤ 4611686018427387904 := by simp only [nextStringS] at hk1; omega
  clear h hn hk1
  go_enter Try.func69, Try.ntmps69
  go_wp2
  go_loopw [1, 5] (fun q j wr => ∃ (i : Nat) (kk : Int) (D : List ByteArray), i ≤ n ∧ j = .int .i64 i ∧ q = .int .i64 kk ∧ 1 ≤ kk ∧ kk + (n - i : Nat) ≤ 4611686018427387904 ∧ Hid (kk = k + i ∧ D.length = i ∧ D ++ mkStringS kk (ds.drop i) = mkStringS k ds) ∧ Hid (Got (sliceC strC) base [.slice A n c] (D ++ ds.drop i) L wr) ∧ Hid (Only L w wr)) (fun _ j _ => n - (intOf j).toNat)
  case atStart => exact ⟨0, k, [], Nat.zero_le _, rfl, rfl, hk0, by omega, ⟨by omega, rfl, rfl⟩, H.out, Only.refl _ _⟩
  case round =>
    obtain ⟨i, kk, D, hi, rfl, rfl, h1, h2, HD, HG, HO⟩ := hrel
    by_cases hlt : i < n
    · have hil : i < ds.length := by have := HN.out; omega
      obtain ⟨hkk, hDl, hDm⟩ := HD.out
      have hcl : i < (D ++ ds.drop i).length := by simp; omega
      obtain ⟨b, off, cs, Lk, rfl, hbL, hLk, hown, hrep, hcells, hput⟩ := HG.out.focus hcl
      obtain ⟨rfl, hlk, _⟩ := hrep
      have HEl := Lib.hid (Elem.start (m := 1) hcells rfl hown)
      have hnext : Hid (ds.drop i = ds[i] :: ds.drop (i + 1)) := List.drop_eq_getElem_cons _
      have HPut := Lib.hid hput
      have HOwn := Lib.hid hown
      have HLk := Lib.hid hLk
      have HLe := Lib.hid hlk
      have HDn : Hid (kk + 1 = k + (i + 1 : Nat) ∧ (D ++ [mTx kk]).length = i + 1 ∧ (D ++ [mTx kk]) ++ mkStringS (kk + 1) (ds.drop (i + 1)) = mkStringS k ds) := by
        refine ⟨by omega, by simp [hDl], ?_⟩
        rw [← hDm, hnext.out]; simp [mkStringS]
      have hset : Hid ((D ++ ds.drop i).set i (mTx kk) = (D ++ [mTx kk]) ++ ds.drop (i + 1)) := by
        rw [Hid, List.set_append_right _ _ (by omega), show i - D.length = 0 by omega, hnext.out, List.set_cons_zero]; simp
      clear hput hown hLk hcells hkk hDl hDm hlk
      simp only [show strC.size = 1 from rfl, Nat.mul_one] at HEl HPut
      go_wp2_with (go_at_call 30; refine (markText_int _ _ (by omega) (by omega)).mono ?_; rintro e w1 ⟨rfl, hb1⟩; have E1 := Lib.hid (HEl.out.later hb1); have q1 := E1.out.at (j := 0) rfl; have z1 := E1.out.frozen (off + i); clear hb1; simp only [Nat.add_zero] at q1)
      have E2 := Lib.hid (E1.out.set 0 (by omega) (.string (mTx kk)))
      have hO2 := Lib.hid (own_cons_keep HOwn.out E2.out.plain E2.out.only (by rw [HLe.out]; simp))
      have HGn := Lib.hid (HPut.out _ _ (mTx kk) E2.out.only E2.out.cells E2.out.rest (by rw [HLe.out]; exact ⟨rfl, rfl, mTx_size _ (by omega)⟩) hO2.out)
      have HOn := Lib.hid (HO.out.trans (E2.out.only.mono (fun y m => by rcases List.mem_cons.1 m with rfl | m; exact hbL; exact HLk.out y m)))
      rw [hset.out] at HGn
      simp only [Nat.add_zero] at HGn HOn
      clear E2 hO2 HPut
      go_wp2_with fail
      go_roundw
      case rel => exact ⟨i + 1, kk + 1, _, by omega, by go_num, rfl, by omega, by omega, HDn, HGn, HOn⟩
      case measure => simp [intOf]; omega
    · obtain rfl : i = n := by omega
      have hf : Hid (nextStringS k ds = kk ∧ D = mkStringS k ds) := by
        obtain ⟨h1, h2, h3⟩ := HD.out
        have e : ds.drop i = [] := List.drop_of_length_le (by have := HN.out; omega)
        rw [e] at h3
        simp [mkStringS] at h3
        exact ⟨by have := HN.out; simp only [nextStringS]; omega, h3⟩
      have e : Hid (ds.drop i = []) := List.drop_of_length_le (by have := HN.out; omega)
      rw [e.out, List.append_nil] at HG
      go_wp2
      go_ret
      exact ⟨ret_i hf.out.1.symm, by rw [← hf.out.2]; exact HG.out, HO.out⟩

set_option maxRecDepth 100000 in
set_option maxHeartbeats 4000000 in
theorem markCondS_any (A : Option Addr) (n c : Nat) (ds : List CondD) (L : List Nat) (base : Nat) (k : Int) (w : World) (hn : n = ds.length) (hm : n ≤ 9223372036854775807) (hk0 : 1 ≤ k) (hk1 : nextCondS k ds ≤ 4611686018427387904) (h : Got (sliceC cCond) base [.slice A n c] ds L w) :
    Calls Try.prog 31 #[.slice A n c, .int .i64 k] w fun e w' => e = .returned (.int .i64 (nextCondS k ds)) ∧ Got (sliceC cCond) base [.slice A n c] (mkCondS k ds) L w' ∧ Only L w w' := by
  have H := Lib.hid h
  have HN := Lib.hid hn
  have HK := Lib.hid hk1
  clear h hn hk1
  go_enter Try.func31, Try.ntmps31
  go_wp2
  go_loopw [1, 5] (fun q j wr => ∃ (i : Nat) (kk : Int) (D : List CondD), i ≤ n ∧ j = .int .i64 i ∧ q = .int .i64 kk ∧ 1 ≤ kk ∧ Hid (nextCondS kk (ds.drop i) = nextCondS k ds ∧ D.length = i ∧ D ++ mkCondS kk (ds.drop i) = mkCondS k ds) ∧ Hid (Got (sliceC cCond) base [.slice A n c] (D ++ ds.drop i) L wr) ∧ Hid (Only L w wr)) (fun _ j _ => n - (intOf j).toNat)
  case atStart => exact ⟨0, k, [], Nat.zero_le _, rfl, rfl, hk0, ⟨rfl, rfl, rfl⟩, H.out, Only.refl _ _⟩
  case round =>
    obtain ⟨i, kk, D, hi, rfl, rfl, h1, HD, HG, HO⟩ := hrel
    by_cases hlt : i < n
    · have hil : i < ds.length := by have := HN.out; omega
      obtain ⟨hkk, hDl, hDm⟩ := HD.out
      have hcl : i < (D ++ ds.drop i).length := by simp; omega
      obtain ⟨b, off, cs, Lk, rfl, hbL, hLk, hown, hrep, hcells, hput⟩ := HG.out.focus hcl
      have hnext : Hid (ds.drop i = ds[i] :: ds.drop (i + 1)) := List.drop_eq_getElem_cons _
      have hxi : (D ++ ds.drop i)[i] = ds[i] := by
        rw [List.getElem_append_right (by omega)]; simp [hDl]
      rw [hxi] at hrep
      clear hxi
      generalize ds[i] = x at hrep hnext
      have hnb : Hid (nextCond kk x ≤ 4611686018427387904) := by
        have := nextCondS_ge (nextCond kk x) (ds.drop (i + 1))
        rw [hnext.out] at hkk
        have hk := HK.out
        rw [← hkk] at hk
        exact Int.le_trans this hk
      have hnb1 := hnb.out
      have hnb2 := nextCond_ge kk x
      unfold nextCond at hnb1 hnb2
      have HDn : Hid (nextCondS (nextCond kk x) (ds.drop (i + 1)) = nextCondS k ds ∧ (D ++ [mkCond kk x]).length = i + 1 ∧ (D ++ [mkCond kk x]) ++ mkCondS (nextCond kk x) (ds.drop (i + 1)) = mkCondS k ds) := by
        refine ⟨by rw [← hkk, hnext.out]; rfl, by simp [hDl], ?_⟩
        rw [← hDm, hnext.out]; simp [mkCondS]
      have hset : Hid ((D ++ ds.drop i).set i (mkCond kk x) = (D ++ [mkCond kk x]) ++ ds.drop (i + 1)) := by
        rw [Hid, List.set_append_right _ _ (by omega), show i - D.length = 0 by omega, hnext.out, List.set_cons_zero]; simp
      obtain ⟨A1, c1, L1, rfl, hLL, t0, t1, t2, n1, m1, s1⟩ := hrep
      unfold maxLen at m1
      subst Lk
      have HEl := Lib.hid (Elem.start (m := 5) hcells rfl hown)
      have hbn := Lib.hid hown.head
      have G1 : Hid (Got (sliceC strC) base [.slice A1 x.pattern.args.length c1] x.pattern.args L1 wr) := ⟨⟨A1, c1, rfl, n1, (by unfold maxLen; omega), s1⟩, hown.tail⟩
      have bn1 : Hid (b ∉ L1) := fun m => hown.head (by simp [m])
      have sb1 : Hid (∀ y ∈ L1, y ∈ L1) := fun y m => by simp [m]
      clear s1
      have HPut := Lib.hid hput
      have HOwn := Lib.hid hown
      have HLk := Lib.hid hLk
      clear hput hown hLk hcells hkk hDl hDm
      simp only [show cCond.size = 5 from rfl] at HEl HPut
      have q0 := HEl.out.at (j := 0) rfl
      have z0 := HEl.out.frozen (off + i * 5)
      have q1 := HEl.out.at (j := 1) rfl
      have z1 := HEl.out.frozen (off + i * 5 + 1)
      have q2 := HEl.out.at (j := 2) rfl
      have z2 := HEl.out.frozen (off + i * 5 + 2)
      have q3 := HEl.out.at (j := 3) rfl
      have z3 := HEl.out.frozen (off + i * 5 + 3)
      have q4 := HEl.out.at (j := 4) rfl
      have z4 := HEl.out.frozen (off + i * 5 + 4)
      simp only [Nat.add_zero] at q0
      have gm0 : (0 : Int) ≤ 0 := by omega
      have mono_x_pattern_args := nextStringS_ge (kk + 1 + 1) x.pattern.args
      go_wp2_with fail
      refine (markText_int _ _ (by omega) (by omega)).mono ?_
      rintro e w1 ⟨rfl, hb1⟩
      have HEl := Lib.hid ((HEl.out.set 0 (by omega) (.int .i64 (kk))).later hb1)
      have G1 := Lib.hid ((G1.out.setFar (p := ⟨b, off + i * 5 + 0, none⟩) bn1.out (.int .i64 (kk))).later hb1)
      clear hb1
      clear q0 z0 q1 z1 q2 z2 q3 z3 q4 z4
      have q0 := HEl.out.at (j := 0) rfl
      have z0 := HEl.out.frozen (off + i * 5)
      have q1 := HEl.out.at (j := 1) rfl
      have z1 := HEl.out.frozen (off + i * 5 + 1)
      have q2 := HEl.out.at (j := 2) rfl
      have z2 := HEl.out.frozen (off + i * 5 + 2)
      have q3 := HEl.out.at (j := 3) rfl
      have z3 := HEl.out.frozen (off + i * 5 + 3)
      have q4 := HEl.out.at (j := 4) rfl
      have z4 := HEl.out.frozen (off + i * 5 + 4)
      simp only [Nat.add_zero] at q0
      go_wp2_with fail
      have G1 := Lib.hid (G1.out.setFar (p := ⟨b, off + i * 5 + 1, none⟩) bn1.out (.string (mTx (kk + 1))))
      refine (markStringS_any A1 _ c1 x.pattern.args L1 base _ _ rfl (by omega) (by omega) G1.out).mono ?_
      rintro e w2 ⟨rfl, g2, on2⟩
      have HEl := Lib.hid ((HEl.out.set 1 (by omega) (.string (mTx (kk + 1)))).marked on2 sb1.out bn1.out)
      have G1 := Lib.hid g2
      clear g2 on2
      clear q0 z0 q1 z1 q2 z2 q3 z3 q4 z4
      have q0 := HEl.out.at (j := 0) rfl
      have z0 := HEl.out.frozen (off + i * 5)
      have q1 := HEl.out.at (j := 1) rfl
      have z1 := HEl.out.frozen (off + i * 5 + 1)
      have q2 := HEl.out.at (j := 2) rfl
      have z2 := HEl.out.frozen (off + i * 5 + 2)
      have q3 := HEl.out.at (j := 3) rfl
      have z3 := HEl.out.frozen (off + i * 5 + 3)
      have q4 := HEl.out.at (j := 4) rfl
      have z4 := HEl.out.frozen (off + i * 5 + 4)
      simp only [Nat.add_zero] at q0
      go_wp2_with fail
      refine (markText_int _ _ (by omega) (by omega)).mono ?_
      rintro e w3 ⟨rfl, hb3⟩
      have HEl := Lib.hid (HEl.out.later hb3)
      have G1 := Lib.hid (G1.out.later hb3)
      clear hb3
      clear q0 z0 q1 z1 q2 z2 q3 z3 q4 z4
      have q0 := HEl.out.at (j := 0) rfl
      have z0 := HEl.out.frozen (off + i * 5)
      have q1 := HEl.out.at (j := 1) rfl
      have z1 := HEl.out.frozen (off + i * 5 + 1)
      have q2 := HEl.out.at (j := 2) rfl
      have z2 := HEl.out.frozen (off + i * 5 + 2)
      have q3 := HEl.out.at (j := 3) rfl
      have z3 := HEl.out.frozen (off + i * 5 + 3)
      have q4 := HEl.out.at (j := 4) rfl
      have z4 := HEl.out.frozen (off + i * 5 + 4)
      simp only [Nat.add_zero] at q0
      go_wp2_with fail
      refine (markText_int _ _ (by omega) (by omega)).mono ?_
      rintro e w4 ⟨rfl, hb4⟩
      have HEl := Lib.hid ((HEl.out.set 3 (by omega) (.string (mTx (nextStringS (kk + 1 + 1) x.pattern.args)))).later hb4)
      have G1 := Lib.hid ((G1.out.setFar (p := ⟨b, off + i * 5 + 3, none⟩) bn1.out (.string (mTx (nextStringS (kk + 1 + 1) x.pattern.args)))).later hb4)
      clear hb4
      clear q0 z0 q1 z1 q2 z2 q3 z3 q4 z4
      have q0 := HEl.out.at (j := 0) rfl
      have z0 := HEl.out.frozen (off + i * 5)
      have q1 := HEl.out.at (j := 1) rfl
      have z1 := HEl.out.frozen (off + i * 5 + 1)
      have q2 := HEl.out.at (j := 2) rfl
      have z2 := HEl.out.frozen (off + i * 5 + 2)
      have q3 := HEl.out.at (j := 3) rfl
      have z3 := HEl.out.frozen (off + i * 5 + 3)
      have q4 := HEl.out.at (j := 4) rfl
      have z4 := HEl.out.frozen (off + i * 5 + 4)
      simp only [Nat.add_zero] at q0
      have HEl := Lib.hid (HEl.out.set 4 (by omega) (.string (mTx (nextStringS (kk + 1 + 1) x.pattern.args + 1))))
      have G1 := Lib.hid (G1.out.setFar (p := ⟨b, off + i * 5 + 4, none⟩) bn1.out (.string (mTx (nextStringS (kk + 1 + 1) x.pattern.args + 1))))
      obtain ⟨nn1, mm1, ss1⟩ := sliceC_out G1.out.rep
      have hO2 := Lib.hid (own_cons_keep HOwn.out HEl.out.plain HEl.out.only (fun y m => by (try simp only [List.mem_append] at m); exact G1.out.own.plain y m))
      have HGn := Lib.hid (HPut.out _ _ (mkCond kk x) HEl.out.only HEl.out.cells HEl.out.rest ⟨A1, c1, L1, by simp [mkCond, mkStringS_len], rfl, mTx_size _ (by omega), mTx_size _ (by omega), mTx_size _ (by omega), nn1, mm1, ss1⟩ hO2.out)
      have HOn := Lib.hid (HO.out.trans (HEl.out.only.mono (fun y m => by rcases List.mem_cons.1 m with rfl | m; exact hbL; exact HLk.out y m)))
      rw [hset.out] at HGn
      try simp only [Nat.add_zero] at HGn HOn
      clear HEl hO2 HPut G1 nn1 mm1 ss1
      go_wp2_with fail
      go_roundw
      case rel => exact ⟨i + 1, nextCond kk x, _, by omega, by go_num, rfl, by unfold nextCond; omega, HDn, HGn, HOn⟩
      case measure => simp [intOf]; omega
    · obtain rfl : i = n := by omega
      have e : Hid (ds.drop i = []) := List.drop_of_length_le (by have := HN.out; omega)
      have hf : Hid (nextCondS k ds = kk ∧ D = mkCondS k ds) := by
        obtain ⟨h1, h2, h3⟩ := HD.out
        rw [e.out] at h3 h1
        simp [mkCondS] at h3
        exact ⟨h1.symm, h3⟩
      rw [e.out, List.append_nil] at HG
      go_wp2
      go_ret
      exact ⟨ret_i hf.out.1.symm, by rw [← hf.out.2]; exact HG.out, HO.out⟩

set_option maxRecDepth 100000 in
set_option maxHeartbeats 4000000 in
theorem markActionS_any (A : Option Addr) (n c : Nat) (ds : List ActionD) (L : List Nat) (base : Nat) (k : Int) (w : World) (hn : n = ds.length) (hm : n ≤ 9223372036854775807) (hk0 : 1 ≤ k) (hk1 : nextActionS k ds ≤ 4611686018427387904) (h : Got (sliceC cAction) base [.slice A n c] ds L w) :
    Calls Try.prog 32 #[.slice A n c, .int .i64 k] w fun e w' => e = .returned (.int .i64 (nextActionS k ds)) ∧ Got (sliceC cAction) base [.slice A n c] (mkActionS k ds) L w' ∧ Only L w w' := by
  have H := Lib.hid h
  have HN := Lib.hid hn
  have HK := Lib.hid hk1
  clear h hn hk1
  go_enter Try.func32, Try.ntmps32
  go_wp2
  go_loopw [1, 5] (fun q j wr => ∃ (i : Nat) (kk : Int) (D : List ActionD), i ≤ n ∧ j = .int .i64 i ∧ q = .int .i64 kk ∧ 1 ≤ kk ∧ Hid (nextActionS kk (ds.drop i) = nextActionS k ds ∧ D.length = i ∧ D ++ mkActionS kk (ds.drop i) = mkActionS k ds) ∧ Hid (Got (sliceC cAction) base [.slice A n c] (D ++ ds.drop i) L wr) ∧ Hid (Only L w wr)) (fun _ j _ => n - (intOf j).toNat)
  case atStart => exact ⟨0, k, [], Nat.zero_le _, rfl, rfl, hk0, ⟨rfl, rfl, rfl⟩, H.out, Only.refl _ _⟩
  case round =>
    obtain ⟨i, kk, D, hi, rfl, rfl, h1, HD, HG, HO⟩ := hrel
    by_cases hlt : i < n
    · have hil : i < ds.length := by have := HN.out; omega
      obtain ⟨hkk, hDl, hDm⟩ := HD.out
      have hcl : i < (D ++ ds.drop i).length := by simp; omega
      obtain ⟨b, off, cs, Lk, rfl, hbL, hLk, hown, hrep, hcells, hput⟩ := HG.out.focus hcl
      have hnext : Hid (ds.drop i = ds[i] :: ds.drop (i + 1)) := List.drop_eq_getElem_cons _
      have hxi : (D ++ ds.drop i)[i] = ds[i] := by
        rw [List.getElem_append_right (by omega)]; simp [hDl]
      rw [hxi] at hrep
      clear hxi
      generalize ds[i] = x at hrep hnext
      have hnb : Hid (nextAction kk x ≤ 4611686018427387904) := by
        have := nextActionS_ge (nextAction kk x) (ds.drop (i + 1))
        rw [hnext.out] at hkk
        have hk := HK.out
        rw [← hkk] at hk
        exact Int.le_trans this hk
      have hnb1 := hnb.out
      have hnb2 := nextAction_ge kk x
      unfold nextAction at hnb1 hnb2
      have HDn : Hid (nextActionS (nextAction kk x) (ds.drop (i + 1)) = nextActionS k ds ∧ (D ++ [mkAction kk x]).length = i + 1 ∧ (D ++ [mkAction kk x]) ++ mkActionS (nextAction kk x) (ds.drop (i + 1)) = mkActionS k ds) := by
        refine ⟨by rw [← hkk, hnext.out]; rfl, by simp [hDl], ?_⟩
        rw [← hDm, hnext.out]; simp [mkActionS]
      have hset : Hid ((D ++ ds.drop i).set i (mkAction kk x) = (D ++ [mkAction kk x]) ++ ds.drop (i + 1)) := by
        rw [Hid, List.set_append_right _ _ (by omega), show i - D.length = 0 by omega, hnext.out, List.set_cons_zero]; simp
      obtain ⟨A1, c1, L1, rfl, hLL, t0, n1, m1, s1⟩ := hrep
      unfold maxLen at m1
      subst Lk
      have HEl := Lib.hid (Elem.start (m := 3) hcells rfl hown)
      have hbn := Lib.hid hown.head
      have G1 : Hid (Got (sliceC strC) base [.slice A1 x.pattern.args.length c1] x.pattern.args L1 wr) := ⟨⟨A1, c1, rfl, n1, (by unfold maxLen; omega), s1⟩, hown.tail⟩
      have bn1 : Hid (b ∉ L1) := fun m => hown.head (by simp [m])
      have sb1 : Hid (∀ y ∈ L1, y ∈ L1) := fun y m => by simp [m]
      clear s1
      have HPut := Lib.hid hput
      have HOwn := Lib.hid hown
      have HLk := Lib.hid hLk
      clear hput hown hLk hcells hkk hDl hDm
      simp only [show cAction.size = 3 from rfl] at HEl HPut
      have q0 := HEl.out.at (j := 0) rfl
      have z0 := HEl.out.frozen (off + i * 3)
      have q1 := HEl.out.at (j := 1) rfl
      have z1 := HEl.out.frozen (off + i * 3 + 1)
      have q2 := HEl.out.at (j := 2) rfl
      have z2 := HEl.out.frozen (off + i * 3 + 2)
      simp only [Nat.add_zero] at q0
      have gm0 : (0 : Int) ≤ 0 := by omega
      have mono_x_pattern_args := nextStringS_ge (kk + 1 + 1) x.pattern.args
      go_wp2_with fail
      refine (markText_int _ _ (by omega) (by omega)).mono ?_
      rintro e w1 ⟨rfl, hb1⟩
      have HEl := Lib.hid ((HEl.out.set 0 (by omega) (.int .i64 (kk))).later hb1)
      have G1 := Lib.hid ((G1.out.setFar (p := ⟨b, off + i * 3 + 0, none⟩) bn1.out (.int .i64 (kk))).later hb1)
      clear hb1
      clear q0 z0 q1 z1 q2 z2
      have q0 := HEl.out.at (j := 0) rfl
      have z0 := HEl.out.frozen (off + i * 3)
      have q1 := HEl.out.at (j := 1) rfl
      have z1 := HEl.out.frozen (off + i * 3 + 1)
      have q2 := HEl.out.at (j := 2) rfl
      have z2 := HEl.out.frozen (off + i * 3 + 2)
      simp only [Nat.add_zero] at q0
      go_wp2_with fail
      have G1 := Lib.hid (G1.out.setFar (p := ⟨b, off + i * 3 + 1, none⟩) bn1.out (.string (mTx (kk + 1))))
      refine (markStringS_any A1 _ c1 x.pattern.args L1 base _ _ rfl (by omega) (by omega) G1.out).mono ?_
      rintro e w2 ⟨rfl, g2, on2⟩
      have HEl := Lib.hid ((HEl.out.set 1 (by omega) (.string (mTx (kk + 1)))).marked on2 sb1.out bn1.out)
      have G1 := Lib.hid g2
      clear g2 on2
      clear q0 z0 q1 z1 q2 z2
      have q0 := HEl.out.at (j := 0) rfl
      have z0 := HEl.out.frozen (off + i * 3)
      have q1 := HEl.out.at (j := 1) rfl
      have z1 := HEl.out.frozen (off + i * 3 + 1)
      have q2 := HEl.out.at (j := 2) rfl
      have z2 := HEl.out.frozen (off + i * 3 + 2)
      simp only [Nat.add_zero] at q0
      obtain ⟨nn1, mm1, ss1⟩ := sliceC_out G1.out.rep
      have hO2 := Lib.hid (own_cons_keep HOwn.out HEl.out.plain HEl.out.only (fun y m => by (try simp only [List.mem_append] at m); exact G1.out.own.plain y m))
      have HGn := Lib.hid (HPut.out _ _ (mkAction kk x) HEl.out.only HEl.out.cells HEl.out.rest ⟨A1, c1, L1, by simp [mkAction, mkStringS_len], rfl, mTx_size _ (by omega), nn1, mm1, ss1⟩ hO2.out)
      have HOn := Lib.hid (HO.out.trans (HEl.out.only.mono (fun y m => by rcases List.mem_cons.1 m with rfl | m; exact hbL; exact HLk.out y m)))
      rw [hset.out] at HGn
      try simp only [Nat.add_zero] at HGn HOn
      clear HEl hO2 HPut G1 nn1 mm1 ss1
      go_wp2_with fail
      go_roundw
      case rel => exact ⟨i + 1, nextAction kk x, _, by omega, by go_num, rfl, by unfold nextAction; omega, HDn, HGn, HOn⟩
      case measure => simp [intOf]; omega
    · obtain rfl : i = n := by omega
      have e : Hid (ds.drop i = []) := List.drop_of_length_le (by have := HN.out; omega)
      have hf : Hid (nextActionS k ds = kk ∧ D = mkActionS k ds) := by
        obtain ⟨h1, h2, h3⟩ := HD.out
        rw [e.out] at h3 h1
        simp [mkActionS] at h3
        exact ⟨h1.symm, h3⟩
      rw [e.out, List.append_nil] at HG
      go_wp2
      go_ret
      exact ⟨ret_i hf.out.1.symm, by rw [← hf.out.2]; exact HG.out, HO.out⟩

set_option maxRecDepth 100000 in
set_option maxHeartbeats 4000000 in
theorem markRuleS_any (A : Option Addr) (n c : Nat) (ds : List RuleD) (L : List Nat) (base : Nat) (k : Int) (w : World) (hn : n = ds.length) (hm : n ≤ 9223372036854775807) (hk0 : 1 ≤ k) (hk1 : nextRuleS k ds ≤ 4611686018427387904) (h : Got (sliceC cRule) base [.slice A n c] ds L w) :
    Calls Try.prog 10 #[.slice A n c, .int .i64 k] w fun e w' => e = .returned (.int .i64 (nextRuleS k ds)) ∧ Got (sliceC cRule) base [.slice A n c] (mkRuleS k ds) L w' ∧ Only L w w' := by
  have H := Lib.hid h
  have HN := Lib.hid hn
  have HK := Lib.hid hk1
  clear h hn hk1
  go_enter Try.func10, Try.ntmps10
  go_wp2
  go_loopw [1, 5] (fun q j wr => ∃ (i : Nat) (kk : Int) (D : List RuleD), i ≤ n ∧ j = .int .i64 i ∧ q = .int .i64 kk ∧ 1 ≤ kk ∧ Hid (nextRuleS kk (ds.drop i) = nextRuleS k ds ∧ D.length = i ∧ D ++ mkRuleS kk (ds.drop i) = mkRuleS k ds) ∧ Hid (Got (sliceC cRule) base [.slice A n c] (D ++ ds.drop i) L wr) ∧ Hid (Only L w wr)) (fun _ j _ => n - (intOf j).toNat)
  case atStart => exact ⟨0, k, [], Nat.zero_le _, rfl, rfl, hk0, ⟨rfl, rfl, rfl⟩, H.out, Only.refl _ _⟩
  case round =>
    obtain ⟨i, kk, D, hi, rfl, rfl, h1, HD, HG, HO⟩ := hrel
    by_cases hlt : i < n
    · have hil : i < ds.length := by have := HN.out; omega
      obtain ⟨hkk, hDl, hDm⟩ := HD.out
      have hcl : i < (D ++ ds.drop i).length := by simp; omega
      obtain ⟨b, off, cs, Lk, rfl, hbL, hLk, hown, hrep, hcells, hput⟩ := HG.out.focus hcl
      have hnext : Hid (ds.drop i = ds[i] :: ds.drop (i + 1)) := List.drop_eq_getElem_cons _
      have hxi : (D ++ ds.drop i)[i] = ds[i] := by
        rw [List.getElem_append_right (by omega)]; simp [hDl]
      rw [hxi] at hrep
      clear hxi
      generalize ds[i] = x at hrep hnext
      have hnb : Hid (nextRule kk x ≤ 4611686018427387904) := by
        have := nextRuleS_ge (nextRule kk x) (ds.drop (i + 1))
        rw [hnext.out] at hkk
        have hk := HK.out
        rw [← hkk] at hk
        exact Int.le_trans this hk
      have hnb1 := hnb.out
      have hnb2 := nextRule_ge kk x
      unfold nextRule at hnb1 hnb2
      have HDn : Hid (nextRuleS (nextRule kk x) (ds.drop (i + 1)) = nextRuleS k ds ∧ (D ++ [mkRule kk x]).length = i + 1 ∧ (D ++ [mkRule kk x]) ++ mkRuleS (nextRule kk x) (ds.drop (i + 1)) = mkRuleS k ds) := by
        refine ⟨by rw [← hkk, hnext.out]; rfl, by simp [hDl], ?_⟩
        rw [← hDm, hnext.out]; simp [mkRuleS]
      have hset : Hid ((D ++ ds.drop i).set i (mkRule kk x) = (D ++ [mkRule kk x]) ++ ds.drop (i + 1)) := by
        rw [Hid, List.set_append_right _ _ (by omega), show i - D.length = 0 by omega, hnext.out, List.set_cons_zero]; simp
      obtain ⟨A1, c1, L1, A2, c2, L2, rfl, hLL, t0, n1, m1, s1, n2, m2, s2⟩ := hrep
      unfold maxLen at m1 m2
      subst hLL
      have HEl := Lib.hid (Elem.start (m := 4) hcells rfl hown)
      have hbn := Lib.hid hown.head
      have G1 : Hid (Got (sliceC cCond) base [.slice A1 x.cond.length c1] x.cond L1 wr) := ⟨⟨A1, c1, rfl, n1, (by unfold maxLen; omega), s1⟩, hown.tail.left⟩
      have bn1 : Hid (b ∉ L1) := fun m => hown.head (by simp [m])
      have sb1 : Hid (∀ y ∈ L1, y ∈ L1 ++ L2) := fun y m => by simp [m]
      have ap1_2 : Hid (∀ y ∈ L1, y ∉ L2) := fun y m m' => hown.tail.apart y m (by simp [m'])
      have ap2_1 : Hid (∀ y ∈ L2, y ∉ L1) := fun y m m' => ap1_2.out y m' m
      have G2 : Hid (Got (sliceC cAction) base [.slice A2 x.thn.length c2] x.thn L2 wr) := ⟨⟨A2, c2, rfl, n2, (by unfold maxLen; omega), s2⟩, hown.tail.right⟩
      have bn2 : Hid (b ∉ L2) := fun m => hown.head (by simp [m])
      have sb2 : Hid (∀ y ∈ L2, y ∈ L1 ++ L2) := fun y m => by simp [m]
      clear s1
      clear s2
      have HPut := Lib.hid hput
      have HOwn := Lib.hid hown
      have HLk := Lib.hid hLk
      clear hput hown hLk hcells hkk hDl hDm
      simp only [show cRule.size = 4 from rfl] at HEl HPut
      have q0 := HEl.out.at (j := 0) rfl
      have z0 := HEl.out.frozen (off + i * 4)
      have q1 := HEl.out.at (j := 1) rfl
      have z1 := HEl.out.frozen (off + i * 4 + 1)
      have q2 := HEl.out.at (j := 2) rfl
      have z2 := HEl.out.frozen (off + i * 4 + 2)
      have q3 := HEl.out.at (j := 3) rfl
      have z3 := HEl.out.frozen (off + i * 4 + 3)
      simp only [Nat.add_zero] at q0
      have gm0 : (0 : Int) ≤ 0 := by omega
      have mono_x_cond := nextCondS_ge (kk + 1 + 1) x.cond
      have mono_x_thn := nextActionS_ge (nextCondS (kk + 1 + 1) x.cond) x.thn
      go_wp2_with fail
      refine (markText_int _ _ (by omega) (by omega)).mono ?_
      rintro e w1 ⟨rfl, hb1⟩
      have HEl := Lib.hid (HEl.out.later hb1)
      have G1 := Lib.hid (G1.out.later hb1)
      have G2 := Lib.hid (G2.out.later hb1)
      clear hb1
      clear q0 z0 q1 z1 q2 z2 q3 z3
      have q0 := HEl.out.at (j := 0) rfl
      have z0 := HEl.out.frozen (off + i * 4)
      have q1 := HEl.out.at (j := 1) rfl
      have z1 := HEl.out.frozen (off + i * 4 + 1)
      have q2 := HEl.out.at (j := 2) rfl
      have z2 := HEl.out.frozen (off + i * 4 + 2)
      have q3 := HEl.out.at (j := 3) rfl
      have z3 := HEl.out.frozen (off + i * 4 + 3)
      simp only [Nat.add_zero] at q0
      go_wp2_with fail
      have G1 := Lib.hid ((G1.out.setFar (p := ⟨b, off + i * 4 + 0, none⟩) bn1.out (.string (mTx (kk)))).setFar (p := ⟨b, off + i * 4 + 1, none⟩) bn1.out (.int .i64 (kk + 1)))
      refine (markCondS_any A1 _ c1 x.cond L1 base _ _ rfl (by omega) (by omega) (by omega) G1.out).mono ?_
      rintro e w2 ⟨rfl, g2, on2⟩
      have HEl := Lib.hid (((HEl.out.set 0 (by omega) (.string (mTx (kk)))).set 1 (by omega) (.int .i64 (kk + 1))).marked on2 sb1.out bn1.out)
      have G1 := Lib.hid g2
      have G2 := Lib.hid (((G2.out.setFar (p := ⟨b, off + i * 4 + 0, none⟩) bn2.out (.string (mTx (kk)))).setFar (p := ⟨b, off + i * 4 + 1, none⟩) bn2.out (.int .i64 (kk + 1))).only on2 ap2_1.out)
      clear g2 on2
      clear q0 z0 q1 z1 q2 z2 q3 z3
      have q0 := HEl.out.at (j := 0) rfl
      have z0 := HEl.out.frozen (off + i * 4)
      have q1 := HEl.out.at (j := 1) rfl
      have z1 := HEl.out.frozen (off + i * 4 + 1)
      have q2 := HEl.out.at (j := 2) rfl
      have z2 := HEl.out.frozen (off + i * 4 + 2)
      have q3 := HEl.out.at (j := 3) rfl
      have z3 := HEl.out.frozen (off + i * 4 + 3)
      simp only [Nat.add_zero] at q0
      go_wp2_with fail
      refine (markActionS_any A2 _ c2 x.thn L2 base _ _ rfl (by omega) (by omega) (by omega) G2.out).mono ?_
      rintro e w3 ⟨rfl, g3, on3⟩
      have HEl := Lib.hid (HEl.out.marked on3 sb2.out bn2.out)
      have G1 := Lib.hid (G1.out.only on3 ap1_2.out)
      have G2 := Lib.hid g3
      clear g3 on3
      clear q0 z0 q1 z1 q2 z2 q3 z3
      have q0 := HEl.out.at (j := 0) rfl
      have z0 := HEl.out.frozen (off + i * 4)
      have q1 := HEl.out.at (j := 1) rfl
      have z1 := HEl.out.frozen (off + i * 4 + 1)
      have q2 := HEl.out.at (j := 2) rfl
      have z2 := HEl.out.frozen (off + i * 4 + 2)
      have q3 := HEl.out.at (j := 3) rfl
      have z3 := HEl.out.frozen (off + i * 4 + 3)
      simp only [Nat.add_zero] at q0
      obtain ⟨nn1, mm1, ss1⟩ := sliceC_out G1.out.rep
      obtain ⟨nn2, mm2, ss2⟩ := sliceC_out G2.out.rep
      have hO2 := Lib.hid (own_cons_keep HOwn.out HEl.out.plain HEl.out.only (fun y m => by (try simp only [List.mem_append] at m); rcases m with m | m <;> first | exact G1.out.own.plain y m | exact G2.out.own.plain y m))
      have HGn := Lib.hid (HPut.out _ _ (mkRule kk x) HEl.out.only HEl.out.cells HEl.out.rest ⟨A1, c1, L1, A2, c2, L2, by simp [mkRule, mkCondS_len, mkActionS_len], rfl, mTx_size _ (by omega), nn1, mm1, ss1, nn2, mm2, ss2⟩ hO2.out)
      have HOn := Lib.hid (HO.out.trans (HEl.out.only.mono (fun y m => by rcases List.mem_cons.1 m with rfl | m; exact hbL; exact HLk.out y m)))
      rw [hset.out] at HGn
      try simp only [Nat.add_zero] at HGn HOn
      clear HEl hO2 HPut G1 G2 nn1 nn2 mm1 mm2 ss1 ss2
      go_wp2_with fail
      go_roundw
      case rel => exact ⟨i + 1, nextRule kk x, _, by omega, by go_num, rfl, by unfold nextRule; omega, HDn, HGn, HOn⟩
      case measure => simp [intOf]; omega
    · obtain rfl : i = n := by omega
      have e : Hid (ds.drop i = []) := List.drop_of_length_le (by have := HN.out; omega)
      have hf : Hid (nextRuleS k ds = kk ∧ D = mkRuleS k ds) := by
        obtain ⟨h1, h2, h3⟩ := HD.out
        rw [e.out] at h3 h1
        simp [mkRuleS] at h3
        exact ⟨h1.symm, h3⟩
      rw [e.out, List.append_nil] at HG
      go_wp2
      go_ret
      exact ⟨ret_i hf.out.1.symm, by rw [← hf.out.2]; exact HG.out, HO.out⟩

end Go.Proofs.Ytppjenkjopjeiaa

namespace Go.Proofs.Ytppjenkjopjeiaa
open Go.RowKit

theorem below_of_drew {w w1 : World} {B : Nat} (h : Below w.drew.heap.size w.drew w1) (hB : B ≤ w.heap.size) : Below B w w1 := ⟨h.os, h.tape, h.output, h.size, fun k hk => h.block k (Nat.lt_of_lt_of_le hk hB)⟩

set_option maxHeartbeats 1600000 in
theorem heldStringS_any (A : Option Addr) (n c : Nat) (ds : List ByteArray) (L : List Nat) (k : Int) (w : World) (hn : n = ds.length) (hk0 : 1 ≤ k) (hk1 : nextStringS k ds ≤ 4611686018427387904) (h : Sli strC w A (mkStringS k ds) L) :
    Calls Try.prog 70 #[.slice A n c, .int .i64 k] w fun e w' => e = .returned (.int .i64 (nextStringS k ds)) ∧ Below w.heap.size w w' := by
  have H := Lib.hid h
  have HN := Lib.hid hn
  have hk1' : k + n ≤ 4611686018427387904 := by simp only [nextStringS] at hk1; omega
  clear h hn hk1
  go_enter Try.func70, Try.ntmps70
  go_wp2
  go_loopw [1, 5] (fun q j wr => ∃ (i : Nat) (kk : Int), i ≤ n ∧ j = .int .i64 i ∧ q = .int .i64 kk ∧ 1 ≤ kk ∧ kk + (n - i : Nat) ≤ 4611686018427387904 ∧ Hid (kk = k + i ∧ (mkStringS k ds).drop i = mkStringS kk (ds.drop i)) ∧ Hid (Below w.heap.size w wr)) (fun _ j _ => n - (intOf j).toNat)
  case atStart => exact ⟨0, k, Nat.zero_le _, rfl, rfl, hk0, by omega, ⟨by omega, rfl⟩, Below.refl _ _⟩
  case round =>
    obtain ⟨i, kk, hi, rfl, rfl, h1, h2, HD, HB⟩ := hrel
    by_cases hlt : i < n
    · have hil : i < ds.length := by have := HN.out; omega
      obtain ⟨hkk, hdr⟩ := HD.out
      have hml : i < (mkStringS k ds).length := by rw [mkStringS_len]; exact hil
      obtain ⟨b, off, cs, Lk, rfl, hbL, _, hrep, hc⟩ := H.out.at_ hml
      have hdr2 := hdr
      rw [List.drop_eq_getElem_cons hml, List.drop_eq_getElem_cons hil, mkStringS] at hdr2
      injection hdr2 with e1 e2
      rw [e1] at hrep
      obtain ⟨rfl, _, _⟩ := hrep
      have hbl : b < w.heap.size := H.out.lt b hbL
      have hbr : b < wr.heap.size := Nat.lt_of_lt_of_le hbl HB.out.size
      have q0 := (HB.out.cell (p := ⟨b, off + (i * strC.size + 0), none⟩) hbl).trans (hc 0 _ rfl)
      simp only [show strC.size = 1 from rfl, Nat.mul_one, Nat.add_zero] at q0
      have HDn : Hid (kk + 1 = k + (i + 1 : Nat) ∧ (mkStringS k ds).drop (i + 1) = mkStringS (kk + 1) (ds.drop (i + 1))) := ⟨by omega, e2⟩
      clear hc hkk hdr e1 e2
      have i0 : (0 : Int) ≤ i := by omega
      have i1 : (i : Int) < n := by omega
      go_wp2_with fail
      go_region_held3 (fun w' => w'.cell? ⟨b, off + i, none⟩ = some (.string (mTx kk))) (first | go_keep | exact (hb1.cell (p := ⟨b, off + i, none⟩) hbr).trans q0) (first | (go_at_call 30; refine (markText_int _ _ (by omega) (by omega)).mono ?_; rintro e w1 ⟨rfl, hb1⟩))
      have HBn := Lib.hid (HB.out.trans (below_of_drew hb1 HB.out.size))
      clear hb1
      go_wp2_with fail
      go_roundw
      case rel => exact ⟨i + 1, kk + 1, by omega, by go_num, rfl, by omega, by omega, HDn, HBn⟩
      case measure => simp [intOf]; omega
    · obtain rfl : i = n := by omega
      have hf : Hid (nextStringS k ds = kk) := by
        obtain ⟨h1, _⟩ := HD.out
        have := HN.out; rw [Hid]; simp only [nextStringS]; omega
      go_wp2
      go_ret
      exact ⟨ret_i hf.out.symm, HB.out⟩

set_option maxRecDepth 100000 in
set_option maxHeartbeats 4000000 in
theorem heldCondS_any (A : Option Addr) (n c : Nat) (ds : List CondD) (L : List Nat) (k : Int) (w : World) (hn : n = ds.length) (hm : n ≤ 9223372036854775807) (hk0 : 1 ≤ k) (hk1 : nextCondS k ds ≤ 4611686018427387904) (h : Sli cCond w A (mkCondS k ds) L) :
    Calls Try.prog 33 #[.slice A n c, .int .i64 k] w fun e w' => e = .returned (.int .i64 (nextCondS k ds)) ∧ Below w.heap.size w w' := by
  have H := Lib.hid h
  have HN := Lib.hid hn
  have HK := Lib.hid hk1
  clear h hn hk1
  go_enter Try.func33, Try.ntmps33
  go_wp2
  go_loopw [1, 5] (fun q j wr => ∃ (i : Nat) (kk : Int), i ≤ n ∧ j = .int .i64 i ∧ q = .int .i64 kk ∧ 1 ≤ kk ∧ Hid (nextCondS kk (ds.drop i) = nextCondS k ds ∧ (mkCondS k ds).drop i = mkCondS kk (ds.drop i)) ∧ Hid (Below w.heap.size w wr)) (fun _ j _ => n - (intOf j).toNat)
  case atStart => exact ⟨0, k, Nat.zero_le _, rfl, rfl, hk0, ⟨rfl, rfl⟩, Below.refl _ _⟩
  case round =>
    obtain ⟨i, kk, hi, rfl, rfl, h1, HD, HB⟩ := hrel
    by_cases hlt : i < n
    · have hil : i < ds.length := by have := HN.out; omega
      obtain ⟨hkk, hdr⟩ := HD.out
      have hml : i < (mkCondS k ds).length := by rw [mkCondS_len]; exact hil
      obtain ⟨b, off, cs, Lk, rfl, hbL, hLk, hrep, hc⟩ := H.out.at_ hml
      rw [List.drop_eq_getElem_cons hml, List.drop_eq_getElem_cons hil, mkCondS] at hdr
      injection hdr with e1 e2
      rw [e1] at hrep
      clear e1
      have hnext : ds.drop i = ds[i] :: ds.drop (i + 1) := List.drop_eq_getElem_cons _
      rw [hnext] at hkk
      clear hnext
      generalize ds[i] = x at hrep hkk e2
      have hnb : Hid (nextCond kk x ≤ 4611686018427387904) := by
        have := nextCondS_ge (nextCond kk x) (ds.drop (i + 1))
        have hk := HK.out
        rw [← hkk] at hk
        exact Int.le_trans this hk
      have hnb1 := hnb.out
      have hnb2 := nextCond_ge kk x
      unfold nextCond at hnb1 hnb2
      have HDn : Hid (nextCondS (nextCond kk x) (ds.drop (i + 1)) = nextCondS k ds ∧ (mkCondS k ds).drop (i + 1) = mkCondS (nextCond kk x) (ds.drop (i + 1))) := ⟨hkk, e2⟩
      have hbl : b < w.heap.size := H.out.lt b hbL
      clear hkk e2
      obtain ⟨A1, c1, L1, rfl, hLL, t0, t1, t2, n1, m1, s1⟩ := hrep
      have S1 := Lib.hid s1
      have lL1 : Hid (∀ y ∈ L1, y < w.heap.size) := fun y m => H.out.lt y (hLk y (by rw [hLL]; simp [m]))
      have ll1 : (mkCond kk x).pattern.args.length = x.pattern.args.length := mkStringS_len _ _
      clear s1
      have Q0 := Lib.hid (hc 0 _ rfl)
      have Q1 := Lib.hid (hc 1 _ rfl)
      have Q2 := Lib.hid (hc 2 _ rfl)
      have Q3 := Lib.hid (hc 3 _ rfl)
      have Q4 := Lib.hid (hc 4 _ rfl)
      unfold maxLen at m1
      rw [ll1] at Q2 n1
      clear hc ll1
      have i0 : (0 : Int) ≤ i := by omega
      have i1 : (i : Int) < n := by omega
      have mono_x_pattern_args := nextStringS_ge (kk + 1 + 1) x.pattern.args
      have q0 : wr.cell? ⟨b, off + i * 5, none⟩ = some (.int .i64 (kk)) := (HB.out.cell (p := ⟨b, off + (i * 5 + 0), none⟩) hbl).trans Q0.out
      have q1 : wr.cell? ⟨b, off + i * 5 + 1, none⟩ = some (.string (mTx (kk + 1))) := (HB.out.cell (p := ⟨b, off + (i * 5 + 1), none⟩) hbl).trans Q1.out
      have q2 : wr.cell? ⟨b, off + i * 5 + 2, none⟩ = some (.slice A1 x.pattern.args.length c1) := (HB.out.cell (p := ⟨b, off + (i * 5 + 2), none⟩) hbl).trans Q2.out
      have q3 : wr.cell? ⟨b, off + i * 5 + 3, none⟩ = some (.string (mTx (nextStringS (kk + 1 + 1) x.pattern.args))) := (HB.out.cell (p := ⟨b, off + (i * 5 + 3), none⟩) hbl).trans Q3.out
      have q4 : wr.cell? ⟨b, off + i * 5 + 4, none⟩ = some (.string (mTx (nextStringS (kk + 1 + 1) x.pattern.args + 1))) := (HB.out.cell (p := ⟨b, off + (i * 5 + 4), none⟩) hbl).trans Q4.out
      have hbr : b < wr.heap.size := Nat.lt_of_lt_of_le hbl HB.out.size
      go_wp2_with fail
      go_region_held3 (fun w' => w'.cell? ⟨b, off + i * 5 + 1, none⟩ = some (.string (mTx (kk + 1)))) (first | go_keep | exact (hb1.cell (p := ⟨b, off + i * 5 + 1, none⟩) hbr).trans q1) (first | (go_at_call 30; refine (markText_int _ _ (by omega) (by omega)).mono ?_; rintro e w1 ⟨rfl, hb1⟩))
      have HB := Lib.hid (HB.out.trans (below_of_drew hb1 HB.out.size))
      clear hb1
      clear q0 q1 q2 q3 q4
      have q0 : w1.cell? ⟨b, off + i * 5, none⟩ = some (.int .i64 (kk)) := (HB.out.cell (p := ⟨b, off + (i * 5 + 0), none⟩) hbl).trans Q0.out
      have q1 : w1.cell? ⟨b, off + i * 5 + 1, none⟩ = some (.string (mTx (kk + 1))) := (HB.out.cell (p := ⟨b, off + (i * 5 + 1), none⟩) hbl).trans Q1.out
      have q2 : w1.cell? ⟨b, off + i * 5 + 2, none⟩ = some (.slice A1 x.pattern.args.length c1) := (HB.out.cell (p := ⟨b, off + (i * 5 + 2), none⟩) hbl).trans Q2.out
      have q3 : w1.cell? ⟨b, off + i * 5 + 3, none⟩ = some (.string (mTx (nextStringS (kk + 1 + 1) x.pattern.args))) := (HB.out.cell (p := ⟨b, off + (i * 5 + 3), none⟩) hbl).trans Q3.out
      have q4 : w1.cell? ⟨b, off + i * 5 + 4, none⟩ = some (.string (mTx (nextStringS (kk + 1 + 1) x.pattern.args + 1))) := (HB.out.cell (p := ⟨b, off + (i * 5 + 4), none⟩) hbl).trans Q4.out
      replace hbr : b < w1.heap.size := Nat.lt_of_lt_of_le hbl HB.out.size
      go_wp2_with fail
      refine (heldStringS_any A1 _ c1 x.pattern.args L1 _ _ rfl (by omega) (by omega) (S1.out.keep (keep_below HB.out lL1.out))).mono ?_
      rintro e w2 ⟨rfl, hb2⟩
      have HB := Lib.hid (HB.out.trans (hb2.mono HB.out.size))
      clear hb2
      clear q0 q1 q2 q3 q4
      have q0 : w2.cell? ⟨b, off + i * 5, none⟩ = some (.int .i64 (kk)) := (HB.out.cell (p := ⟨b, off + (i * 5 + 0), none⟩) hbl).trans Q0.out
      have q1 : w2.cell? ⟨b, off + i * 5 + 1, none⟩ = some (.string (mTx (kk + 1))) := (HB.out.cell (p := ⟨b, off + (i * 5 + 1), none⟩) hbl).trans Q1.out
      have q2 : w2.cell? ⟨b, off + i * 5 + 2, none⟩ = some (.slice A1 x.pattern.args.length c1) := (HB.out.cell (p := ⟨b, off + (i * 5 + 2), none⟩) hbl).trans Q2.out
      have q3 : w2.cell? ⟨b, off + i * 5 + 3, none⟩ = some (.string (mTx (nextStringS (kk + 1 + 1) x.pattern.args))) := (HB.out.cell (p := ⟨b, off + (i * 5 + 3), none⟩) hbl).trans Q3.out
      have q4 : w2.cell? ⟨b, off + i * 5 + 4, none⟩ = some (.string (mTx (nextStringS (kk + 1 + 1) x.pattern.args + 1))) := (HB.out.cell (p := ⟨b, off + (i * 5 + 4), none⟩) hbl).trans Q4.out
      replace hbr : b < w2.heap.size := Nat.lt_of_lt_of_le hbl HB.out.size
      have ge2 : ¬ (nextStringS (kk + 1 + 1) x.pattern.args < 0) := by omega
      go_wp2_with fail
      go_region_held3 (fun w' => w'.cell? ⟨b, off + i * 5 + 3, none⟩ = some (.string (mTx (nextStringS (kk + 1 + 1) x.pattern.args)))) (first | go_keep | exact (hb3.cell (p := ⟨b, off + i * 5 + 3, none⟩) hbr).trans q3) (first | (go_at_call 30; refine (markText_int _ _ (by omega) (by omega)).mono ?_; rintro e w3 ⟨rfl, hb3⟩))
      have HB := Lib.hid (HB.out.trans (below_of_drew hb3 HB.out.size))
      clear hb3
      clear q0 q1 q2 q3 q4
      have q0 : w3.cell? ⟨b, off + i * 5, none⟩ = some (.int .i64 (kk)) := (HB.out.cell (p := ⟨b, off + (i * 5 + 0), none⟩) hbl).trans Q0.out
      have q1 : w3.cell? ⟨b, off + i * 5 + 1, none⟩ = some (.string (mTx (kk + 1))) := (HB.out.cell (p := ⟨b, off + (i * 5 + 1), none⟩) hbl).trans Q1.out
      have q2 : w3.cell? ⟨b, off + i * 5 + 2, none⟩ = some (.slice A1 x.pattern.args.length c1) := (HB.out.cell (p := ⟨b, off + (i * 5 + 2), none⟩) hbl).trans Q2.out
      have q3 : w3.cell? ⟨b, off + i * 5 + 3, none⟩ = some (.string (mTx (nextStringS (kk + 1 + 1) x.pattern.args))) := (HB.out.cell (p := ⟨b, off + (i * 5 + 3), none⟩) hbl).trans Q3.out
      have q4 : w3.cell? ⟨b, off + i * 5 + 4, none⟩ = some (.string (mTx (nextStringS (kk + 1 + 1) x.pattern.args + 1))) := (HB.out.cell (p := ⟨b, off + (i * 5 + 4), none⟩) hbl).trans Q4.out
      replace hbr : b < w3.heap.size := Nat.lt_of_lt_of_le hbl HB.out.size
      go_wp2_with fail
      go_region_held3 (fun w' => w'.cell? ⟨b, off + i * 5 + 4, none⟩ = some (.string (mTx (nextStringS (kk + 1 + 1) x.pattern.args + 1)))) (first | go_keep | exact (hb4.cell (p := ⟨b, off + i * 5 + 4, none⟩) hbr).trans q4) (first | (go_at_call 30; refine (markText_int _ _ (by omega) (by omega)).mono ?_; rintro e w4 ⟨rfl, hb4⟩))
      have HB := Lib.hid (HB.out.trans (below_of_drew hb4 HB.out.size))
      clear hb4
      clear q0 q1 q2 q3 q4
      have q0 : w4.cell? ⟨b, off + i * 5, none⟩ = some (.int .i64 (kk)) := (HB.out.cell (p := ⟨b, off + (i * 5 + 0), none⟩) hbl).trans Q0.out
      have q1 : w4.cell? ⟨b, off + i * 5 + 1, none⟩ = some (.string (mTx (kk + 1))) := (HB.out.cell (p := ⟨b, off + (i * 5 + 1), none⟩) hbl).trans Q1.out
      have q2 : w4.cell? ⟨b, off + i * 5 + 2, none⟩ = some (.slice A1 x.pattern.args.length c1) := (HB.out.cell (p := ⟨b, off + (i * 5 + 2), none⟩) hbl).trans Q2.out
      have q3 : w4.cell? ⟨b, off + i * 5 + 3, none⟩ = some (.string (mTx (nextStringS (kk + 1 + 1) x.pattern.args))) := (HB.out.cell (p := ⟨b, off + (i * 5 + 3), none⟩) hbl).trans Q3.out
      have q4 : w4.cell? ⟨b, off + i * 5 + 4, none⟩ = some (.string (mTx (nextStringS (kk + 1 + 1) x.pattern.args + 1))) := (HB.out.cell (p := ⟨b, off + (i * 5 + 4), none⟩) hbl).trans Q4.out
      replace hbr : b < w4.heap.size := Nat.lt_of_lt_of_le hbl HB.out.size
      go_wp2_with fail
      go_roundw
      case rel => exact ⟨i + 1, nextCond kk x, by omega, by go_num, rfl, by unfold nextCond; omega, HDn, HB⟩
      case measure => simp [intOf]; omega
    · obtain rfl : i = n := by omega
      have hf : Hid (nextCondS k ds = kk) := by
        obtain ⟨h1, _⟩ := HD.out
        rw [Hid, ← h1, List.drop_of_length_le (by have := HN.out; omega)]; rfl
      go_wp2
      go_ret
      exact ⟨ret_i hf.out.symm, HB.out⟩

set_option maxRecDepth 100000 in
set_option maxHeartbeats 4000000 in
theorem heldActionS_any (A : Option Addr) (n c : Nat) (ds : List ActionD) (L : List Nat) (k : Int) (w : World) (hn : n = ds.length) (hm : n ≤ 9223372036854775807) (hk0 : 1 ≤ k) (hk1 : nextActionS k ds ≤ 4611686018427387904) (h : Sli cAction w A (mkActionS k ds) L) :
    Calls Try.prog 34 #[.slice A n c, .int .i64 k] w fun e w' => e = .returned (.int .i64 (nextActionS k ds)) ∧ Below w.heap.size w w' := by
  have H := Lib.hid h
  have HN := Lib.hid hn
  have HK := Lib.hid hk1
  clear h hn hk1
  go_enter Try.func34, Try.ntmps34
  go_wp2
  go_loopw [1, 5] (fun q j wr => ∃ (i : Nat) (kk : Int), i ≤ n ∧ j = .int .i64 i ∧ q = .int .i64 kk ∧ 1 ≤ kk ∧ Hid (nextActionS kk (ds.drop i) = nextActionS k ds ∧ (mkActionS k ds).drop i = mkActionS kk (ds.drop i)) ∧ Hid (Below w.heap.size w wr)) (fun _ j _ => n - (intOf j).toNat)
  case atStart => exact ⟨0, k, Nat.zero_le _, rfl, rfl, hk0, ⟨rfl, rfl⟩, Below.refl _ _⟩
  case round =>
    obtain ⟨i, kk, hi, rfl, rfl, h1, HD, HB⟩ := hrel
    by_cases hlt : i < n
    · have hil : i < ds.length := by have := HN.out; omega
      obtain ⟨hkk, hdr⟩ := HD.out
      have hml : i < (mkActionS k ds).length := by rw [mkActionS_len]; exact hil
      obtain ⟨b, off, cs, Lk, rfl, hbL, hLk, hrep, hc⟩ := H.out.at_ hml
      rw [List.drop_eq_getElem_cons hml, List.drop_eq_getElem_cons hil, mkActionS] at hdr
      injection hdr with e1 e2
      rw [e1] at hrep
      clear e1
      have hnext : ds.drop i = ds[i] :: ds.drop (i + 1) := List.drop_eq_getElem_cons _
      rw [hnext] at hkk
      clear hnext
      generalize ds[i] = x at hrep hkk e2
      have hnb : Hid (nextAction kk x ≤ 4611686018427387904) := by
        have := nextActionS_ge (nextAction kk x) (ds.drop (i + 1))
        have hk := HK.out
        rw [← hkk] at hk
        exact Int.le_trans this hk
      have hnb1 := hnb.out
      have hnb2 := nextAction_ge kk x
      unfold nextAction at hnb1 hnb2
      have HDn : Hid (nextActionS (nextAction kk x) (ds.drop (i + 1)) = nextActionS k ds ∧ (mkActionS k ds).drop (i + 1) = mkActionS (nextAction kk x) (ds.drop (i + 1))) := ⟨hkk, e2⟩
      have hbl : b < w.heap.size := H.out.lt b hbL
      clear hkk e2
      obtain ⟨A1, c1, L1, rfl, hLL, t0, n1, m1, s1⟩ := hrep
      have S1 := Lib.hid s1
      have lL1 : Hid (∀ y ∈ L1, y < w.heap.size) := fun y m => H.out.lt y (hLk y (by rw [hLL]; simp [m]))
      have ll1 : (mkAction kk x).pattern.args.length = x.pattern.args.length := mkStringS_len _ _
      clear s1
      have Q0 := Lib.hid (hc 0 _ rfl)
      have Q1 := Lib.hid (hc 1 _ rfl)
      have Q2 := Lib.hid (hc 2 _ rfl)
      unfold maxLen at m1
      rw [ll1] at Q2 n1
      clear hc ll1
      have i0 : (0 : Int) ≤ i := by omega
      have i1 : (i : Int) < n := by omega
      have mono_x_pattern_args := nextStringS_ge (kk + 1 + 1) x.pattern.args
      have q0 : wr.cell? ⟨b, off + i * 3, none⟩ = some (.int .i64 (kk)) := (HB.out.cell (p := ⟨b, off + (i * 3 + 0), none⟩) hbl).trans Q0.out
      have q1 : wr.cell? ⟨b, off + i * 3 + 1, none⟩ = some (.string (mTx (kk + 1))) := (HB.out.cell (p := ⟨b, off + (i * 3 + 1), none⟩) hbl).trans Q1.out
      have q2 : wr.cell? ⟨b, off + i * 3 + 2, none⟩ = some (.slice A1 x.pattern.args.length c1) := (HB.out.cell (p := ⟨b, off + (i * 3 + 2), none⟩) hbl).trans Q2.out
      have hbr : b < wr.heap.size := Nat.lt_of_lt_of_le hbl HB.out.size
      go_wp2_with fail
      go_region_held3 (fun w' => w'.cell? ⟨b, off + i * 3 + 1, none⟩ = some (.string (mTx (kk + 1)))) (first | go_keep | exact (hb1.cell (p := ⟨b, off + i * 3 + 1, none⟩) hbr).trans q1) (first | (go_at_call 30; refine (markText_int _ _ (by omega) (by omega)).mono ?_; rintro e w1 ⟨rfl, hb1⟩))
      have HB := Lib.hid (HB.out.trans (below_of_drew hb1 HB.out.size))
      clear hb1
      clear q0 q1 q2
      have q0 : w1.cell? ⟨b, off + i * 3, none⟩ = some (.int .i64 (kk)) := (HB.out.cell (p := ⟨b, off + (i * 3 + 0), none⟩) hbl).trans Q0.out
      have q1 : w1.cell? ⟨b, off + i * 3 + 1, none⟩ = some (.string (mTx (kk + 1))) := (HB.out.cell (p := ⟨b, off + (i * 3 + 1), none⟩) hbl).trans Q1.out
      have q2 : w1.cell? ⟨b, off + i * 3 + 2, none⟩ = some (.slice A1 x.pattern.args.length c1) := (HB.out.cell (p := ⟨b, off + (i * 3 + 2), none⟩) hbl).trans Q2.out
      replace hbr : b < w1.heap.size := Nat.lt_of_lt_of_le hbl HB.out.size
      go_wp2_with fail
      refine (heldStringS_any A1 _ c1 x.pattern.args L1 _ _ rfl (by omega) (by omega) (S1.out.keep (keep_below HB.out lL1.out))).mono ?_
      rintro e w2 ⟨rfl, hb2⟩
      have HB := Lib.hid (HB.out.trans (hb2.mono HB.out.size))
      clear hb2
      clear q0 q1 q2
      have q0 : w2.cell? ⟨b, off + i * 3, none⟩ = some (.int .i64 (kk)) := (HB.out.cell (p := ⟨b, off + (i * 3 + 0), none⟩) hbl).trans Q0.out
      have q1 : w2.cell? ⟨b, off + i * 3 + 1, none⟩ = some (.string (mTx (kk + 1))) := (HB.out.cell (p := ⟨b, off + (i * 3 + 1), none⟩) hbl).trans Q1.out
      have q2 : w2.cell? ⟨b, off + i * 3 + 2, none⟩ = some (.slice A1 x.pattern.args.length c1) := (HB.out.cell (p := ⟨b, off + (i * 3 + 2), none⟩) hbl).trans Q2.out
      replace hbr : b < w2.heap.size := Nat.lt_of_lt_of_le hbl HB.out.size
      have ge2 : ¬ (nextStringS (kk + 1 + 1) x.pattern.args < 0) := by omega
      go_wp2_with fail
      go_roundw
      case rel => exact ⟨i + 1, nextAction kk x, by omega, by go_num, rfl, by unfold nextAction; omega, HDn, HB⟩
      case measure => simp [intOf]; omega
    · obtain rfl : i = n := by omega
      have hf : Hid (nextActionS k ds = kk) := by
        obtain ⟨h1, _⟩ := HD.out
        rw [Hid, ← h1, List.drop_of_length_le (by have := HN.out; omega)]; rfl
      go_wp2
      go_ret
      exact ⟨ret_i hf.out.symm, HB.out⟩

set_option maxRecDepth 100000 in
set_option maxHeartbeats 4000000 in
theorem heldRuleS_any (A : Option Addr) (n c : Nat) (ds : List RuleD) (L : List Nat) (k : Int) (w : World) (hn : n = ds.length) (hm : n ≤ 9223372036854775807) (hk0 : 1 ≤ k) (hk1 : nextRuleS k ds ≤ 4611686018427387904) (h : Sli cRule w A (mkRuleS k ds) L) :
    Calls Try.prog 11 #[.slice A n c, .int .i64 k] w fun e w' => e = .returned (.int .i64 (nextRuleS k ds)) ∧ Below w.heap.size w w' := by
  have H := Lib.hid h
  have HN := Lib.hid hn
  have HK := Lib.hid hk1
  clear h hn hk1
  go_enter Try.func11, Try.ntmps11
  go_wp2
  go_loopw [1, 5] (fun q j wr => ∃ (i : Nat) (kk : Int), i ≤ n ∧ j = .int .i64 i ∧ q = .int .i64 kk ∧ 1 ≤ kk ∧ Hid (nextRuleS kk (ds.drop i) = nextRuleS k ds ∧ (mkRuleS k ds).drop i = mkRuleS kk (ds.drop i)) ∧ Hid (Below w.heap.size w wr)) (fun _ j _ => n - (intOf j).toNat)
  case atStart => exact ⟨0, k, Nat.zero_le _, rfl, rfl, hk0, ⟨rfl, rfl⟩, Below.refl _ _⟩
  case round =>
    obtain ⟨i, kk, hi, rfl, rfl, h1, HD, HB⟩ := hrel
    by_cases hlt : i < n
    · have hil : i < ds.length := by have := HN.out; omega
      obtain ⟨hkk, hdr⟩ := HD.out
      have hml : i < (mkRuleS k ds).length := by rw [mkRuleS_len]; exact hil
      obtain ⟨b, off, cs, Lk, rfl, hbL, hLk, hrep, hc⟩ := H.out.at_ hml
      rw [List.drop_eq_getElem_cons hml, List.drop_eq_getElem_cons hil, mkRuleS] at hdr
      injection hdr with e1 e2
      rw [e1] at hrep
      clear e1
      have hnext : ds.drop i = ds[i] :: ds.drop (i + 1) := List.drop_eq_getElem_cons _
      rw [hnext] at hkk
      clear hnext
      generalize ds[i] = x at hrep hkk e2
      have hnb : Hid (nextRule kk x ≤ 4611686018427387904) := by
        have := nextRuleS_ge (nextRule kk x) (ds.drop (i + 1))
        have hk := HK.out
        rw [← hkk] at hk
        exact Int.le_trans this hk
      have hnb1 := hnb.out
      have hnb2 := nextRule_ge kk x
      unfold nextRule at hnb1 hnb2
      have HDn : Hid (nextRuleS (nextRule kk x) (ds.drop (i + 1)) = nextRuleS k ds ∧ (mkRuleS k ds).drop (i + 1) = mkRuleS (nextRule kk x) (ds.drop (i + 1))) := ⟨hkk, e2⟩
      have hbl : b < w.heap.size := H.out.lt b hbL
      clear hkk e2
      obtain ⟨A1, c1, L1, A2, c2, L2, rfl, hLL, t0, n1, m1, s1, n2, m2, s2⟩ := hrep
      have S1 := Lib.hid s1
      have lL1 : Hid (∀ y ∈ L1, y < w.heap.size) := fun y m => H.out.lt y (hLk y (by rw [hLL]; simp [m]))
      have ll1 : (mkRule kk x).cond.length = x.cond.length := mkCondS_len _ _
      clear s1
      have S2 := Lib.hid s2
      have lL2 : Hid (∀ y ∈ L2, y < w.heap.size) := fun y m => H.out.lt y (hLk y (by rw [hLL]; simp [m]))
      have ll2 : (mkRule kk x).thn.length = x.thn.length := mkActionS_len _ _
      clear s2
      have Q0 := Lib.hid (hc 0 _ rfl)
      have Q1 := Lib.hid (hc 1 _ rfl)
      have Q2 := Lib.hid (hc 2 _ rfl)
      have Q3 := Lib.hid (hc 3 _ rfl)
      unfold maxLen at m1 m2
      rw [ll1] at Q2 n1
      rw [ll2] at Q3 n2
      clear hc ll1 ll2
      have i0 : (0 : Int) ≤ i := by omega
      have i1 : (i : Int) < n := by omega
      have mono_x_cond := nextCondS_ge (kk + 1 + 1) x.cond
      have mono_x_thn := nextActionS_ge (nextCondS (kk + 1 + 1) x.cond) x.thn
      have q0 : wr.cell? ⟨b, off + i * 4, none⟩ = some (.string (mTx (kk))) := (HB.out.cell (p := ⟨b, off + (i * 4 + 0), none⟩) hbl).trans Q0.out
      have q1 : wr.cell? ⟨b, off + i * 4 + 1, none⟩ = some (.int .i64 (kk + 1)) := (HB.out.cell (p := ⟨b, off + (i * 4 + 1), none⟩) hbl).trans Q1.out
      have q2 : wr.cell? ⟨b, off + i * 4 + 2, none⟩ = some (.slice A1 x.cond.length c1) := (HB.out.cell (p := ⟨b, off + (i * 4 + 2), none⟩) hbl).trans Q2.out
      have q3 : wr.cell? ⟨b, off + i * 4 + 3, none⟩ = some (.slice A2 x.thn.length c2) := (HB.out.cell (p := ⟨b, off + (i * 4 + 3), none⟩) hbl).trans Q3.out
      have hbr : b < wr.heap.size := Nat.lt_of_lt_of_le hbl HB.out.size
      go_wp2_with fail
      go_region_held3 (fun w' => w'.cell? ⟨b, off + i * 4, none⟩ = some (.string (mTx (kk)))) (first | go_keep | exact (hb1.cell (p := ⟨b, off + i * 4, none⟩) hbr).trans q0) (first | (go_at_call 30; refine (markText_int _ _ (by omega) (by omega)).mono ?_; rintro e w1 ⟨rfl, hb1⟩))
      have HB := Lib.hid (HB.out.trans (below_of_drew hb1 HB.out.size))
      clear hb1
      clear q0 q1 q2 q3
      have q0 : w1.cell? ⟨b, off + i * 4, none⟩ = some (.string (mTx (kk))) := (HB.out.cell (p := ⟨b, off + (i * 4 + 0), none⟩) hbl).trans Q0.out
      have q1 : w1.cell? ⟨b, off + i * 4 + 1, none⟩ = some (.int .i64 (kk + 1)) := (HB.out.cell (p := ⟨b, off + (i * 4 + 1), none⟩) hbl).trans Q1.out
      have q2 : w1.cell? ⟨b, off + i * 4 + 2, none⟩ = some (.slice A1 x.cond.length c1) := (HB.out.cell (p := ⟨b, off + (i * 4 + 2), none⟩) hbl).trans Q2.out
      have q3 : w1.cell? ⟨b, off + i * 4 + 3, none⟩ = some (.slice A2 x.thn.length c2) := (HB.out.cell (p := ⟨b, off + (i * 4 + 3), none⟩) hbl).trans Q3.out
      replace hbr : b < w1.heap.size := Nat.lt_of_lt_of_le hbl HB.out.size
      go_wp2_with fail
      refine (heldCondS_any A1 _ c1 x.cond L1 _ _ rfl (by omega) (by omega) (by omega) (S1.out.keep (keep_below HB.out lL1.out))).mono ?_
      rintro e w2 ⟨rfl, hb2⟩
      have HB := Lib.hid (HB.out.trans (hb2.mono HB.out.size))
      clear hb2
      clear q0 q1 q2 q3
      have q0 : w2.cell? ⟨b, off + i * 4, none⟩ = some (.string (mTx (kk))) := (HB.out.cell (p := ⟨b, off + (i * 4 + 0), none⟩) hbl).trans Q0.out
      have q1 : w2.cell? ⟨b, off + i * 4 + 1, none⟩ = some (.int .i64 (kk + 1)) := (HB.out.cell (p := ⟨b, off + (i * 4 + 1), none⟩) hbl).trans Q1.out
      have q2 : w2.cell? ⟨b, off + i * 4 + 2, none⟩ = some (.slice A1 x.cond.length c1) := (HB.out.cell (p := ⟨b, off + (i * 4 + 2), none⟩) hbl).trans Q2.out
      have q3 : w2.cell? ⟨b, off + i * 4 + 3, none⟩ = some (.slice A2 x.thn.length c2) := (HB.out.cell (p := ⟨b, off + (i * 4 + 3), none⟩) hbl).trans Q3.out
      replace hbr : b < w2.heap.size := Nat.lt_of_lt_of_le hbl HB.out.size
      have ge2 : ¬ (nextCondS (kk + 1 + 1) x.cond < 0) := by omega
      go_wp2_with fail
      refine (heldActionS_any A2 _ c2 x.thn L2 _ _ rfl (by omega) (by omega) (by omega) (S2.out.keep (keep_below HB.out lL2.out))).mono ?_
      rintro e w3 ⟨rfl, hb3⟩
      have HB := Lib.hid (HB.out.trans (hb3.mono HB.out.size))
      clear hb3
      clear q0 q1 q2 q3
      have q0 : w3.cell? ⟨b, off + i * 4, none⟩ = some (.string (mTx (kk))) := (HB.out.cell (p := ⟨b, off + (i * 4 + 0), none⟩) hbl).trans Q0.out
      have q1 : w3.cell? ⟨b, off + i * 4 + 1, none⟩ = some (.int .i64 (kk + 1)) := (HB.out.cell (p := ⟨b, off + (i * 4 + 1), none⟩) hbl).trans Q1.out
      have q2 : w3.cell? ⟨b, off + i * 4 + 2, none⟩ = some (.slice A1 x.cond.length c1) := (HB.out.cell (p := ⟨b, off + (i * 4 + 2), none⟩) hbl).trans Q2.out
      have q3 : w3.cell? ⟨b, off + i * 4 + 3, none⟩ = some (.slice A2 x.thn.length c2) := (HB.out.cell (p := ⟨b, off + (i * 4 + 3), none⟩) hbl).trans Q3.out
      replace hbr : b < w3.heap.size := Nat.lt_of_lt_of_le hbl HB.out.size
      have ge3 : ¬ (nextActionS (nextCondS (kk + 1 + 1) x.cond) x.thn < 0) := by omega
      go_wp2_with fail
      go_roundw
      case rel => exact ⟨i + 1, nextRule kk x, by omega, by go_num, rfl, by unfold nextRule; omega, HDn, HB⟩
      case measure => simp [intOf]; omega
    · obtain rfl : i = n := by omega
      have hf : Hid (nextRuleS k ds = kk) := by
        obtain ⟨h1, _⟩ := HD.out
        rw [Hid, ← h1, List.drop_of_length_le (by have := HN.out; omega)]; rfl
      go_wp2
      go_ret
      exact ⟨ret_i hf.out.symm, HB.out⟩

end Go.Proofs.Ytppjenkjopjeiaa

namespace Go.Proofs.Ytppjenkjopjeiaa
open Go.RowKit Go.Deep

def Opens {α : Type} (P : Program) (t : TypeId) (c : Codec α) (wf : α → Prop) : Prop :=
  ∀ {H : Type} {enc : TypeId × Value → H} {w : World} {base : Nat} {spare : Nat → Bool} {held : Bool} {fuel : Nat} {cs : List Value} {x : DataW H × List MemPlace},
    DataW.trod enc P w base spare held fuel t cs = some x → ∃ d L, c.rep w cs d L ∧ wf d

def wfInt (n : Int) : Prop := -9223372036854775808 ≤ n ∧ n ≤ 9223372036854775807
theorem opens_int {P : Program} {t : TypeId} (ht : P.underlying t = some (.int .i64)) : Opens P t intC wfInt := by
  intro H enc w base spare held fuel cs x h
  obtain ⟨n, rfl, _, hw⟩ := DataW.trod_int ht h
  refine ⟨n, [], ⟨rfl, rfl⟩, ?_⟩
  simp [Lit.wf, IntKind.min, IntKind.max, IntKind.signed, IntKind.bits] at hw
  exact ⟨by omega, by omega⟩
theorem opens_string {P : Program} {t : TypeId} (ht : P.underlying t = some .string) : Opens P t strC (fun _ => True) := by
  intro H enc w base spare held fuel cs x h
  obtain ⟨s, rfl, _, hs⟩ := DataW.trod_string ht h
  exact ⟨s, [], ⟨rfl, rfl, by unfold maxLen at hs; omega⟩, trivial⟩
theorem opens_slice {α : Type} {c : Codec α} {wf : α → Prop} {P : Program} {t e : TypeId} (ht : P.underlying t = some (.slice e)) (hc : P.cellsOf e = c.size) (ho : Opens P e c wf) : Opens P t (sliceC c) (fun ds => ∀ d ∈ ds, wf d) := by
  intro H enc w base spare held fuel cs x h
  rcases open_slice ht h with ⟨rfl, _⟩ | ⟨a, len, cap, m, n, D, Pl, rfl, hb, hl, hm, hmm, _, hx⟩
  · exact ⟨[], [], ⟨none, 0, rfl, Nat.le_refl _, Nat.zero_le _, Sli.nil _ _⟩, by simp⟩
  · have hlm : len ≤ m := by rw [hmm]; split <;> omega
    have key : ∀ q, q ≤ len → ∃ (xs : List Value) (ds : List α) (L : List Nat), ds.length = q ∧ (∀ j u, xs[j]? = some u → w.cell? (a.add j) = some u) ∧ c.reps w xs ds L ∧ ∀ d ∈ ds, wf d := by
      intro q
      induction q with
      | zero => exact fun _ => ⟨[], [], [], rfl, by simp, ⟨rfl, rfl⟩, by simp⟩
      | succ q ih =>
        intro hq
        obtain ⟨xs, ds, L, hd, hcell, hr, hwf⟩ := ih (by omega)
        obtain ⟨cs', h1, h2⟩ := hx q (by omega)
        obtain ⟨d, Lq, hrep, hwd⟩ := ho h2
        obtain ⟨_, hlen, hat⟩ := World.cells?_some h1
        refine ⟨xs ++ cs', ds ++ [d], L ++ Lq, by simp [hd], fun j u hu => ?_, reps_append hr (reps_one_of hrep), ?_⟩
        · have hxl : xs.length = q * c.size := by rw [reps_len hr, hd]
          rw [List.getElem?_append] at hu
          split at hu
          · exact hcell j u hu
          · rename_i hj
            have hj2 := (List.getElem?_eq_some_iff.1 hu).1
            have := hat (j - xs.length) (by omega)
            rw [← hu, ← this, Go.Deep.add_add, hc, ← hxl]
            congr 2
            omega
        · intro y hy
          rcases List.mem_append.1 hy with hy | hy
          · exact hwf y hy
          · simp at hy; subst hy; exact hwd
    obtain ⟨xs, ds, L, hd, hcell, hr, hwf⟩ := key len (Nat.le_refl _)
    have hxl := reps_len hr
    rcases Nat.eq_zero_or_pos len with h0 | h0
    · have : ds = [] := List.eq_nil_of_length_eq_zero (by omega)
      subst this
      refine ⟨[], [], ⟨some a, cap, by simp at hd; rw [← hd]; rfl, by simp, hm, Sli.nil _ _⟩, by simp⟩
    · obtain ⟨b, off, sp⟩ := a
      have hp : 0 < xs.length := by rw [hxl, hd]; exact Nat.mul_pos h0 c.pos
      have hsp : sp = none := by
        have h1 := hcell 0 _ (List.getElem?_eq_getElem hp)
        have e : (⟨b, off, sp⟩ : Addr).add 0 = ⟨b, off, sp⟩ := by simp [Addr.add]
        rw [e] at h1
        cases sp with
        | none => rfl
        | some q =>
          simp only [World.cell?] at h1
          split at h1 <;> simp at h1
      subst hsp
      refine ⟨ds, [b] ++ L, ⟨some ⟨b, off, none⟩, cap, by rw [hd], by omega, hm, xs, [b], L, rfl, ⟨by rw [hxl], .inr ⟨by omega, b, off, rfl, rfl, fun j u hu => ?_⟩⟩, hr⟩, hwf⟩
      have := hcell j u hu
      rwa [add_lit0] at this

end Go.Proofs.Ytppjenkjopjeiaa

namespace Go.Proofs.Ytppjenkjopjeiaa
open Go.RowKit

theorem sRelevantRules_std {aRules : List RuleD} {aRel : ByteArray} {r : List RuleD} (hh : s_RelevantRules aRules aRel = some r) (w : World) (AaRules : Option Addr) (caRules : Nat) (LaRules : List Nat) (haRules : (sliceC cRule).rep w [.slice AaRules aRules.length caRules] aRules LaRules) (zaRel : aRel.size ≤ 9223372036854775807) :
    Calls Try.prog 6 #[.slice AaRules aRules.length caRules, .string aRel] w (GivesS cRule 59 w r) :=
  Sound.givesS (c := cRule) (g := eRule) (ds := r) (s_RelevantRules_ok hh) encRule trivial (vs := [_, _]) ⟨arg_sl encRule _ haRules, arg_str _ _ zaRel, trivial⟩

theorem iRelevantRules_std {aRules : List RuleD} {aRel : ByteArray} {r : List RuleD} (hh : i_RelevantRules aRules aRel = some r) (w : World) (AaRules : Option Addr) (caRules : Nat) (LaRules : List Nat) (haRules : (sliceC cRule).rep w [.slice AaRules aRules.length caRules] aRules LaRules) (zaRel : aRel.size ≤ 9223372036854775807) :
    Calls Try.prog 8 #[.slice AaRules aRules.length caRules, .string aRel] w (GivesS cRule 59 w r) :=
  Sound.givesS (c := cRule) (g := eRule) (ds := r) (i_RelevantRules_ok hh) encRule trivial (vs := [_, _]) ⟨arg_sl encRule _ haRules, arg_str _ _ zaRel, trivial⟩

set_option maxRecDepth 100000 in
set_option maxHeartbeats 8000000 in
theorem FnExactRelevantRules_walk (w : World) (A_aRules : Option Addr) (c_aRules : Nat) (aRules : List RuleD) (L_aRules : List Nat) (ln_aRules : aRules.length ≤ 9223372036854775807) (h_aRules : Sli cRule w A_aRules aRules L_aRules) (aRel : ByteArray) (st_aRel : aRel.size ≤ 9223372036854775807) :
    Calls Try.prog 3 #[.slice A_aRules aRules.length c_aRules, .string aRel] w fun e w' => e = .returned (.bool true) ∧ Below w.heap.size w w' := by
  have H_aRules := Lib.hid h_aRules
  clear h_aRules
  by_cases big_aRel : (1048576 : Int) < aRel.size
  · go_enter Try.func3, Try.ntmps3
    go_wp2
    go_ret
    exact ⟨rfl, Below.refl _ _⟩
  have sz_aRel : aRel.size ≤ 1048576 := by omega
  go_enter Try.func3, Try.ntmps3
  go_wp2_with fail
  refine (szRuleS_any A_aRules _ c_aRules aRules L_aRules _ _ rfl ln_aRules (by omega) (by omega) (H_aRules.out.below (Below.refl w.heap.size w))).mono ?_
  rintro e w1 ⟨rfl, hb⟩
  have B1 := Lib.hid ((Below.refl w.heap.size w).trans (hb.mono (Below.refl w.heap.size w).size))
  have sz1 := hb.size
  clear hb
  by_cases cc_aRules : ((costRuleS aRules : Nat) : Int) ≤ 1048576
  rotate_left
  · rw [szR_neg cc_aRules]
    go_wp2
    go_ret
    exact ⟨rfl, B1.out⟩
  rw [szR_pos cc_aRules]
  have cz_aRules : costRuleS aRules ≤ 1048576 := by omega
  have cl_aRules : aRules.length ≤ 1048576 := by have := cz_aRules; simp only [costRuleS] at this; omega
  have nn_aRules : ¬ (1048576 - ((costRuleS aRules : Nat) : Int) < 0) := by omega
  obtain ⟨R0, hs0, hi0, rl⟩ := RelevantRules_plain aRules cz_aRules aRel sz_aRel
  go_wp2_with fail
  refine (toRuleS_any A_aRules _ c_aRules aRules L_aRules _ rfl cz_aRules (H_aRules.out.below B1.out)).mono ?_
  rintro e w2 ⟨v, rfl, acc⟩
  obtain ⟨A_t1aRules, c_t1aRules, rfl⟩ := acc.shape
  have hb := acc.below
  obtain ⟨L_t1aRules, gt⟩ := acc.got
  have B2 := Lib.hid (B1.out.trans (hb.mono B1.out.size))
  have sz2 := hb.size
  clear B1
  have V_t1aRules := Lib.hid gt
  have ge_t1aRules := Lib.hid gt.own.ge
  have lt_t1aRules := Lib.hid gt.lt
  clear gt hb acc
  go_wp2_with fail
  refine (sRelevantRules_std hs0 _ A_t1aRules c_t1aRules L_t1aRules V_t1aRules.out.rep (by omega)).mono ?_
  rintro e w3 ⟨v, rfl, acc⟩
  obtain ⟨A_w0, c_w0, rfl⟩ := acc.shape
  have hb := acc.below
  obtain ⟨L_w0, gt⟩ := acc.got
  have B3 := Lib.hid (B2.out.trans (hb.mono B2.out.size))
  have sz3 := hb.size
  have V_t1aRules := Lib.hid (V_t1aRules.out.later hb)
  clear B2
  have V_w0 := Lib.hid gt
  have ge_w0 := Lib.hid gt.own.ge
  have lt_w0 := Lib.hid gt.lt
  clear gt hb acc
  clear V_t1aRules
  go_wp2_with fail
  refine (toRuleS_any A_aRules _ c_aRules aRules L_aRules _ rfl cz_aRules (H_aRules.out.below B3.out)).mono ?_
  rintro e w4 ⟨v, rfl, acc⟩
  obtain ⟨A_x0, c_x0, rfl⟩ := acc.shape
  have hb := acc.below
  obtain ⟨L_x0, gt⟩ := acc.got
  have B4 := Lib.hid (B3.out.trans (hb.mono B3.out.size))
  have sz4 := hb.size
  have V_w0 := Lib.hid (V_w0.out.later hb)
  clear B3
  have V_x0 := Lib.hid gt
  have ge_x0 := Lib.hid gt.own.ge
  have lt_x0 := Lib.hid gt.lt
  clear gt hb acc
  go_wp2_with fail
  refine (iRelevantRules_std hi0 _ A_x0 c_x0 L_x0 V_x0.out.rep (by omega)).mono ?_
  rintro e w5 ⟨v, rfl, acc⟩
  obtain ⟨A_g0, c_g0, rfl⟩ := acc.shape
  have hb := acc.below
  obtain ⟨L_g0, gt⟩ := acc.got
  have B5 := Lib.hid (B4.out.trans (hb.mono B4.out.size))
  have sz5 := hb.size
  have V_w0 := Lib.hid (V_w0.out.later hb)
  have V_x0 := Lib.hid (V_x0.out.later hb)
  clear B4
  have V_g0 := Lib.hid gt
  have ge_g0 := Lib.hid gt.own.ge
  have lt_g0 := Lib.hid gt.lt
  clear gt hb acc
  go_wp2_with fail
  refine (eqRuleS_any A_g0 A_w0 _ c_g0 c_w0 _ L_g0 L_w0 _ rfl (by omega) (sliceC_out V_g0.out.rep).2.2 (sliceC_out V_w0.out.rep).2.2).mono ?_
  rintro e w6 ⟨rfl, hb⟩
  have B6 := Lib.hid (B5.out.trans (hb.mono B5.out.size))
  have sz6 := hb.size
  have V_w0 := Lib.hid (V_w0.out.later hb)
  have V_x0 := Lib.hid (V_x0.out.later hb)
  have V_g0 := Lib.hid (V_g0.out.later hb)
  clear B5
  clear hb
  go_wp2_with fail
  refine (toRuleS_any A_aRules _ c_aRules aRules L_aRules _ rfl cz_aRules (H_aRules.out.below B6.out)).mono ?_
  rintro e w7 ⟨v, rfl, acc⟩
  obtain ⟨A_t6aRules, c_t6aRules, rfl⟩ := acc.shape
  have hb := acc.below
  obtain ⟨L_t6aRules, gt⟩ := acc.got
  have B7 := Lib.hid (B6.out.trans (hb.mono B6.out.size))
  have sz7 := hb.size
  have V_w0 := Lib.hid (V_w0.out.later hb)
  have V_x0 := Lib.hid (V_x0.out.later hb)
  have V_g0 := Lib.hid (V_g0.out.later hb)
  clear B6
  have V_t6aRules := Lib.hid gt
  have ge_t6aRules := Lib.hid gt.own.ge
  have lt_t6aRules := Lib.hid gt.lt
  clear gt hb acc
  go_wp2_with fail
  refine (eqRuleS_any A_x0 A_t6aRules _ c_x0 c_t6aRules _ L_x0 L_t6aRules _ rfl (by omega) (sliceC_out V_x0.out.rep).2.2 (sliceC_out V_t6aRules.out.rep).2.2).mono ?_
  rintro e w8 ⟨rfl, hb⟩
  have B8 := Lib.hid (B7.out.trans (hb.mono B7.out.size))
  have sz8 := hb.size
  have V_w0 := Lib.hid (V_w0.out.later hb)
  have V_x0 := Lib.hid (V_x0.out.later hb)
  have V_g0 := Lib.hid (V_g0.out.later hb)
  have V_t6aRules := Lib.hid (V_t6aRules.out.later hb)
  clear B7
  clear hb
  clear V_t6aRules
  have nl_x0_8 := nextRuleS_le ((1 : Int)) aRules
  have nb_x0_8 : nextRuleS ((1 : Int)) aRules ≤ 4611686018427387904 := by omega
  have ng_x0_8 := nextRuleS_ge ((1 : Int)) aRules
  go_wp2_with fail
  refine (markRuleS_any A_x0 _ c_x0 aRules L_x0 _ _ _ rfl (by omega) (by omega) (by omega) V_x0.out).mono ?_
  rintro e w9 ⟨rfl, gm, on⟩
  have B9 := Lib.hid (B8.out.trans (on.below B8.out.size (fun y m => by have := ge_x0.out y m; omega)))
  have sz9 := on.size
  have V_w0 := Lib.hid (V_w0.out.only on (fun y m m' => by have := lt_w0.out y m; have := ge_x0.out y m'; omega))
  have V_g0 := Lib.hid (V_g0.out.only on (fun y m m' => by have := ge_g0.out y m; have := lt_x0.out y m'; omega))
  clear B8
  have V_x0 := Lib.hid gm
  clear gm on
  clear V_x0
  have kn : ¬ (nextRuleS ((1 : Int)) aRules < 0) := by omega
  go_wp2_with fail
  refine (eqRuleS_any A_g0 A_w0 _ c_g0 c_w0 _ L_g0 L_w0 _ rfl (by omega) (sliceC_out V_g0.out.rep).2.2 (sliceC_out V_w0.out.rep).2.2).mono ?_
  rintro e w10 ⟨rfl, hb⟩
  have B10 := Lib.hid (B9.out.trans (hb.mono B9.out.size))
  have sz10 := hb.size
  have V_w0 := Lib.hid (V_w0.out.later hb)
  have V_g0 := Lib.hid (V_g0.out.later hb)
  clear B9
  clear hb
  have nl_g0_10 := nextRuleS_le ((1 : Int)) R0
  have nb_g0_10 : nextRuleS ((1 : Int)) R0 ≤ 4611686018427387904 := by omega
  have ng_g0_10 := nextRuleS_ge ((1 : Int)) R0
  go_wp2_with fail
  refine (markRuleS_any A_g0 _ c_g0 R0 L_g0 _ _ _ rfl (by omega) (by omega) (by omega) V_g0.out).mono ?_
  rintro e w11 ⟨rfl, gm, on⟩
  have B11 := Lib.hid (B10.out.trans (on.below B10.out.size (fun y m => by have := ge_g0.out y m; omega)))
  have sz11 := on.size
  have V_w0 := Lib.hid (V_w0.out.only on (fun y m m' => by have := lt_w0.out y m; have := ge_g0.out y m'; omega))
  clear B10
  have V_g0 := Lib.hid gm
  clear gm on
  go_wp2_with fail
  refine (heldRuleS_any A_g0 _ c_g0 R0 L_g0 _ _ rfl (by omega) (by omega) (by omega) (sliceC_out V_g0.out.rep).2.2).mono ?_
  rintro e w12 ⟨rfl, hb⟩
  have B12 := Lib.hid (B11.out.trans (hb.mono B11.out.size))
  have sz12 := hb.size
  have V_w0 := Lib.hid (V_w0.out.later hb)
  have V_g0 := Lib.hid (V_g0.out.later hb)
  clear B11
  clear hb
  have qn12 : ¬ (nextRuleS ((1 : Int)) R0 < 0) := by omega
  have qm12 : ((nextRuleS ((1 : Int)) R0) != (nextRuleS ((1 : Int)) R0)) = false := by simp
  go_wp2_with fail
  refine (toRuleS_any A_aRules _ c_aRules aRules L_aRules _ rfl cz_aRules (H_aRules.out.below B12.out)).mono ?_
  rintro e w13 ⟨v, rfl, acc⟩
  obtain ⟨A_t12aRules, c_t12aRules, rfl⟩ := acc.shape
  have hb := acc.below
  obtain ⟨L_t12aRules, gt⟩ := acc.got
  have B13 := Lib.hid (B12.out.trans (hb.mono B12.out.size))
  have sz13 := hb.size
  have V_w0 := Lib.hid (V_w0.out.later hb)
  have V_g0 := Lib.hid (V_g0.out.later hb)
  clear B12
  have V_t12aRules := Lib.hid gt
  have ge_t12aRules := Lib.hid gt.own.ge
  have lt_t12aRules := Lib.hid gt.lt
  clear gt hb acc
  go_wp2_with fail
  refine (iRelevantRules_std hi0 _ A_t12aRules c_t12aRules L_t12aRules V_t12aRules.out.rep (by omega)).mono ?_
  rintro e w14 ⟨v, rfl, acc⟩
  obtain ⟨A_h0, c_h0, rfl⟩ := acc.shape
  have hb := acc.below
  obtain ⟨L_h0, gt⟩ := acc.got
  have B14 := Lib.hid (B13.out.trans (hb.mono B13.out.size))
  have sz14 := hb.size
  have V_w0 := Lib.hid (V_w0.out.later hb)
  have V_g0 := Lib.hid (V_g0.out.later hb)
  have V_t12aRules := Lib.hid (V_t12aRules.out.later hb)
  clear B13
  have V_h0 := Lib.hid gt
  have ge_h0 := Lib.hid gt.own.ge
  have lt_h0 := Lib.hid gt.lt
  clear gt hb acc
  clear V_t12aRules
  go_wp2_with fail
  refine (eqRuleS_any A_h0 A_w0 _ c_h0 c_w0 _ L_h0 L_w0 _ rfl (by omega) (sliceC_out V_h0.out.rep).2.2 (sliceC_out V_w0.out.rep).2.2).mono ?_
  rintro e w15 ⟨rfl, hb⟩
  have B15 := Lib.hid (B14.out.trans (hb.mono B14.out.size))
  have sz15 := hb.size
  have V_w0 := Lib.hid (V_w0.out.later hb)
  have V_g0 := Lib.hid (V_g0.out.later hb)
  have V_h0 := Lib.hid (V_h0.out.later hb)
  clear B14
  clear hb
  go_wp2_with fail
  refine (heldRuleS_any A_g0 _ c_g0 R0 L_g0 _ _ rfl (by omega) (by omega) (by omega) (sliceC_out V_g0.out.rep).2.2).mono ?_
  rintro e w16 ⟨rfl, hb⟩
  have B16 := Lib.hid (B15.out.trans (hb.mono B15.out.size))
  have sz16 := hb.size
  have V_w0 := Lib.hid (V_w0.out.later hb)
  have V_g0 := Lib.hid (V_g0.out.later hb)
  have V_h0 := Lib.hid (V_h0.out.later hb)
  clear B15
  clear hb
  have qn16 : ¬ (nextRuleS ((1 : Int)) R0 < 0) := by omega
  have qm16 : ((nextRuleS ((1 : Int)) R0) != (nextRuleS ((1 : Int)) R0)) = false := by simp
  go_wp2_with fail
  go_ret
  exact ⟨rfl, B16.out⟩

end Go.Proofs.Ytppjenkjopjeiaa

namespace Go.Proofs.Ytppjenkjopjeiaa
open Go.RowKit

def wfPattern (x : PatternD) : Prop := (fun _ => True) x.rel ∧ (fun ds => ∀ d ∈ ds, (fun _ => True) d) x.args
set_option maxRecDepth 100000 in
theorem opensPattern : Opens Try.prog 130 cPattern wfPattern := by
  intro H enc w base spare held fuel cs x h
  obtain ⟨xs, n, _, _, hlen, hxl, hf⟩ := DataW.trod_struct Try.underlying130 h
  have hl : cs.length = 2 := hlen.trans (by kernel_rfl)
  have hx : xs.length = 2 := hxl
  match cs, hl with
  | [a0, a1], _ =>
    have f0 : DataW.trod enc Try.prog w base spare held n 9 [a0] = some (xs[0]'(by omega)) := by
      have this : DataW.trod enc Try.prog w base spare held n 9 (List.take (Try.prog.cellsOf 9) (List.drop 0 [a0, a1])) = _ := (hf 0 _ rfl).trans (List.getElem?_eq_getElem (show 0 < xs.length by omega))
      rw [show Try.prog.cellsOf 9 = 1 by kernel_rfl] at this
      exact this
    have f1 : DataW.trod enc Try.prog w base spare held n 54 [a1] = some (xs[1]'(by omega)) := by
      have this : DataW.trod enc Try.prog w base spare held n 54 (List.take (Try.prog.cellsOf 54) (List.drop 1 [a0, a1])) = _ := (hf 1 _ rfl).trans (List.getElem?_eq_getElem (show 1 < xs.length by omega))
      rw [show Try.prog.cellsOf 54 = 1 by kernel_rfl] at this
      exact this
    obtain ⟨d0, M0, r0, w0⟩ := (opens_string Try.underlying9) f0
    obtain ⟨e0, _, t0⟩ := r0
    cases e0
    obtain ⟨d1, M1, r1, w1⟩ := (opens_slice Try.underlying54 (by kernel_rfl) (opens_string Try.underlying9)) f1
    obtain ⟨A1, c1, e1, n1, m1, s1⟩ := r1
    cases e1
    exact ⟨⟨d0, d1⟩, _, ⟨A1, c1, M1, rfl, rfl, t0, n1, m1, s1⟩, ⟨w0, w1⟩⟩

def wfCond (x : CondD) : Prop := wfInt x.kind ∧ wfPattern x.pattern ∧ (fun _ => True) x.left ∧ (fun _ => True) x.right
set_option maxRecDepth 100000 in
theorem opensCond : Opens Try.prog 132 cCond wfCond := by
  intro H enc w base spare held fuel cs x h
  obtain ⟨xs, n, _, _, hlen, hxl, hf⟩ := DataW.trod_struct Try.underlying132 h
  have hl : cs.length = 5 := hlen.trans (by kernel_rfl)
  have hx : xs.length = 4 := hxl
  match cs, hl with
  | [a0, a1, a2, a3, a4], _ =>
    have f0 : DataW.trod enc Try.prog w base spare held n 3 [a0] = some (xs[0]'(by omega)) := by
      have this : DataW.trod enc Try.prog w base spare held n 3 (List.take (Try.prog.cellsOf 3) (List.drop 0 [a0, a1, a2, a3, a4])) = _ := (hf 0 _ rfl).trans (List.getElem?_eq_getElem (show 0 < xs.length by omega))
      rw [show Try.prog.cellsOf 3 = 1 by kernel_rfl] at this
      exact this
    have f1 : DataW.trod enc Try.prog w base spare held n 130 [a1, a2] = some (xs[1]'(by omega)) := by
      have this : DataW.trod enc Try.prog w base spare held n 130 (List.take (Try.prog.cellsOf 130) (List.drop 1 [a0, a1, a2, a3, a4])) = _ := (hf 1 _ rfl).trans (List.getElem?_eq_getElem (show 1 < xs.length by omega))
      rw [show Try.prog.cellsOf 130 = 2 by kernel_rfl] at this
      exact this
    have f2 : DataW.trod enc Try.prog w base spare held n 9 [a3] = some (xs[2]'(by omega)) := by
      have this : DataW.trod enc Try.prog w base spare held n 9 (List.take (Try.prog.cellsOf 9) (List.drop 3 [a0, a1, a2, a3, a4])) = _ := (hf 2 _ rfl).trans (List.getElem?_eq_getElem (show 2 < xs.length by omega))
      rw [show Try.prog.cellsOf 9 = 1 by kernel_rfl] at this
      exact this
    have f3 : DataW.trod enc Try.prog w base spare held n 9 [a4] = some (xs[3]'(by omega)) := by
      have this : DataW.trod enc Try.prog w base spare held n 9 (List.take (Try.prog.cellsOf 9) (List.drop 4 [a0, a1, a2, a3, a4])) = _ := (hf 3 _ rfl).trans (List.getElem?_eq_getElem (show 3 < xs.length by omega))
      rw [show Try.prog.cellsOf 9 = 1 by kernel_rfl] at this
      exact this
    obtain ⟨d0, M0, r0, w0⟩ := (opens_int Try.underlying3) f0
    obtain ⟨e0, _⟩ := r0
    cases e0
    obtain ⟨d1, M1, r1, w1⟩ := opensPattern f1
    obtain ⟨A1, c1, N1, e1, g1, t0, n1, m1, s1⟩ := r1
    cases e1
    subst g1
    obtain ⟨d2, M2, r2, w2⟩ := (opens_string Try.underlying9) f2
    obtain ⟨e2, _, t1⟩ := r2
    cases e2
    obtain ⟨d3, M3, r3, w3⟩ := (opens_string Try.underlying9) f3
    obtain ⟨e3, _, t2⟩ := r3
    cases e3
    exact ⟨⟨d0, d1, d2, d3⟩, _, ⟨A1, c1, M1, rfl, rfl, t0, t1, t2, n1, m1, s1⟩, ⟨w0, w1, w2, w3⟩⟩

def wfAction (x : ActionD) : Prop := wfInt x.kind ∧ wfPattern x.pattern
set_option maxRecDepth 100000 in
theorem opensAction : Opens Try.prog 135 cAction wfAction := by
  intro H enc w base spare held fuel cs x h
  obtain ⟨xs, n, _, _, hlen, hxl, hf⟩ := DataW.trod_struct Try.underlying135 h
  have hl : cs.length = 3 := hlen.trans (by kernel_rfl)
  have hx : xs.length = 2 := hxl
  match cs, hl with
  | [a0, a1, a2], _ =>
    have f0 : DataW.trod enc Try.prog w base spare held n 3 [a0] = some (xs[0]'(by omega)) := by
      have this : DataW.trod enc Try.prog w base spare held n 3 (List.take (Try.prog.cellsOf 3) (List.drop 0 [a0, a1, a2])) = _ := (hf 0 _ rfl).trans (List.getElem?_eq_getElem (show 0 < xs.length by omega))
      rw [show Try.prog.cellsOf 3 = 1 by kernel_rfl] at this
      exact this
    have f1 : DataW.trod enc Try.prog w base spare held n 130 [a1, a2] = some (xs[1]'(by omega)) := by
      have this : DataW.trod enc Try.prog w base spare held n 130 (List.take (Try.prog.cellsOf 130) (List.drop 1 [a0, a1, a2])) = _ := (hf 1 _ rfl).trans (List.getElem?_eq_getElem (show 1 < xs.length by omega))
      rw [show Try.prog.cellsOf 130 = 2 by kernel_rfl] at this
      exact this
    obtain ⟨d0, M0, r0, w0⟩ := (opens_int Try.underlying3) f0
    obtain ⟨e0, _⟩ := r0
    cases e0
    obtain ⟨d1, M1, r1, w1⟩ := opensPattern f1
    obtain ⟨A1, c1, N1, e1, g1, t0, n1, m1, s1⟩ := r1
    cases e1
    subst g1
    exact ⟨⟨d0, d1⟩, _, ⟨A1, c1, M1, rfl, rfl, t0, n1, m1, s1⟩, ⟨w0, w1⟩⟩

def wfRule (x : RuleD) : Prop := (fun _ => True) x.name ∧ wfInt x.priority ∧ (fun ds => ∀ d ∈ ds, wfCond d) x.cond ∧ (fun ds => ∀ d ∈ ds, wfAction d) x.thn
set_option maxRecDepth 100000 in
theorem opensRule : Opens Try.prog 53 cRule wfRule := by
  intro H enc w base spare held fuel cs x h
  obtain ⟨xs, n, _, _, hlen, hxl, hf⟩ := DataW.trod_struct Try.underlying53 h
  have hl : cs.length = 4 := hlen.trans (by kernel_rfl)
  have hx : xs.length = 4 := hxl
  match cs, hl with
  | [a0, a1, a2, a3], _ =>
    have f0 : DataW.trod enc Try.prog w base spare held n 9 [a0] = some (xs[0]'(by omega)) := by
      have this : DataW.trod enc Try.prog w base spare held n 9 (List.take (Try.prog.cellsOf 9) (List.drop 0 [a0, a1, a2, a3])) = _ := (hf 0 _ rfl).trans (List.getElem?_eq_getElem (show 0 < xs.length by omega))
      rw [show Try.prog.cellsOf 9 = 1 by kernel_rfl] at this
      exact this
    have f1 : DataW.trod enc Try.prog w base spare held n 3 [a1] = some (xs[1]'(by omega)) := by
      have this : DataW.trod enc Try.prog w base spare held n 3 (List.take (Try.prog.cellsOf 3) (List.drop 1 [a0, a1, a2, a3])) = _ := (hf 1 _ rfl).trans (List.getElem?_eq_getElem (show 1 < xs.length by omega))
      rw [show Try.prog.cellsOf 3 = 1 by kernel_rfl] at this
      exact this
    have f2 : DataW.trod enc Try.prog w base spare held n 50 [a2] = some (xs[2]'(by omega)) := by
      have this : DataW.trod enc Try.prog w base spare held n 50 (List.take (Try.prog.cellsOf 50) (List.drop 2 [a0, a1, a2, a3])) = _ := (hf 2 _ rfl).trans (List.getElem?_eq_getElem (show 2 < xs.length by omega))
      rw [show Try.prog.cellsOf 50 = 1 by kernel_rfl] at this
      exact this
    have f3 : DataW.trod enc Try.prog w base spare held n 51 [a3] = some (xs[3]'(by omega)) := by
      have this : DataW.trod enc Try.prog w base spare held n 51 (List.take (Try.prog.cellsOf 51) (List.drop 3 [a0, a1, a2, a3])) = _ := (hf 3 _ rfl).trans (List.getElem?_eq_getElem (show 3 < xs.length by omega))
      rw [show Try.prog.cellsOf 51 = 1 by kernel_rfl] at this
      exact this
    obtain ⟨d0, M0, r0, w0⟩ := (opens_string Try.underlying9) f0
    obtain ⟨e0, _, t0⟩ := r0
    cases e0
    obtain ⟨d1, M1, r1, w1⟩ := (opens_int Try.underlying3) f1
    obtain ⟨e1, _⟩ := r1
    cases e1
    obtain ⟨d2, M2, r2, w2⟩ := (opens_slice Try.underlying50 (by kernel_rfl) opensCond) f2
    obtain ⟨A1, c1, e2, n1, m1, s1⟩ := r2
    cases e2
    obtain ⟨d3, M3, r3, w3⟩ := (opens_slice Try.underlying51 (by kernel_rfl) opensAction) f3
    obtain ⟨A2, c2, e3, n2, m2, s2⟩ := r3
    cases e3
    exact ⟨⟨d0, d1, d2, d3⟩, _, ⟨A1, c1, M2, A2, c2, M3, rfl, rfl, t0, n1, m1, s1, n2, m2, s2⟩, ⟨w0, w1, w2, w3⟩⟩

end Go.Proofs.Ytppjenkjopjeiaa
