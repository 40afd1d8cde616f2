/- Texts of this proof, joined: Dp17, Dp18, Dp19, Dp20, Dp21, BStd, DE, Sz, To, Eq, Open, ExactAreLogical, Opens. What each holds is said at its theorems. -/
import Derived.Test.YtccbhhglghboaaaAreLogicalQ4
import Derived.Test.YtccbhhglghboaaaAreLogicalQ3
import Derived.Test.YtccbhhglghboaaaAreLogicalQ1
import Derived.Test.YtccbhhglghboaaaProg
import Derived.Outline
import Derived.WalkSpells
import Derived.StillTailTactics
import Derived.Deep.Slices
import Derived.ChangeArms
import Derived.ProofKit
import Derived.Test.YtccbhhglghboaaaAreLogicalQ2
set_option linter.unusedSimpArgs false
set_option linter.unusedVariables false
namespace Go.Proofs.Ytccbhhglghboaaa
open Go.Proofs.Try
set_option linter.unusedSimpArgs false
set_option linter.unusedVariables false
set_option maxRecDepth 1000000
set_option maxHeartbeats 4000000
theorem s_IsTest_ok {x_0 : CondD} {r : Bool} (h : s_IsTest x_0 = some r) : Sound Try.prog J0 130 [(true, eCond x_0)] [(false, [(false, .bool r)])] := by
  refine fnk Try.func130 (by kernel_rfl) rfl (by kernel_rfl) (by kernel_rfl) ?_
  unfold s_IsTest at h
  simp only [fnS, f130, argSt, go_sem, Int.reduceLT, Int.reduceLE, Int.reduceBEq, Int.reduceBNe, Nat.reduceBNe, Nat.reduceAdd, Nat.reduceMul, Nat.reduceEqDiff, Nat.reduceLeDiff, Nat.reduceLT, Nat.reduceBEq, reduceCtorEq, reduceIte]
  obtain ⟨v1, e1, h⟩ := bind_K h
  refine call_K (by first | exact s_IsCond_ok e1 | simpa only [go_sem, Int.reduceLT, Int.reduceLE, Int.reduceBEq, Int.reduceBNe, Nat.reduceBNe, Nat.reduceAdd, Nat.reduceMul, Nat.reduceEqDiff, Nat.reduceLeDiff, Nat.reduceLT, Nat.reduceBEq, reduceCtorEq, reduceIte] using s_IsCond_ok e1) ?_
  try simp only [go_sem, Int.reduceLT, Int.reduceLE, Int.reduceBEq, Int.reduceBNe, Nat.reduceBNe, Nat.reduceAdd, Nat.reduceMul, Nat.reduceEqDiff, Nat.reduceLeDiff, Nat.reduceLT, Nat.reduceBEq, reduceCtorEq, reduceIte]
  refine ite_K h (fun c2 h => ?_) (fun c2 h => ?_)
  · obtain rfl := Option.some.inj h
    try simp only [go_sem, Int.reduceLT, Int.reduceLE, Int.reduceBEq, Int.reduceBNe, Nat.reduceBNe, Nat.reduceAdd, Nat.reduceMul, Nat.reduceEqDiff, Nat.reduceLeDiff, Nat.reduceLT, Nat.reduceBEq, reduceCtorEq, reduceIte, c2]
  · obtain rfl := Option.some.inj h
    try simp only [go_sem, Int.reduceLT, Int.reduceLE, Int.reduceBEq, Int.reduceBNe, Nat.reduceBNe, Nat.reduceAdd, Nat.reduceMul, Nat.reduceEqDiff, Nat.reduceLeDiff, Nat.reduceLT, Nat.reduceBEq, reduceCtorEq, reduceIte, c2]
theorem i_IsRule_ok {append_0 : RuleD} {r : Bool} (h : i_IsRule append_0 = some r) : Sound Try.prog J0 81 [(true, eRule append_0)] [(false, [(false, .bool r)])] := by
  refine fnk Try.func81 (by kernel_rfl) rfl (by kernel_rfl) (by kernel_rfl) ?_
  unfold i_IsRule at h
  simp only [fnS, f81, argSt, go_sem, Int.reduceLT, Int.reduceLE, Int.reduceBEq, Int.reduceBNe, Nat.reduceBNe, Nat.reduceAdd, Nat.reduceMul, Nat.reduceEqDiff, Nat.reduceLeDiff, Nat.reduceLT, Nat.reduceBEq, reduceCtorEq, reduceIte]
  obtain ⟨v1, e1, h⟩ := bind_K h
  refine call_K (by first | exact i_IsName_ok e1 | simpa only [go_sem, Int.reduceLT, Int.reduceLE, Int.reduceBEq, Int.reduceBNe, Nat.reduceBNe, Nat.reduceAdd, Nat.reduceMul, Nat.reduceEqDiff, Nat.reduceLeDiff, Nat.reduceLT, Nat.reduceBEq, reduceCtorEq, reduceIte] using i_IsName_ok e1) ?_
  try simp only [go_sem, Int.reduceLT, Int.reduceLE, Int.reduceBEq, Int.reduceBNe, Nat.reduceBNe, Nat.reduceAdd, Nat.reduceMul, Nat.reduceEqDiff, Nat.reduceLeDiff, Nat.reduceLT, Nat.reduceBEq, reduceCtorEq, reduceIte]
  refine ite_K h (fun c2 h => ?_) (fun c2 h => ?_)
  · try simp only [go_sem, Int.reduceLT, Int.reduceLE, Int.reduceBEq, Int.reduceBNe, Nat.reduceBNe, Nat.reduceAdd, Nat.reduceMul, Nat.reduceEqDiff, Nat.reduceLeDiff, Nat.reduceLT, Nat.reduceBEq, reduceCtorEq, reduceIte, c2]
    refine ite_K h (fun c3 h => ?_) (fun c3 h => ?_)
    · obtain rfl := Option.some.inj h
      try simp only [go_sem, Int.reduceLT, Int.reduceLE, Int.reduceBEq, Int.reduceBNe, Nat.reduceBNe, Nat.reduceAdd, Nat.reduceMul, Nat.reduceEqDiff, Nat.reduceLeDiff, Nat.reduceLT, Nat.reduceBEq, reduceCtorEq, reduceIte, c2, c3]
    · try simp only [go_sem, Int.reduceLT, Int.reduceLE, Int.reduceBEq, Int.reduceBNe, Nat.reduceBNe, Nat.reduceAdd, Nat.reduceMul, Nat.reduceEqDiff, Nat.reduceLeDiff, Nat.reduceLT, Nat.reduceBEq, reduceCtorEq, reduceIte, c2, c3]
      refine ite_K h (fun c4 h => ?_) (fun c4 h => ?_)
      · obtain rfl := Option.some.inj h
        try simp only [go_sem, Int.reduceLT, Int.reduceLE, Int.reduceBEq, Int.reduceBNe, Nat.reduceBNe, Nat.reduceAdd, Nat.reduceMul, Nat.reduceEqDiff, Nat.reduceLeDiff, Nat.reduceLT, Nat.reduceBEq, reduceCtorEq, reduceIte, c2, c3, c4]
      · try simp only [go_sem, Int.reduceLT, Int.reduceLE, Int.reduceBEq, Int.reduceBNe, Nat.reduceBNe, Nat.reduceAdd, Nat.reduceMul, Nat.reduceEqDiff, Nat.reduceLeDiff, Nat.reduceLT, Nat.reduceBEq, reduceCtorEq, reduceIte, c2, c3, c4]
        refine ite_K h (fun c5 h => ?_) (fun c5 h => ?_)
        · obtain rfl := Option.some.inj h
          try simp only [go_sem, Int.reduceLT, Int.reduceLE, Int.reduceBEq, Int.reduceBNe, Nat.reduceBNe, Nat.reduceAdd, Nat.reduceMul, Nat.reduceEqDiff, Nat.reduceLeDiff, Nat.reduceLT, Nat.reduceBEq, reduceCtorEq, reduceIte, c2, c3, c4, c5]
        · try simp only [go_sem, Int.reduceLT, Int.reduceLE, Int.reduceBEq, Int.reduceBNe, Nat.reduceBNe, Nat.reduceAdd, Nat.reduceMul, Nat.reduceEqDiff, Nat.reduceLeDiff, Nat.reduceLT, Nat.reduceBEq, reduceCtorEq, reduceIte, c2, c3, c4, c5]
          refine ite_K h (fun c6 h => ?_) (fun c6 h => ?_)
          · obtain rfl := Option.some.inj h
            try simp only [go_sem, Int.reduceLT, Int.reduceLE, Int.reduceBEq, Int.reduceBNe, Nat.reduceBNe, Nat.reduceAdd, Nat.reduceMul, Nat.reduceEqDiff, Nat.reduceLeDiff, Nat.reduceLT, Nat.reduceBEq, reduceCtorEq, reduceIte, c2, c3, c4, c5, c6]
          · try simp only [go_sem, Int.reduceLT, Int.reduceLE, Int.reduceBEq, Int.reduceBNe, Nat.reduceBNe, Nat.reduceAdd, Nat.reduceMul, Nat.reduceEqDiff, Nat.reduceLeDiff, Nat.reduceLT, Nat.reduceBEq, reduceCtorEq, reduceIte, c2, c3, c4, c5, c6]
            refine ite_K h (fun c7 h => ?_) (fun c7 h => ?_)
            · obtain rfl := Option.some.inj h
              try simp only [go_sem, Int.reduceLT, Int.reduceLE, Int.reduceBEq, Int.reduceBNe, Nat.reduceBNe, Nat.reduceAdd, Nat.reduceMul, Nat.reduceEqDiff, Nat.reduceLeDiff, Nat.reduceLT, Nat.reduceBEq, reduceCtorEq, reduceIte, c2, c3, c4, c5, c6, c7]
            · try simp only [go_sem, Int.reduceLT, Int.reduceLE, Int.reduceBEq, Int.reduceBNe, Nat.reduceBNe, Nat.reduceAdd, Nat.reduceMul, Nat.reduceEqDiff, Nat.reduceLeDiff, Nat.reduceLT, Nat.reduceBEq, reduceCtorEq, reduceIte, c2, c3, c4, c5, c6, c7]
              refine ite_K h (fun c8 h => ?_) (fun c8 h => ?_)
              · obtain rfl := Option.some.inj h
                try simp only [go_sem, Int.reduceLT, Int.reduceLE, Int.reduceBEq, Int.reduceBNe, Nat.reduceBNe, Nat.reduceAdd, Nat.reduceMul, Nat.reduceEqDiff, Nat.reduceLeDiff, Nat.reduceLT, Nat.reduceBEq, reduceCtorEq, reduceIte, c2, c3, c4, c5, c6, c7, c8]
              · try simp only [go_sem, Int.reduceLT, Int.reduceLE, Int.reduceBEq, Int.reduceBNe, Nat.reduceBNe, Nat.reduceAdd, Nat.reduceMul, Nat.reduceEqDiff, Nat.reduceLeDiff, Nat.reduceLT, Nat.reduceBEq, reduceCtorEq, reduceIte, c2, c3, c4, c5, c6, c7, c8]
                refine swp_for h (fun i _ st => IV [(1, .bp 0 0), (49, .p false [.c (.sl 120 5 (List.map eCond append_0.cond))]), (50, .p false [.c (.int .i64 ((append_0.cond.length : Nat) : Int))]), (51, .p false [.c (.int .i64 ((i : Nat) : Int))])] [.box 75 [.c (.str append_0.name), .c (.int .i64 append_0.priority), .c (.sl 120 5 (List.map eCond append_0.cond)), .c (.sl 128 3 (List.map eAction append_0.thn))]] st) [] [0] (by decide) ?_ ?_ ?_
                · simp only [go_sem, Int.reduceLT, Int.reduceLE, Int.reduceBEq, Int.reduceBNe, Nat.reduceBNe, Nat.reduceAdd, Nat.reduceMul, Nat.reduceEqDiff, Nat.reduceLeDiff, Nat.reduceLT, Nat.reduceBEq, reduceCtorEq, reduceIte, IV, sts_cons, sts_nil, obs_cons, obs_nil, c2, c3, c4, c5, c6, c7, c8]
                · rintro i50 x51 ⟨⟩ ⟨sl, ob, n⟩ y9 hx10 hI11 hW12 h hy9
                  simp only [IV, sts_cons, sts_nil, obs_cons, obs_nil, and_true, true_and, Nat.reduceAdd, str_len] at hI11
                  obtain ⟨⟨g13_1, g13_49, g13_50, g13_51⟩, og13_0, hn⟩ := hI11
                  subst hn
                  have hlhx10 := WF.slotL hW12 g13_49 (j := 0) rfl
                  try simp only [go_sem, Int.reduceLT, Int.reduceLE, Int.reduceBEq, Int.reduceBNe, Nat.reduceBNe, Nat.reduceAdd, Nat.reduceMul, Nat.reduceEqDiff, Nat.reduceLeDiff, Nat.reduceLT, Nat.reduceBEq, reduceCtorEq, reduceIte, c2, c3, c4, c5, c6, c7, c8, hx10, lt_t hx10, lt_p hx10, nat_in (lt_n hx10) hlhx10, g13_1, g13_49, g13_50, g13_51, og13_0]
                  obtain ⟨v52, e14, h⟩ := bind_K h
                  refine call_K (by first | exact i_IsCond_ok e14 | simpa only [go_sem, Int.reduceLT, Int.reduceLE, Int.reduceBEq, Int.reduceBNe, Nat.reduceBNe, Nat.reduceAdd, Nat.reduceMul, Nat.reduceEqDiff, Nat.reduceLeDiff, Nat.reduceLT, Nat.reduceBEq, reduceCtorEq, reduceIte, c2, c3, c4, c5, c6, c7, c8, hx10, lt_t hx10, lt_p hx10, nat_in (lt_n hx10) hlhx10, g13_1, g13_49, g13_50, g13_51, og13_0] using i_IsCond_ok e14) ?_
                  try simp only [go_sem, Int.reduceLT, Int.reduceLE, Int.reduceBEq, Int.reduceBNe, Nat.reduceBNe, Nat.reduceAdd, Nat.reduceMul, Nat.reduceEqDiff, Nat.reduceLeDiff, Nat.reduceLT, Nat.reduceBEq, reduceCtorEq, reduceIte, c2, c3, c4, c5, c6, c7, c8, hx10, lt_t hx10, lt_p hx10, nat_in (lt_n hx10) hlhx10, g13_1, g13_49, g13_50, g13_51, og13_0]
                  refine ite_K h (fun c15 h => ?_) (fun c15 h => ?_)
                  · try simp only [go_sem, Int.reduceLT, Int.reduceLE, Int.reduceBEq, Int.reduceBNe, Nat.reduceBNe, Nat.reduceAdd, Nat.reduceMul, Nat.reduceEqDiff, Nat.reduceLeDiff, Nat.reduceLT, Nat.reduceBEq, reduceCtorEq, reduceIte, c2, c3, c4, c5, c6, c7, c8, hx10, lt_t hx10, lt_p hx10, nat_in (lt_n hx10) hlhx10, c15, g13_1, g13_49, g13_50, g13_51, og13_0]
                    refine ite_K h (fun c16 h => ?_) (fun c16 h => ?_)
                    · try simp only [go_sem, Int.reduceLT, Int.reduceLE, Int.reduceBEq, Int.reduceBNe, Nat.reduceBNe, Nat.reduceAdd, Nat.reduceMul, Nat.reduceEqDiff, Nat.reduceLeDiff, Nat.reduceLT, Nat.reduceBEq, reduceCtorEq, reduceIte, c2, c3, c4, c5, c6, c7, c8, hx10, lt_t hx10, lt_p hx10, nat_in (lt_n hx10) hlhx10, c15, c16, g13_1, g13_49, g13_50, g13_51, og13_0]
                      refine ite_K h (fun c17 h => ?_) (fun c17 h => ?_)
                      · replace h := inr_K h hy9
                        obtain rfl := Option.some.inj h
                        try simp only [go_sem, Int.reduceLT, Int.reduceLE, Int.reduceBEq, Int.reduceBNe, Nat.reduceBNe, Nat.reduceAdd, Nat.reduceMul, Nat.reduceEqDiff, Nat.reduceLeDiff, Nat.reduceLT, Nat.reduceBEq, reduceCtorEq, reduceIte, c2, c3, c4, c5, c6, c7, c8, hx10, lt_t hx10, lt_p hx10, nat_in (lt_n hx10) hlhx10, c15, c16, c17, g13_1, g13_49, g13_50, g13_51, og13_0]
                      · try simp only [go_sem, Int.reduceLT, Int.reduceLE, Int.reduceBEq, Int.reduceBNe, Nat.reduceBNe, Nat.reduceAdd, Nat.reduceMul, Nat.reduceEqDiff, Nat.reduceLeDiff, Nat.reduceLT, Nat.reduceBEq, reduceCtorEq, reduceIte, c2, c3, c4, c5, c6, c7, c8, hx10, lt_t hx10, lt_p hx10, nat_in (lt_n hx10) hlhx10, c15, c16, c17, g13_1, g13_49, g13_50, g13_51, og13_0]
                        obtain ⟨v53, e18, h⟩ := bind_K h
                        refine call_K (by first | exact i_condFits_ok e18 | simpa only [go_sem, Int.reduceLT, Int.reduceLE, Int.reduceBEq, Int.reduceBNe, Nat.reduceBNe, Nat.reduceAdd, Nat.reduceMul, Nat.reduceEqDiff, Nat.reduceLeDiff, Nat.reduceLT, Nat.reduceBEq, reduceCtorEq, reduceIte, c2, c3, c4, c5, c6, c7, c8, hx10, lt_t hx10, lt_p hx10, nat_in (lt_n hx10) hlhx10, c15, c16, c17, g13_1, g13_49, g13_50, g13_51, og13_0] using i_condFits_ok e18) ?_
                        try simp only [go_sem, Int.reduceLT, Int.reduceLE, Int.reduceBEq, Int.reduceBNe, Nat.reduceBNe, Nat.reduceAdd, Nat.reduceMul, Nat.reduceEqDiff, Nat.reduceLeDiff, Nat.reduceLT, Nat.reduceBEq, reduceCtorEq, reduceIte, c2, c3, c4, c5, c6, c7, c8, hx10, lt_t hx10, lt_p hx10, nat_in (lt_n hx10) hlhx10, c15, c16, c17, g13_1, g13_49, g13_50, g13_51, og13_0]
                        refine ite_K h (fun c19 h => ?_) (fun c19 h => ?_)
                        · try simp only [go_sem, Int.reduceLT, Int.reduceLE, Int.reduceBEq, Int.reduceBNe, Nat.reduceBNe, Nat.reduceAdd, Nat.reduceMul, Nat.reduceEqDiff, Nat.reduceLeDiff, Nat.reduceLT, Nat.reduceBEq, reduceCtorEq, reduceIte, c2, c3, c4, c5, c6, c7, c8, hx10, lt_t hx10, lt_p hx10, nat_in (lt_n hx10) hlhx10, c15, c16, c17, c19, g13_1, g13_49, g13_50, g13_51, og13_0]
                          refine ⟨_, [], [0], (Option.some.inj h).symm, by decide, ?_⟩
                          try simp only [go_sem, Int.reduceLT, Int.reduceLE, Int.reduceBEq, Int.reduceBNe, Nat.reduceBNe, Nat.reduceAdd, Nat.reduceMul, Nat.reduceEqDiff, Nat.reduceLeDiff, Nat.reduceLT, Nat.reduceBEq, reduceCtorEq, reduceIte, c2, c3, c4, c5, c6, c7, c8, hx10, lt_t hx10, lt_p hx10, nat_in (lt_n hx10) hlhx10, c15, c16, c17, c19, g13_1, g13_49, g13_50, g13_51, og13_0, IV, sts_cons, sts_nil, obs_cons, obs_nil]
                        · replace h := inr_K h hy9
                          obtain rfl := Option.some.inj h
                          try simp only [go_sem, Int.reduceLT, Int.reduceLE, Int.reduceBEq, Int.reduceBNe, Nat.reduceBNe, Nat.reduceAdd, Nat.reduceMul, Nat.reduceEqDiff, Nat.reduceLeDiff, Nat.reduceLT, Nat.reduceBEq, reduceCtorEq, reduceIte, c2, c3, c4, c5, c6, c7, c8, hx10, lt_t hx10, lt_p hx10, nat_in (lt_n hx10) hlhx10, c15, c16, c17, c19, g13_1, g13_49, g13_50, g13_51, og13_0]
                    · try simp only [go_sem, Int.reduceLT, Int.reduceLE, Int.reduceBEq, Int.reduceBNe, Nat.reduceBNe, Nat.reduceAdd, Nat.reduceMul, Nat.reduceEqDiff, Nat.reduceLeDiff, Nat.reduceLT, Nat.reduceBEq, reduceCtorEq, reduceIte, c2, c3, c4, c5, c6, c7, c8, hx10, lt_t hx10, lt_p hx10, nat_in (lt_n hx10) hlhx10, c15, c16, g13_1, g13_49, g13_50, g13_51, og13_0]
                      obtain ⟨v54, e20, h⟩ := bind_K h
                      refine call_K (by first | exact i_condFits_ok e20 | simpa only [go_sem, Int.reduceLT, Int.reduceLE, Int.reduceBEq, Int.reduceBNe, Nat.reduceBNe, Nat.reduceAdd, Nat.reduceMul, Nat.reduceEqDiff, Nat.reduceLeDiff, Nat.reduceLT, Nat.reduceBEq, reduceCtorEq, reduceIte, c2, c3, c4, c5, c6, c7, c8, hx10, lt_t hx10, lt_p hx10, nat_in (lt_n hx10) hlhx10, c15, c16, g13_1, g13_49, g13_50, g13_51, og13_0] using i_condFits_ok e20) ?_
                      try simp only [go_sem, Int.reduceLT, Int.reduceLE, Int.reduceBEq, Int.reduceBNe, Nat.reduceBNe, Nat.reduceAdd, Nat.reduceMul, Nat.reduceEqDiff, Nat.reduceLeDiff, Nat.reduceLT, Nat.reduceBEq, reduceCtorEq, reduceIte, c2, c3, c4, c5, c6, c7, c8, hx10, lt_t hx10, lt_p hx10, nat_in (lt_n hx10) hlhx10, c15, c16, g13_1, g13_49, g13_50, g13_51, og13_0]
                      refine ite_K h (fun c21 h => ?_) (fun c21 h => ?_)
                      · try simp only [go_sem, Int.reduceLT, Int.reduceLE, Int.reduceBEq, Int.reduceBNe, Nat.reduceBNe, Nat.reduceAdd, Nat.reduceMul, Nat.reduceEqDiff, Nat.reduceLeDiff, Nat.reduceLT, Nat.reduceBEq, reduceCtorEq, reduceIte, c2, c3, c4, c5, c6, c7, c8, hx10, lt_t hx10, lt_p hx10, nat_in (lt_n hx10) hlhx10, c15, c16, c21, g13_1, g13_49, g13_50, g13_51, og13_0]
                        refine ⟨_, [], [0], (Option.some.inj h).symm, by decide, ?_⟩
                        try simp only [go_sem, Int.reduceLT, Int.reduceLE, Int.reduceBEq, Int.reduceBNe, Nat.reduceBNe, Nat.reduceAdd, Nat.reduceMul, Nat.reduceEqDiff, Nat.reduceLeDiff, Nat.reduceLT, Nat.reduceBEq, reduceCtorEq, reduceIte, c2, c3, c4, c5, c6, c7, c8, hx10, lt_t hx10, lt_p hx10, nat_in (lt_n hx10) hlhx10, c15, c16, c21, g13_1, g13_49, g13_50, g13_51, og13_0, IV, sts_cons, sts_nil, obs_cons, obs_nil]
                      · replace h := inr_K h hy9
                        obtain rfl := Option.some.inj h
                        try simp only [go_sem, Int.reduceLT, Int.reduceLE, Int.reduceBEq, Int.reduceBNe, Nat.reduceBNe, Nat.reduceAdd, Nat.reduceMul, Nat.reduceEqDiff, Nat.reduceLeDiff, Nat.reduceLT, Nat.reduceBEq, reduceCtorEq, reduceIte, c2, c3, c4, c5, c6, c7, c8, hx10, lt_t hx10, lt_p hx10, nat_in (lt_n hx10) hlhx10, c15, c16, c21, g13_1, g13_49, g13_50, g13_51, og13_0]
                  · replace h := inr_K h hy9
                    obtain rfl := Option.some.inj h
                    try simp only [go_sem, Int.reduceLT, Int.reduceLE, Int.reduceBEq, Int.reduceBNe, Nat.reduceBNe, Nat.reduceAdd, Nat.reduceMul, Nat.reduceEqDiff, Nat.reduceLeDiff, Nat.reduceLT, Nat.reduceBEq, reduceCtorEq, reduceIte, c2, c3, c4, c5, c6, c7, c8, hx10, lt_t hx10, lt_p hx10, nat_in (lt_n hx10) hlhx10, c15, g13_1, g13_49, g13_50, g13_51, og13_0]
                · rintro ⟨⟩ ⟨sl, ob, n⟩ hI22 hW23 h
                  simp only [IV, sts_cons, sts_nil, obs_cons, obs_nil, and_true, true_and, Nat.reduceAdd, str_len] at hI22
                  obtain ⟨⟨g24_1, g24_49, g24_50, g24_51⟩, og24_0, hn⟩ := hI22
                  subst hn
                  try simp only [go_sem, Int.reduceLT, Int.reduceLE, Int.reduceBEq, Int.reduceBNe, Nat.reduceBNe, Nat.reduceAdd, Nat.reduceMul, Nat.reduceEqDiff, Nat.reduceLeDiff, Nat.reduceLT, Nat.reduceBEq, reduceCtorEq, reduceIte, c2, c3, c4, c5, c6, c7, c8, lt_f (append_0.cond.length), g24_1, g24_49, g24_50, g24_51, og24_0]
                  obtain ⟨v55, e25, h⟩ := bind_K h
                  refine call_K (by first | exact i_BoundVars_ok e25 | simpa only [go_sem, Int.reduceLT, Int.reduceLE, Int.reduceBEq, Int.reduceBNe, Nat.reduceBNe, Nat.reduceAdd, Nat.reduceMul, Nat.reduceEqDiff, Nat.reduceLeDiff, Nat.reduceLT, Nat.reduceBEq, reduceCtorEq, reduceIte, c2, c3, c4, c5, c6, c7, c8, lt_f (append_0.cond.length), g24_1, g24_49, g24_50, g24_51, og24_0] using i_BoundVars_ok e25) ?_
                  try simp only [go_sem, Int.reduceLT, Int.reduceLE, Int.reduceBEq, Int.reduceBNe, Nat.reduceBNe, Nat.reduceAdd, Nat.reduceMul, Nat.reduceEqDiff, Nat.reduceLeDiff, Nat.reduceLT, Nat.reduceBEq, reduceCtorEq, reduceIte, c2, c3, c4, c5, c6, c7, c8, lt_f (append_0.cond.length), g24_1, g24_49, g24_50, g24_51, og24_0]
                  refine swp_for h (fun i _ st => IV [(1, .bp 0 0), (5, .p false [.row 1]), (81, .p false [.c (.sl 128 3 (List.map eAction append_0.thn))]), (82, .p false [.c (.int .i64 ((append_0.thn.length : Nat) : Int))]), (83, .p false [.c (.int .i64 ((i : Nat) : Int))])] [.box 75 [.c (.str append_0.name), .c (.int .i64 append_0.priority), .c (.sl 120 5 (List.map eCond append_0.cond)), .c (.sl 128 3 (List.map eAction append_0.thn))], .row 9 1 (List.map eStr v55) 2] st) [] [0, 81] (by decide) ?_ ?_ ?_
                  · simp only [go_sem, Int.reduceLT, Int.reduceLE, Int.reduceBEq, Int.reduceBNe, Nat.reduceBNe, Nat.reduceAdd, Nat.reduceMul, Nat.reduceEqDiff, Nat.reduceLeDiff, Nat.reduceLT, Nat.reduceBEq, reduceCtorEq, reduceIte, IV, sts_cons, sts_nil, obs_cons, obs_nil, c2, c3, c4, c5, c6, c7, c8, lt_f (append_0.cond.length), g24_1, g24_49, g24_50, g24_51, og24_0]
                  · rintro i81 x82 ⟨⟩ ⟨sl, ob, n⟩ y26 hx27 hI28 hW29 h hy26
                    simp only [IV, sts_cons, sts_nil, obs_cons, obs_nil, and_true, true_and, Nat.reduceAdd, str_len] at hI28
                    obtain ⟨⟨g30_1, g30_5, g30_81, g30_82, g30_83⟩, og30_0, og30_1, hn⟩ := hI28
                    subst hn
                    have hlhx27 := WF.slotL hW29 g30_81 (j := 0) rfl
                    try simp only [go_sem, Int.reduceLT, Int.reduceLE, Int.reduceBEq, Int.reduceBNe, Nat.reduceBNe, Nat.reduceAdd, Nat.reduceMul, Nat.reduceEqDiff, Nat.reduceLeDiff, Nat.reduceLT, Nat.reduceBEq, reduceCtorEq, reduceIte, c2, c3, c4, c5, c6, c7, c8, lt_f (append_0.cond.length), hx27, lt_t hx27, lt_p hx27, nat_in (lt_n hx27) hlhx27, g30_1, g30_5, g30_81, g30_82, g30_83, og30_0, og30_1]
                    obtain ⟨v83, e31, h⟩ := bind_K h
                    refine call_K (by first | exact i_IsAction_ok e31 | simpa only [go_sem, Int.reduceLT, Int.reduceLE, Int.reduceBEq, Int.reduceBNe, Nat.reduceBNe, Nat.reduceAdd, Nat.reduceMul, Nat.reduceEqDiff, Nat.reduceLeDiff, Nat.reduceLT, Nat.reduceBEq, reduceCtorEq, reduceIte, c2, c3, c4, c5, c6, c7, c8, lt_f (append_0.cond.length), hx27, lt_t hx27, lt_p hx27, nat_in (lt_n hx27) hlhx27, g30_1, g30_5, g30_81, g30_82, g30_83, og30_0, og30_1] using i_IsAction_ok e31) ?_
                    try simp only [go_sem, Int.reduceLT, Int.reduceLE, Int.reduceBEq, Int.reduceBNe, Nat.reduceBNe, Nat.reduceAdd, Nat.reduceMul, Nat.reduceEqDiff, Nat.reduceLeDiff, Nat.reduceLT, Nat.reduceBEq, reduceCtorEq, reduceIte, c2, c3, c4, c5, c6, c7, c8, lt_f (append_0.cond.length), hx27, lt_t hx27, lt_p hx27, nat_in (lt_n hx27) hlhx27, g30_1, g30_5, g30_81, g30_82, g30_83, og30_0, og30_1]
                    refine ite_K h (fun c32 h => ?_) (fun c32 h => ?_)
                    · try simp only [go_sem, Int.reduceLT, Int.reduceLE, Int.reduceBEq, Int.reduceBNe, Nat.reduceBNe, Nat.reduceAdd, Nat.reduceMul, Nat.reduceEqDiff, Nat.reduceLeDiff, Nat.reduceLT, Nat.reduceBEq, reduceCtorEq, reduceIte, c2, c3, c4, c5, c6, c7, c8, lt_f (append_0.cond.length), hx27, lt_t hx27, lt_p hx27, nat_in (lt_n hx27) hlhx27, c32, g30_1, g30_5, g30_81, g30_82, g30_83, og30_0, og30_1]
                      obtain ⟨v84, e33, h⟩ := bind_K h
                      refine call_K (by first | exact i_varsAmong_ok e33 | simpa only [go_sem, Int.reduceLT, Int.reduceLE, Int.reduceBEq, Int.reduceBNe, Nat.reduceBNe, Nat.reduceAdd, Nat.reduceMul, Nat.reduceEqDiff, Nat.reduceLeDiff, Nat.reduceLT, Nat.reduceBEq, reduceCtorEq, reduceIte, c2, c3, c4, c5, c6, c7, c8, lt_f (append_0.cond.length), hx27, lt_t hx27, lt_p hx27, nat_in (lt_n hx27) hlhx27, c32, g30_1, g30_5, g30_81, g30_82, g30_83, og30_0, og30_1] using i_varsAmong_ok e33) ?_
                      try simp only [go_sem, Int.reduceLT, Int.reduceLE, Int.reduceBEq, Int.reduceBNe, Nat.reduceBNe, Nat.reduceAdd, Nat.reduceMul, Nat.reduceEqDiff, Nat.reduceLeDiff, Nat.reduceLT, Nat.reduceBEq, reduceCtorEq, reduceIte, c2, c3, c4, c5, c6, c7, c8, lt_f (append_0.cond.length), hx27, lt_t hx27, lt_p hx27, nat_in (lt_n hx27) hlhx27, c32, g30_1, g30_5, g30_81, g30_82, g30_83, og30_0, og30_1]
                      refine swp_for h (fun i _ st => IV [(1, .bp 0 0), (5, .p false [.row 1]), (81, .p false [.c (.sl 128 3 (List.map eAction append_0.thn))]), (82, .p false [.c (.int .i64 ((append_0.thn.length : Nat) : Int))]), (83, .p false [.c (.int .i64 ((i81 : Nat) : Int))]), (93, .p false [.row 2]), (94, .p false [.c (.int .i64 ((v84.length : Nat) : Int))]), (95, .p false [.c (.int .i64 ((i : Nat) : Int))])] [.box 75 [.c (.str append_0.name), .c (.int .i64 append_0.priority), .c (.sl 120 5 (List.map eCond append_0.cond)), .c (.sl 128 3 (List.map eAction append_0.thn))], .row 9 1 (List.map eStr v55) 2, .row 9 1 (List.map eStr v84) 2] st) [] [0, 1, 178] (by decide) ?_ ?_ ?_
                      · simp only [go_sem, Int.reduceLT, Int.reduceLE, Int.reduceBEq, Int.reduceBNe, Nat.reduceBNe, Nat.reduceAdd, Nat.reduceMul, Nat.reduceEqDiff, Nat.reduceLeDiff, Nat.reduceLT, Nat.reduceBEq, reduceCtorEq, reduceIte, IV, sts_cons, sts_nil, obs_cons, obs_nil, c2, c3, c4, c5, c6, c7, c8, lt_f (append_0.cond.length), hx27, lt_t hx27, lt_p hx27, nat_in (lt_n hx27) hlhx27, c32, g30_1, g30_5, g30_81, g30_82, g30_83, og30_0, og30_1]
                      · rintro i90 x91 ⟨⟩ ⟨sl, ob, n⟩ y34 hx35 hI36 hW37 h hy34
                        simp only [IV, sts_cons, sts_nil, obs_cons, obs_nil, and_true, true_and, Nat.reduceAdd, str_len] at hI36
                        obtain ⟨⟨g38_1, g38_5, g38_81, g38_82, g38_83, g38_93, g38_94, g38_95⟩, og38_0, og38_1, og38_2, hn⟩ := hI36
                        subst hn
                        have hlhx35 := WF.rowL hW37 og38_2
                        try simp only [go_sem, Int.reduceLT, Int.reduceLE, Int.reduceBEq, Int.reduceBNe, Nat.reduceBNe, Nat.reduceAdd, Nat.reduceMul, Nat.reduceEqDiff, Nat.reduceLeDiff, Nat.reduceLT, Nat.reduceBEq, reduceCtorEq, reduceIte, c2, c3, c4, c5, c6, c7, c8, lt_f (append_0.cond.length), hx27, lt_t hx27, lt_p hx27, nat_in (lt_n hx27) hlhx27, c32, hx35, lt_t hx35, lt_p hx35, nat_in (lt_n hx35) hlhx35, g38_1, g38_5, g38_81, g38_82, g38_83, g38_93, g38_94, g38_95, og38_0, og38_1, og38_2]
                        obtain ⟨v92, e39, h⟩ := bind_K h
                        refine call_K (by first | exact i_hasText_ok e39 | simpa only [go_sem, Int.reduceLT, Int.reduceLE, Int.reduceBEq, Int.reduceBNe, Nat.reduceBNe, Nat.reduceAdd, Nat.reduceMul, Nat.reduceEqDiff, Nat.reduceLeDiff, Nat.reduceLT, Nat.reduceBEq, reduceCtorEq, reduceIte, c2, c3, c4, c5, c6, c7, c8, lt_f (append_0.cond.length), hx27, lt_t hx27, lt_p hx27, nat_in (lt_n hx27) hlhx27, c32, hx35, lt_t hx35, lt_p hx35, nat_in (lt_n hx35) hlhx35, g38_1, g38_5, g38_81, g38_82, g38_83, g38_93, g38_94, g38_95, og38_0, og38_1, og38_2] using i_hasText_ok e39) ?_
                        try simp only [go_sem, Int.reduceLT, Int.reduceLE, Int.reduceBEq, Int.reduceBNe, Nat.reduceBNe, Nat.reduceAdd, Nat.reduceMul, Nat.reduceEqDiff, Nat.reduceLeDiff, Nat.reduceLT, Nat.reduceBEq, reduceCtorEq, reduceIte, c2, c3, c4, c5, c6, c7, c8, lt_f (append_0.cond.length), hx27, lt_t hx27, lt_p hx27, nat_in (lt_n hx27) hlhx27, c32, hx35, lt_t hx35, lt_p hx35, nat_in (lt_n hx35) hlhx35, g38_1, g38_5, g38_81, g38_82, g38_83, g38_93, g38_94, g38_95, og38_0, og38_1, og38_2]
                        refine ite_K h (fun c40 h => ?_) (fun c40 h => ?_)
                        · try simp only [go_sem, Int.reduceLT, Int.reduceLE, Int.reduceBEq, Int.reduceBNe, Nat.reduceBNe, Nat.reduceAdd, Nat.reduceMul, Nat.reduceEqDiff, Nat.reduceLeDiff, Nat.reduceLT, Nat.reduceBEq, reduceCtorEq, reduceIte, c2, c3, c4, c5, c6, c7, c8, lt_f (append_0.cond.length), hx27, lt_t hx27, lt_p hx27, nat_in (lt_n hx27) hlhx27, c32, hx35, lt_t hx35, lt_p hx35, nat_in (lt_n hx35) hlhx35, c40, g38_1, g38_5, g38_81, g38_82, g38_83, g38_93, g38_94, g38_95, og38_0, og38_1, og38_2]
                          refine ⟨_, [], [0, 1, 2], (Option.some.inj h).symm, by decide, ?_⟩
                          try simp only [go_sem, Int.reduceLT, Int.reduceLE, Int.reduceBEq, Int.reduceBNe, Nat.reduceBNe, Nat.reduceAdd, Nat.reduceMul, Nat.reduceEqDiff, Nat.reduceLeDiff, Nat.reduceLT, Nat.reduceBEq, reduceCtorEq, reduceIte, c2, c3, c4, c5, c6, c7, c8, lt_f (append_0.cond.length), hx27, lt_t hx27, lt_p hx27, nat_in (lt_n hx27) hlhx27, c32, hx35, lt_t hx35, lt_p hx35, nat_in (lt_n hx35) hlhx35, c40, g38_1, g38_5, g38_81, g38_82, g38_83, g38_93, g38_94, g38_95, og38_0, og38_1, og38_2, IV, sts_cons, sts_nil, obs_cons, obs_nil]
                        · replace h := inr_K h hy34
                          replace h := inr_K h hy26
                          obtain rfl := Option.some.inj h
                          try simp only [go_sem, Int.reduceLT, Int.reduceLE, Int.reduceBEq, Int.reduceBNe, Nat.reduceBNe, Nat.reduceAdd, Nat.reduceMul, Nat.reduceEqDiff, Nat.reduceLeDiff, Nat.reduceLT, Nat.reduceBEq, reduceCtorEq, reduceIte, c2, c3, c4, c5, c6, c7, c8, lt_f (append_0.cond.length), hx27, lt_t hx27, lt_p hx27, nat_in (lt_n hx27) hlhx27, c32, hx35, lt_t hx35, lt_p hx35, nat_in (lt_n hx35) hlhx35, c40, g38_1, g38_5, g38_81, g38_82, g38_83, g38_93, g38_94, g38_95, og38_0, og38_1, og38_2]
                      · rintro ⟨⟩ ⟨sl, ob, n⟩ hI41 hW42 h
                        simp only [IV, sts_cons, sts_nil, obs_cons, obs_nil, and_true, true_and, Nat.reduceAdd, str_len] at hI41
                        obtain ⟨⟨g43_1, g43_5, g43_81, g43_82, g43_83, g43_93, g43_94, g43_95⟩, og43_0, og43_1, og43_2, hn⟩ := hI41
                        subst hn
                        try simp only [go_sem, Int.reduceLT, Int.reduceLE, Int.reduceBEq, Int.reduceBNe, Nat.reduceBNe, Nat.reduceAdd, Nat.reduceMul, Nat.reduceEqDiff, Nat.reduceLeDiff, Nat.reduceLT, Nat.reduceBEq, reduceCtorEq, reduceIte, c2, c3, c4, c5, c6, c7, c8, lt_f (append_0.cond.length), hx27, lt_t hx27, lt_p hx27, nat_in (lt_n hx27) hlhx27, c32, lt_f (v84.length), g43_1, g43_5, g43_81, g43_82, g43_83, g43_93, g43_94, g43_95, og43_0, og43_1, og43_2]
                        refine ⟨_, [], [0, 1], (Option.some.inj h).symm, by decide, ?_⟩
                        try simp only [go_sem, Int.reduceLT, Int.reduceLE, Int.reduceBEq, Int.reduceBNe, Nat.reduceBNe, Nat.reduceAdd, Nat.reduceMul, Nat.reduceEqDiff, Nat.reduceLeDiff, Nat.reduceLT, Nat.reduceBEq, reduceCtorEq, reduceIte, c2, c3, c4, c5, c6, c7, c8, lt_f (append_0.cond.length), hx27, lt_t hx27, lt_p hx27, nat_in (lt_n hx27) hlhx27, c32, lt_f (v84.length), g43_1, g43_5, g43_81, g43_82, g43_83, g43_93, g43_94, g43_95, og43_0, og43_1, og43_2, IV, sts_cons, sts_nil, obs_cons, obs_nil]
                    · replace h := inr_K h hy26
                      obtain rfl := Option.some.inj h
                      try simp only [go_sem, Int.reduceLT, Int.reduceLE, Int.reduceBEq, Int.reduceBNe, Nat.reduceBNe, Nat.reduceAdd, Nat.reduceMul, Nat.reduceEqDiff, Nat.reduceLeDiff, Nat.reduceLT, Nat.reduceBEq, reduceCtorEq, reduceIte, c2, c3, c4, c5, c6, c7, c8, lt_f (append_0.cond.length), hx27, lt_t hx27, lt_p hx27, nat_in (lt_n hx27) hlhx27, c32, g30_1, g30_5, g30_81, g30_82, g30_83, og30_0, og30_1]
                  · rintro ⟨⟩ ⟨sl, ob, n⟩ hI44 hW45 h
                    simp only [IV, sts_cons, sts_nil, obs_cons, obs_nil, and_true, true_and, Nat.reduceAdd, str_len] at hI44
                    obtain ⟨⟨g46_1, g46_5, g46_81, g46_82, g46_83⟩, og46_0, og46_1, hn⟩ := hI44
                    subst hn
                    try simp only [go_sem, Int.reduceLT, Int.reduceLE, Int.reduceBEq, Int.reduceBNe, Nat.reduceBNe, Nat.reduceAdd, Nat.reduceMul, Nat.reduceEqDiff, Nat.reduceLeDiff, Nat.reduceLT, Nat.reduceBEq, reduceCtorEq, reduceIte, c2, c3, c4, c5, c6, c7, c8, lt_f (append_0.cond.length), lt_f (append_0.thn.length), g46_1, g46_5, g46_81, g46_82, g46_83, og46_0, og46_1]
                    obtain ⟨v93, e47, h⟩ := bind_K h
                    refine call_K (by first | exact i_condVarsOf_ok e47 | simpa only [go_sem, Int.reduceLT, Int.reduceLE, Int.reduceBEq, Int.reduceBNe, Nat.reduceBNe, Nat.reduceAdd, Nat.reduceMul, Nat.reduceEqDiff, Nat.reduceLeDiff, Nat.reduceLT, Nat.reduceBEq, reduceCtorEq, reduceIte, c2, c3, c4, c5, c6, c7, c8, lt_f (append_0.cond.length), lt_f (append_0.thn.length), g46_1, g46_5, g46_81, g46_82, g46_83, og46_0, og46_1] using i_condVarsOf_ok e47) ?_
                    try simp only [go_sem, Int.reduceLT, Int.reduceLE, Int.reduceBEq, Int.reduceBNe, Nat.reduceBNe, Nat.reduceAdd, Nat.reduceMul, Nat.reduceEqDiff, Nat.reduceLeDiff, Nat.reduceLT, Nat.reduceBEq, reduceCtorEq, reduceIte, c2, c3, c4, c5, c6, c7, c8, lt_f (append_0.cond.length), lt_f (append_0.thn.length), g46_1, g46_5, g46_81, g46_82, g46_83, og46_0, og46_1]
                    obtain ⟨v94, e48, h⟩ := bind_K h
                    refine call_K (by first | exact i_SortedTexts_ok e48 | simpa only [go_sem, Int.reduceLT, Int.reduceLE, Int.reduceBEq, Int.reduceBNe, Nat.reduceBNe, Nat.reduceAdd, Nat.reduceMul, Nat.reduceEqDiff, Nat.reduceLeDiff, Nat.reduceLT, Nat.reduceBEq, reduceCtorEq, reduceIte, c2, c3, c4, c5, c6, c7, c8, lt_f (append_0.cond.length), lt_f (append_0.thn.length), g46_1, g46_5, g46_81, g46_82, g46_83, og46_0, og46_1] using i_SortedTexts_ok e48) ?_
                    obtain rfl := Option.some.inj h
                    try simp only [go_sem, Int.reduceLT, Int.reduceLE, Int.reduceBEq, Int.reduceBNe, Nat.reduceBNe, Nat.reduceAdd, Nat.reduceMul, Nat.reduceEqDiff, Nat.reduceLeDiff, Nat.reduceLT, Nat.reduceBEq, reduceCtorEq, reduceIte, c2, c3, c4, c5, c6, c7, c8, lt_f (append_0.cond.length), lt_f (append_0.thn.length), g46_1, g46_5, g46_81, g46_82, g46_83, og46_0, og46_1]
  · obtain rfl := Option.some.inj h
    try simp only [go_sem, Int.reduceLT, Int.reduceLE, Int.reduceBEq, Int.reduceBNe, Nat.reduceBNe, Nat.reduceAdd, Nat.reduceMul, Nat.reduceEqDiff, Nat.reduceLeDiff, Nat.reduceLT, Nat.reduceBEq, reduceCtorEq, reduceIte, c2]
end Go.Proofs.Ytccbhhglghboaaa

namespace Go.Proofs.Ytccbhhglghboaaa
open Go.Proofs.Try
set_option linter.unusedSimpArgs false
set_option linter.unusedVariables false
set_option maxRecDepth 1000000
set_option maxHeartbeats 4000000
theorem s_IsRule_ok {append_0 : RuleD} {r : Bool} (h : s_IsRule append_0 = some r) : Sound Try.prog J0 78 [(true, eRule append_0)] [(false, [(false, .bool r)])] := by
  refine fnk Try.func78 (by kernel_rfl) rfl (by kernel_rfl) (by kernel_rfl) ?_
  unfold s_IsRule at h
  simp only [fnS, f78, argSt, go_sem, Int.reduceLT, Int.reduceLE, Int.reduceBEq, Int.reduceBNe, Nat.reduceBNe, Nat.reduceAdd, Nat.reduceMul, Nat.reduceEqDiff, Nat.reduceLeDiff, Nat.reduceLT, Nat.reduceBEq, reduceCtorEq, reduceIte]
  obtain ⟨v1, e1, h⟩ := bind_K h
  refine call_K (by first | exact s_IsName_ok e1 | simpa only [go_sem, Int.reduceLT, Int.reduceLE, Int.reduceBEq, Int.reduceBNe, Nat.reduceBNe, Nat.reduceAdd, Nat.reduceMul, Nat.reduceEqDiff, Nat.reduceLeDiff, Nat.reduceLT, Nat.reduceBEq, reduceCtorEq, reduceIte] using s_IsName_ok e1) ?_
  try simp only [go_sem, Int.reduceLT, Int.reduceLE, Int.reduceBEq, Int.reduceBNe, Nat.reduceBNe, Nat.reduceAdd, Nat.reduceMul, Nat.reduceEqDiff, Nat.reduceLeDiff, Nat.reduceLT, Nat.reduceBEq, reduceCtorEq, reduceIte]
  refine ite_K h (fun c2 h => ?_) (fun c2 h => ?_)
  · try simp only [go_sem, Int.reduceLT, Int.reduceLE, Int.reduceBEq, Int.reduceBNe, Nat.reduceBNe, Nat.reduceAdd, Nat.reduceMul, Nat.reduceEqDiff, Nat.reduceLeDiff, Nat.reduceLT, Nat.reduceBEq, reduceCtorEq, reduceIte, c2]
    obtain ⟨v2, e3, h⟩ := bind_K h
    refine call_K (by first | exact s_l1In_ok e3 | simpa only [go_sem, Int.reduceLT, Int.reduceLE, Int.reduceBEq, Int.reduceBNe, Nat.reduceBNe, Nat.reduceAdd, Nat.reduceMul, Nat.reduceEqDiff, Nat.reduceLeDiff, Nat.reduceLT, Nat.reduceBEq, reduceCtorEq, reduceIte, c2] using s_l1In_ok e3) ?_
    try simp only [go_sem, Int.reduceLT, Int.reduceLE, Int.reduceBEq, Int.reduceBNe, Nat.reduceBNe, Nat.reduceAdd, Nat.reduceMul, Nat.reduceEqDiff, Nat.reduceLeDiff, Nat.reduceLT, Nat.reduceBEq, reduceCtorEq, reduceIte, c2]
    refine ite_K h (fun c4 h => ?_) (fun c4 h => ?_)
    · try simp only [go_sem, Int.reduceLT, Int.reduceLE, Int.reduceBEq, Int.reduceBNe, Nat.reduceBNe, Nat.reduceAdd, Nat.reduceMul, Nat.reduceEqDiff, Nat.reduceLeDiff, Nat.reduceLT, Nat.reduceBEq, reduceCtorEq, reduceIte, c2, c4]
      obtain ⟨v3, e5, h⟩ := bind_K h
      refine call_K (by first | exact s_l1In_ok e5 | simpa only [go_sem, Int.reduceLT, Int.reduceLE, Int.reduceBEq, Int.reduceBNe, Nat.reduceBNe, Nat.reduceAdd, Nat.reduceMul, Nat.reduceEqDiff, Nat.reduceLeDiff, Nat.reduceLT, Nat.reduceBEq, reduceCtorEq, reduceIte, c2, c4] using s_l1In_ok e5) ?_
      try simp only [go_sem, Int.reduceLT, Int.reduceLE, Int.reduceBEq, Int.reduceBNe, Nat.reduceBNe, Nat.reduceAdd, Nat.reduceMul, Nat.reduceEqDiff, Nat.reduceLeDiff, Nat.reduceLT, Nat.reduceBEq, reduceCtorEq, reduceIte, c2, c4]
      refine ite_K h (fun c6 h => ?_) (fun c6 h => ?_)
      · try simp only [go_sem, Int.reduceLT, Int.reduceLE, Int.reduceBEq, Int.reduceBNe, Nat.reduceBNe, Nat.reduceAdd, Nat.reduceMul, Nat.reduceEqDiff, Nat.reduceLeDiff, Nat.reduceLT, Nat.reduceBEq, reduceCtorEq, reduceIte, c2, c4, c6]
        obtain ⟨v4, e7, h⟩ := bind_K h
        refine call_K (by first | exact s_l1In_ok e7 | simpa only [go_sem, Int.reduceLT, Int.reduceLE, Int.reduceBEq, Int.reduceBNe, Nat.reduceBNe, Nat.reduceAdd, Nat.reduceMul, Nat.reduceEqDiff, Nat.reduceLeDiff, Nat.reduceLT, Nat.reduceBEq, reduceCtorEq, reduceIte, c2, c4, c6] using s_l1In_ok e7) ?_
        try simp only [go_sem, Int.reduceLT, Int.reduceLE, Int.reduceBEq, Int.reduceBNe, Nat.reduceBNe, Nat.reduceAdd, Nat.reduceMul, Nat.reduceEqDiff, Nat.reduceLeDiff, Nat.reduceLT, Nat.reduceBEq, reduceCtorEq, reduceIte, c2, c4, c6]
        refine ite_K h (fun c8 h => ?_) (fun c8 h => ?_)
        · try simp only [go_sem, Int.reduceLT, Int.reduceLE, Int.reduceBEq, Int.reduceBNe, Nat.reduceBNe, Nat.reduceAdd, Nat.reduceMul, Nat.reduceEqDiff, Nat.reduceLeDiff, Nat.reduceLT, Nat.reduceBEq, reduceCtorEq, reduceIte, c2, c4, c6, c8]
          obtain ⟨v5, e9, h⟩ := bind_K h
          refine call_K (by first | exact s_BoundVars_ok e9 | simpa only [go_sem, Int.reduceLT, Int.reduceLE, Int.reduceBEq, Int.reduceBNe, Nat.reduceBNe, Nat.reduceAdd, Nat.reduceMul, Nat.reduceEqDiff, Nat.reduceLeDiff, Nat.reduceLT, Nat.reduceBEq, reduceCtorEq, reduceIte, c2, c4, c6, c8] using s_BoundVars_ok e9) ?_
          try simp only [go_sem, Int.reduceLT, Int.reduceLE, Int.reduceBEq, Int.reduceBNe, Nat.reduceBNe, Nat.reduceAdd, Nat.reduceMul, Nat.reduceEqDiff, Nat.reduceLeDiff, Nat.reduceLT, Nat.reduceBEq, reduceCtorEq, reduceIte, c2, c4, c6, c8]
          refine swp_for h (fun i _ st => IV [(1, .bp 0 0), (3, .p false [.row 1]), (4, .p false [.c (.int .i64 ((i : Nat) : Int))])] [.box 75 [.c (.str append_0.name), .c (.int .i64 append_0.priority), .c (.sl 120 5 (List.map eCond append_0.cond)), .c (.sl 128 3 (List.map eAction append_0.thn))], .row 9 1 (List.map eStr v5) 2] st) [] [0, 480] (by decide) ?_ ?_ ?_
          · simp only [go_sem, Int.reduceLT, Int.reduceLE, Int.reduceBEq, Int.reduceBNe, Nat.reduceBNe, Nat.reduceAdd, Nat.reduceMul, Nat.reduceEqDiff, Nat.reduceLeDiff, Nat.reduceLT, Nat.reduceBEq, reduceCtorEq, reduceIte, IV, sts_cons, sts_nil, obs_cons, obs_nil, c2, c4, c6, c8]
          · rintro i96 x97 ⟨⟩ ⟨sl, ob, n⟩ y10 hx11 hI12 hW13 h hy10
            simp only [IV, sts_cons, sts_nil, obs_cons, obs_nil, and_true, true_and, Nat.reduceAdd, str_len] at hI12
            obtain ⟨⟨g14_1, g14_3, g14_4⟩, og14_0, og14_1, hn⟩ := hI12
            subst hn
            have hlhx11 := WF.boxL hW13 og14_0 (j := 2) rfl
            try simp only [go_sem, Int.reduceLT, Int.reduceLE, Int.reduceBEq, Int.reduceBNe, Nat.reduceBNe, Nat.reduceAdd, Nat.reduceMul, Nat.reduceEqDiff, Nat.reduceLeDiff, Nat.reduceLT, Nat.reduceBEq, reduceCtorEq, reduceIte, c2, c4, c6, c8, hx11, lt_t hx11, lt_p hx11, nat_in (lt_n hx11) hlhx11, g14_1, g14_3, g14_4, og14_0, og14_1]
            obtain ⟨v98, e15, h⟩ := bind_K h
            refine call_K (by first | exact s_IsCond_ok e15 | simpa only [go_sem, Int.reduceLT, Int.reduceLE, Int.reduceBEq, Int.reduceBNe, Nat.reduceBNe, Nat.reduceAdd, Nat.reduceMul, Nat.reduceEqDiff, Nat.reduceLeDiff, Nat.reduceLT, Nat.reduceBEq, reduceCtorEq, reduceIte, c2, c4, c6, c8, hx11, lt_t hx11, lt_p hx11, nat_in (lt_n hx11) hlhx11, g14_1, g14_3, g14_4, og14_0, og14_1] using s_IsCond_ok e15) ?_
            try simp only [go_sem, Int.reduceLT, Int.reduceLE, Int.reduceBEq, Int.reduceBNe, Nat.reduceBNe, Nat.reduceAdd, Nat.reduceMul, Nat.reduceEqDiff, Nat.reduceLeDiff, Nat.reduceLT, Nat.reduceBEq, reduceCtorEq, reduceIte, c2, c4, c6, c8, hx11, lt_t hx11, lt_p hx11, nat_in (lt_n hx11) hlhx11, g14_1, g14_3, g14_4, og14_0, og14_1]
            refine ite_K h (fun c16 h => ?_) (fun c16 h => ?_)
            · try simp only [go_sem, Int.reduceLT, Int.reduceLE, Int.reduceBEq, Int.reduceBNe, Nat.reduceBNe, Nat.reduceAdd, Nat.reduceMul, Nat.reduceEqDiff, Nat.reduceLeDiff, Nat.reduceLT, Nat.reduceBEq, reduceCtorEq, reduceIte, c2, c4, c6, c8, hx11, lt_t hx11, lt_p hx11, nat_in (lt_n hx11) hlhx11, c16, g14_1, g14_3, g14_4, og14_0, og14_1]
              refine ite_K h (fun c17 h => ?_) (fun c17 h => ?_)
              · try simp only [go_sem, Int.reduceLT, Int.reduceLE, Int.reduceBEq, Int.reduceBNe, Nat.reduceBNe, Nat.reduceAdd, Nat.reduceMul, Nat.reduceEqDiff, Nat.reduceLeDiff, Nat.reduceLT, Nat.reduceBEq, reduceCtorEq, reduceIte, c2, c4, c6, c8, hx11, lt_t hx11, lt_p hx11, nat_in (lt_n hx11) hlhx11, c16, c17, g14_1, g14_3, g14_4, og14_0, og14_1]
                refine ite_K h (fun c18 h => ?_) (fun c18 h => ?_)
                · replace h := inr_K h hy10
                  obtain rfl := Option.some.inj h
                  try simp only [go_sem, Int.reduceLT, Int.reduceLE, Int.reduceBEq, Int.reduceBNe, Nat.reduceBNe, Nat.reduceAdd, Nat.reduceMul, Nat.reduceEqDiff, Nat.reduceLeDiff, Nat.reduceLT, Nat.reduceBEq, reduceCtorEq, reduceIte, c2, c4, c6, c8, hx11, lt_t hx11, lt_p hx11, nat_in (lt_n hx11) hlhx11, c16, c17, c18, g14_1, g14_3, g14_4, og14_0, og14_1]
                · try simp only [go_sem, Int.reduceLT, Int.reduceLE, Int.reduceBEq, Int.reduceBNe, Nat.reduceBNe, Nat.reduceAdd, Nat.reduceMul, Nat.reduceEqDiff, Nat.reduceLeDiff, Nat.reduceLT, Nat.reduceBEq, reduceCtorEq, reduceIte, c2, c4, c6, c8, hx11, lt_t hx11, lt_p hx11, nat_in (lt_n hx11) hlhx11, c16, c17, c18, g14_1, g14_3, g14_4, og14_0, og14_1]
                  obtain ⟨v99, e19, h⟩ := bind_K h
                  refine call_K (by first | exact s_BoundVars_ok e19 | simpa only [go_sem, Int.reduceLT, Int.reduceLE, Int.reduceBEq, Int.reduceBNe, Nat.reduceBNe, Nat.reduceAdd, Nat.reduceMul, Nat.reduceEqDiff, Nat.reduceLeDiff, Nat.reduceLT, Nat.reduceBEq, reduceCtorEq, reduceIte, c2, c4, c6, c8, hx11, lt_t hx11, lt_p hx11, nat_in (lt_n hx11) hlhx11, c16, c17, c18, g14_1, g14_3, g14_4, og14_0, og14_1] using s_BoundVars_ok e19) ?_
                  try simp only [go_sem, Int.reduceLT, Int.reduceLE, Int.reduceBEq, Int.reduceBNe, Nat.reduceBNe, Nat.reduceAdd, Nat.reduceMul, Nat.reduceEqDiff, Nat.reduceLeDiff, Nat.reduceLT, Nat.reduceBEq, reduceCtorEq, reduceIte, c2, c4, c6, c8, hx11, lt_t hx11, lt_p hx11, nat_in (lt_n hx11) hlhx11, c16, c17, c18, g14_1, g14_3, g14_4, og14_0, og14_1]
                  obtain ⟨v100, e20, h⟩ := bind_K h
                  refine call_K (by first | exact s_CondVars_ok e20 | simpa only [go_sem, Int.reduceLT, Int.reduceLE, Int.reduceBEq, Int.reduceBNe, Nat.reduceBNe, Nat.reduceAdd, Nat.reduceMul, Nat.reduceEqDiff, Nat.reduceLeDiff, Nat.reduceLT, Nat.reduceBEq, reduceCtorEq, reduceIte, c2, c4, c6, c8, hx11, lt_t hx11, lt_p hx11, nat_in (lt_n hx11) hlhx11, c16, c17, c18, g14_1, g14_3, g14_4, og14_0, og14_1] using s_CondVars_ok e20) ?_
                  try simp only [go_sem, Int.reduceLT, Int.reduceLE, Int.reduceBEq, Int.reduceBNe, Nat.reduceBNe, Nat.reduceAdd, Nat.reduceMul, Nat.reduceEqDiff, Nat.reduceLeDiff, Nat.reduceLT, Nat.reduceBEq, reduceCtorEq, reduceIte, c2, c4, c6, c8, hx11, lt_t hx11, lt_p hx11, nat_in (lt_n hx11) hlhx11, c16, c17, c18, g14_1, g14_3, g14_4, og14_0, og14_1]
                  refine swp_for h (fun i _ st => IV [(1, .bp 0 0), (3, .p false [.row 1]), (4, .p false [.c (.int .i64 ((i96 : Nat) : Int))]), (5, .bp 2 0), (6, .p false [.row 3]), (7, .p false [.row 4]), (8, .p false [.c (.int .i64 ((i : Nat) : Int))]), (58, .p false [.c (.int .i64 ((i96 : Nat) : Int))]), (59, .p false [.c (.bool (((i96 : Nat) : Int) == 0))]), (60, .p false [.c (.bool (((i96 : Nat) : Int) == 0))]), (61, .bp 2 0), (62, .p false [.c (.int .i64 x97.kind)]), (63, .p false [.c (.bool (x97.kind != 1))]), (64, .p false [.c (.bool (x97.kind != 1))])] [.box 75 [.c (.str append_0.name), .c (.int .i64 append_0.priority), .c (.sl 120 5 (List.map eCond append_0.cond)), .c (.sl 128 3 (List.map eAction append_0.thn))], .row 9 1 (List.map eStr v5) 2, .box 120 [.c (.int .i64 x97.kind), .c (.str x97.pattern.rel), .c (.sl 9 1 (List.map eStr x97.pattern.args)), .c (.str x97.left), .c (.str x97.right)], .row 9 1 (List.map eStr v99) 2, .row 9 1 (List.map eStr v100) 2] st) [] [0, 1, 162, 418, 466] (by decide) ?_ ?_ ?_
                  · simp only [go_sem, Int.reduceLT, Int.reduceLE, Int.reduceBEq, Int.reduceBNe, Nat.reduceBNe, Nat.reduceAdd, Nat.reduceMul, Nat.reduceEqDiff, Nat.reduceLeDiff, Nat.reduceLT, Nat.reduceBEq, reduceCtorEq, reduceIte, IV, sts_cons, sts_nil, obs_cons, obs_nil, c2, c4, c6, c8, hx11, lt_t hx11, lt_p hx11, nat_in (lt_n hx11) hlhx11, c16, c17, c18, g14_1, g14_3, g14_4, og14_0, og14_1]
                  · rintro i110 x111 ⟨⟩ ⟨sl, ob, n⟩ y21 hx22 hI23 hW24 h hy21
                    simp only [IV, sts_cons, sts_nil, obs_cons, obs_nil, and_true, true_and, Nat.reduceAdd, str_len] at hI23
                    obtain ⟨⟨g25_1, g25_3, g25_4, g25_5, g25_6, g25_7, g25_8, g25_58, g25_59, g25_60, g25_61, g25_62, g25_63, g25_64⟩, og25_0, og25_1, og25_2, og25_3, og25_4, hn⟩ := hI23
                    subst hn
                    have hlhx22 := WF.rowL hW24 og25_4
                    try simp only [go_sem, Int.reduceLT, Int.reduceLE, Int.reduceBEq, Int.reduceBNe, Nat.reduceBNe, Nat.reduceAdd, Nat.reduceMul, Nat.reduceEqDiff, Nat.reduceLeDiff, Nat.reduceLT, Nat.reduceBEq, reduceCtorEq, reduceIte, c2, c4, c6, c8, hx11, lt_t hx11, lt_p hx11, nat_in (lt_n hx11) hlhx11, c16, c17, c18, hx22, lt_t hx22, lt_p hx22, nat_in (lt_n hx22) hlhx22, g25_1, g25_3, g25_4, g25_5, g25_6, g25_7, g25_8, g25_58, g25_59, g25_60, g25_61, g25_62, g25_63, g25_64, og25_0, og25_1, og25_2, og25_3, og25_4]
                    obtain ⟨v112, e26, h⟩ := bind_K h
                    refine call_K (by first | exact s_l1HasText_ok e26 | simpa only [go_sem, Int.reduceLT, Int.reduceLE, Int.reduceBEq, Int.reduceBNe, Nat.reduceBNe, Nat.reduceAdd, Nat.reduceMul, Nat.reduceEqDiff, Nat.reduceLeDiff, Nat.reduceLT, Nat.reduceBEq, reduceCtorEq, reduceIte, c2, c4, c6, c8, hx11, lt_t hx11, lt_p hx11, nat_in (lt_n hx11) hlhx11, c16, c17, c18, hx22, lt_t hx22, lt_p hx22, nat_in (lt_n hx22) hlhx22, g25_1, g25_3, g25_4, g25_5, g25_6, g25_7, g25_8, g25_58, g25_59, g25_60, g25_61, g25_62, g25_63, g25_64, og25_0, og25_1, og25_2, og25_3, og25_4] using s_l1HasText_ok e26) ?_
                    try simp only [go_sem, Int.reduceLT, Int.reduceLE, Int.reduceBEq, Int.reduceBNe, Nat.reduceBNe, Nat.reduceAdd, Nat.reduceMul, Nat.reduceEqDiff, Nat.reduceLeDiff, Nat.reduceLT, Nat.reduceBEq, reduceCtorEq, reduceIte, c2, c4, c6, c8, hx11, lt_t hx11, lt_p hx11, nat_in (lt_n hx11) hlhx11, c16, c17, c18, hx22, lt_t hx22, lt_p hx22, nat_in (lt_n hx22) hlhx22, g25_1, g25_3, g25_4, g25_5, g25_6, g25_7, g25_8, g25_58, g25_59, g25_60, g25_61, g25_62, g25_63, g25_64, og25_0, og25_1, og25_2, og25_3, og25_4]
                    obtain ⟨v113, e27, h⟩ := bind_K h
                    refine call_K (by first | exact s_IsTest_ok e27 | simpa only [go_sem, Int.reduceLT, Int.reduceLE, Int.reduceBEq, Int.reduceBNe, Nat.reduceBNe, Nat.reduceAdd, Nat.reduceMul, Nat.reduceEqDiff, Nat.reduceLeDiff, Nat.reduceLT, Nat.reduceBEq, reduceCtorEq, reduceIte, c2, c4, c6, c8, hx11, lt_t hx11, lt_p hx11, nat_in (lt_n hx11) hlhx11, c16, c17, c18, hx22, lt_t hx22, lt_p hx22, nat_in (lt_n hx22) hlhx22, g25_1, g25_3, g25_4, g25_5, g25_6, g25_7, g25_8, g25_58, g25_59, g25_60, g25_61, g25_62, g25_63, g25_64, og25_0, og25_1, og25_2, og25_3, og25_4] using s_IsTest_ok e27) ?_
                    try simp only [go_sem, Int.reduceLT, Int.reduceLE, Int.reduceBEq, Int.reduceBNe, Nat.reduceBNe, Nat.reduceAdd, Nat.reduceMul, Nat.reduceEqDiff, Nat.reduceLeDiff, Nat.reduceLT, Nat.reduceBEq, reduceCtorEq, reduceIte, c2, c4, c6, c8, hx11, lt_t hx11, lt_p hx11, nat_in (lt_n hx11) hlhx11, c16, c17, c18, hx22, lt_t hx22, lt_p hx22, nat_in (lt_n hx22) hlhx22, g25_1, g25_3, g25_4, g25_5, g25_6, g25_7, g25_8, g25_58, g25_59, g25_60, g25_61, g25_62, g25_63, g25_64, og25_0, og25_1, og25_2, og25_3, og25_4]
                    refine ite_K h (fun c28 h => ?_) (fun c28 h => ?_)
                    · try simp only [go_sem, Int.reduceLT, Int.reduceLE, Int.reduceBEq, Int.reduceBNe, Nat.reduceBNe, Nat.reduceAdd, Nat.reduceMul, Nat.reduceEqDiff, Nat.reduceLeDiff, Nat.reduceLT, Nat.reduceBEq, reduceCtorEq, reduceIte, c2, c4, c6, c8, hx11, lt_t hx11, lt_p hx11, nat_in (lt_n hx11) hlhx11, c16, c17, c18, hx22, lt_t hx22, lt_p hx22, nat_in (lt_n hx22) hlhx22, c28, g25_1, g25_3, g25_4, g25_5, g25_6, g25_7, g25_8, g25_58, g25_59, g25_60, g25_61, g25_62, g25_63, g25_64, og25_0, og25_1, og25_2, og25_3, og25_4]
                      refine ite_K h (fun c29 h => ?_) (fun c29 h => ?_)
                      · try simp only [go_sem, Int.reduceLT, Int.reduceLE, Int.reduceBEq, Int.reduceBNe, Nat.reduceBNe, Nat.reduceAdd, Nat.reduceMul, Nat.reduceEqDiff, Nat.reduceLeDiff, Nat.reduceLT, Nat.reduceBEq, reduceCtorEq, reduceIte, c2, c4, c6, c8, hx11, lt_t hx11, lt_p hx11, nat_in (lt_n hx11) hlhx11, c16, c17, c18, hx22, lt_t hx22, lt_p hx22, nat_in (lt_n hx22) hlhx22, c28, c29, g25_1, g25_3, g25_4, g25_5, g25_6, g25_7, g25_8, g25_58, g25_59, g25_60, g25_61, g25_62, g25_63, g25_64, og25_0, og25_1, og25_2, og25_3, og25_4]
                        refine ite_K h (fun c30 h => ?_) (fun c30 h => ?_)
                        · try simp only [go_sem, Int.reduceLT, Int.reduceLE, Int.reduceBEq, Int.reduceBNe, Nat.reduceBNe, Nat.reduceAdd, Nat.reduceMul, Nat.reduceEqDiff, Nat.reduceLeDiff, Nat.reduceLT, Nat.reduceBEq, reduceCtorEq, reduceIte, c2, c4, c6, c8, hx11, lt_t hx11, lt_p hx11, nat_in (lt_n hx11) hlhx11, c16, c17, c18, hx22, lt_t hx22, lt_p hx22, nat_in (lt_n hx22) hlhx22, c28, c29, c30, g25_1, g25_3, g25_4, g25_5, g25_6, g25_7, g25_8, g25_58, g25_59, g25_60, g25_61, g25_62, g25_63, g25_64, og25_0, og25_1, og25_2, og25_3, og25_4]
                          refine ⟨_, [], [0, 1, 2, 3, 4], (Option.some.inj h).symm, by decide, ?_⟩
                          try simp only [go_sem, Int.reduceLT, Int.reduceLE, Int.reduceBEq, Int.reduceBNe, Nat.reduceBNe, Nat.reduceAdd, Nat.reduceMul, Nat.reduceEqDiff, Nat.reduceLeDiff, Nat.reduceLT, Nat.reduceBEq, reduceCtorEq, reduceIte, c2, c4, c6, c8, hx11, lt_t hx11, lt_p hx11, nat_in (lt_n hx11) hlhx11, c16, c17, c18, hx22, lt_t hx22, lt_p hx22, nat_in (lt_n hx22) hlhx22, c28, c29, c30, g25_1, g25_3, g25_4, g25_5, g25_6, g25_7, g25_8, g25_58, g25_59, g25_60, g25_61, g25_62, g25_63, g25_64, og25_0, og25_1, og25_2, og25_3, og25_4, IV, sts_cons, sts_nil, obs_cons, obs_nil]
                        · try simp only [go_sem, Int.reduceLT, Int.reduceLE, Int.reduceBEq, Int.reduceBNe, Nat.reduceBNe, Nat.reduceAdd, Nat.reduceMul, Nat.reduceEqDiff, Nat.reduceLeDiff, Nat.reduceLT, Nat.reduceBEq, reduceCtorEq, reduceIte, c2, c4, c6, c8, hx11, lt_t hx11, lt_p hx11, nat_in (lt_n hx11) hlhx11, c16, c17, c18, hx22, lt_t hx22, lt_p hx22, nat_in (lt_n hx22) hlhx22, c28, c29, c30, g25_1, g25_3, g25_4, g25_5, g25_6, g25_7, g25_8, g25_58, g25_59, g25_60, g25_61, g25_62, g25_63, g25_64, og25_0, og25_1, og25_2, og25_3, og25_4]
                          refine ⟨_, [], [0, 1, 2, 3, 4], (Option.some.inj h).symm, by decide, ?_⟩
                          try simp only [go_sem, Int.reduceLT, Int.reduceLE, Int.reduceBEq, Int.reduceBNe, Nat.reduceBNe, Nat.reduceAdd, Nat.reduceMul, Nat.reduceEqDiff, Nat.reduceLeDiff, Nat.reduceLT, Nat.reduceBEq, reduceCtorEq, reduceIte, c2, c4, c6, c8, hx11, lt_t hx11, lt_p hx11, nat_in (lt_n hx11) hlhx11, c16, c17, c18, hx22, lt_t hx22, lt_p hx22, nat_in (lt_n hx22) hlhx22, c28, c29, c30, g25_1, g25_3, g25_4, g25_5, g25_6, g25_7, g25_8, g25_58, g25_59, g25_60, g25_61, g25_62, g25_63, g25_64, og25_0, og25_1, og25_2, og25_3, og25_4, IV, sts_cons, sts_nil, obs_cons, obs_nil]
                      · replace h := inr_K h hy21
                        replace h := inr_K h hy10
                        obtain rfl := Option.some.inj h
                        try simp only [go_sem, Int.reduceLT, Int.reduceLE, Int.reduceBEq, Int.reduceBNe, Nat.reduceBNe, Nat.reduceAdd, Nat.reduceMul, Nat.reduceEqDiff, Nat.reduceLeDiff, Nat.reduceLT, Nat.reduceBEq, reduceCtorEq, reduceIte, c2, c4, c6, c8, hx11, lt_t hx11, lt_p hx11, nat_in (lt_n hx11) hlhx11, c16, c17, c18, hx22, lt_t hx22, lt_p hx22, nat_in (lt_n hx22) hlhx22, c28, c29, g25_1, g25_3, g25_4, g25_5, g25_6, g25_7, g25_8, g25_58, g25_59, g25_60, g25_61, g25_62, g25_63, g25_64, og25_0, og25_1, og25_2, og25_3, og25_4]
                    · try simp only [go_sem, Int.reduceLT, Int.reduceLE, Int.reduceBEq, Int.reduceBNe, Nat.reduceBNe, Nat.reduceAdd, Nat.reduceMul, Nat.reduceEqDiff, Nat.reduceLeDiff, Nat.reduceLT, Nat.reduceBEq, reduceCtorEq, reduceIte, c2, c4, c6, c8, hx11, lt_t hx11, lt_p hx11, nat_in (lt_n hx11) hlhx11, c16, c17, c18, hx22, lt_t hx22, lt_p hx22, nat_in (lt_n hx22) hlhx22, c28, g25_1, g25_3, g25_4, g25_5, g25_6, g25_7, g25_8, g25_58, g25_59, g25_60, g25_61, g25_62, g25_63, g25_64, og25_0, og25_1, og25_2, og25_3, og25_4]
                      refine ite_K h (fun c31 h => ?_) (fun c31 h => ?_)
                      · try simp only [go_sem, Int.reduceLT, Int.reduceLE, Int.reduceBEq, Int.reduceBNe, Nat.reduceBNe, Nat.reduceAdd, Nat.reduceMul, Nat.reduceEqDiff, Nat.reduceLeDiff, Nat.reduceLT, Nat.reduceBEq, reduceCtorEq, reduceIte, c2, c4, c6, c8, hx11, lt_t hx11, lt_p hx11, nat_in (lt_n hx11) hlhx11, c16, c17, c18, hx22, lt_t hx22, lt_p hx22, nat_in (lt_n hx22) hlhx22, c28, c31, g25_1, g25_3, g25_4, g25_5, g25_6, g25_7, g25_8, g25_58, g25_59, g25_60, g25_61, g25_62, g25_63, g25_64, og25_0, og25_1, og25_2, og25_3, og25_4]
                        refine ite_K h (fun c32 h => ?_) (fun c32 h => ?_)
                        · try simp only [go_sem, Int.reduceLT, Int.reduceLE, Int.reduceBEq, Int.reduceBNe, Nat.reduceBNe, Nat.reduceAdd, Nat.reduceMul, Nat.reduceEqDiff, Nat.reduceLeDiff, Nat.reduceLT, Nat.reduceBEq, reduceCtorEq, reduceIte, c2, c4, c6, c8, hx11, lt_t hx11, lt_p hx11, nat_in (lt_n hx11) hlhx11, c16, c17, c18, hx22, lt_t hx22, lt_p hx22, nat_in (lt_n hx22) hlhx22, c28, c31, c32, g25_1, g25_3, g25_4, g25_5, g25_6, g25_7, g25_8, g25_58, g25_59, g25_60, g25_61, g25_62, g25_63, g25_64, og25_0, og25_1, og25_2, og25_3, og25_4]
                          refine ⟨_, [], [0, 1, 2, 3, 4], (Option.some.inj h).symm, by decide, ?_⟩
                          try simp only [go_sem, Int.reduceLT, Int.reduceLE, Int.reduceBEq, Int.reduceBNe, Nat.reduceBNe, Nat.reduceAdd, Nat.reduceMul, Nat.reduceEqDiff, Nat.reduceLeDiff, Nat.reduceLT, Nat.reduceBEq, reduceCtorEq, reduceIte, c2, c4, c6, c8, hx11, lt_t hx11, lt_p hx11, nat_in (lt_n hx11) hlhx11, c16, c17, c18, hx22, lt_t hx22, lt_p hx22, nat_in (lt_n hx22) hlhx22, c28, c31, c32, g25_1, g25_3, g25_4, g25_5, g25_6, g25_7, g25_8, g25_58, g25_59, g25_60, g25_61, g25_62, g25_63, g25_64, og25_0, og25_1, og25_2, og25_3, og25_4, IV, sts_cons, sts_nil, obs_cons, obs_nil]
                        · try simp only [go_sem, Int.reduceLT, Int.reduceLE, Int.reduceBEq, Int.reduceBNe, Nat.reduceBNe, Nat.reduceAdd, Nat.reduceMul, Nat.reduceEqDiff, Nat.reduceLeDiff, Nat.reduceLT, Nat.reduceBEq, reduceCtorEq, reduceIte, c2, c4, c6, c8, hx11, lt_t hx11, lt_p hx11, nat_in (lt_n hx11) hlhx11, c16, c17, c18, hx22, lt_t hx22, lt_p hx22, nat_in (lt_n hx22) hlhx22, c28, c31, c32, g25_1, g25_3, g25_4, g25_5, g25_6, g25_7, g25_8, g25_58, g25_59, g25_60, g25_61, g25_62, g25_63, g25_64, og25_0, og25_1, og25_2, og25_3, og25_4]
                          obtain ⟨v114, e33, h⟩ := bind_K h
                          refine call_K (by first | exact s_l5Elsewhere_ok e33 | simpa only [go_sem, Int.reduceLT, Int.reduceLE, Int.reduceBEq, Int.reduceBNe, Nat.reduceBNe, Nat.reduceAdd, Nat.reduceMul, Nat.reduceEqDiff, Nat.reduceLeDiff, Nat.reduceLT, Nat.reduceBEq, reduceCtorEq, reduceIte, c2, c4, c6, c8, hx11, lt_t hx11, lt_p hx11, nat_in (lt_n hx11) hlhx11, c16, c17, c18, hx22, lt_t hx22, lt_p hx22, nat_in (lt_n hx22) hlhx22, c28, c31, c32, g25_1, g25_3, g25_4, g25_5, g25_6, g25_7, g25_8, g25_58, g25_59, g25_60, g25_61, g25_62, g25_63, g25_64, og25_0, og25_1, og25_2, og25_3, og25_4] using s_l5Elsewhere_ok e33) ?_
                          try simp only [go_sem, Int.reduceLT, Int.reduceLE, Int.reduceBEq, Int.reduceBNe, Nat.reduceBNe, Nat.reduceAdd, Nat.reduceMul, Nat.reduceEqDiff, Nat.reduceLeDiff, Nat.reduceLT, Nat.reduceBEq, reduceCtorEq, reduceIte, c2, c4, c6, c8, hx11, lt_t hx11, lt_p hx11, nat_in (lt_n hx11) hlhx11, c16, c17, c18, hx22, lt_t hx22, lt_p hx22, nat_in (lt_n hx22) hlhx22, c28, c31, c32, g25_1, g25_3, g25_4, g25_5, g25_6, g25_7, g25_8, g25_58, g25_59, g25_60, g25_61, g25_62, g25_63, g25_64, og25_0, og25_1, og25_2, og25_3, og25_4]
                          refine ite_K h (fun c34 h => ?_) (fun c34 h => ?_)
                          · replace h := inr_K h hy21
                            replace h := inr_K h hy10
                            obtain rfl := Option.some.inj h
                            try simp only [go_sem, Int.reduceLT, Int.reduceLE, Int.reduceBEq, Int.reduceBNe, Nat.reduceBNe, Nat.reduceAdd, Nat.reduceMul, Nat.reduceEqDiff, Nat.reduceLeDiff, Nat.reduceLT, Nat.reduceBEq, reduceCtorEq, reduceIte, c2, c4, c6, c8, hx11, lt_t hx11, lt_p hx11, nat_in (lt_n hx11) hlhx11, c16, c17, c18, hx22, lt_t hx22, lt_p hx22, nat_in (lt_n hx22) hlhx22, c28, c31, c32, c34, g25_1, g25_3, g25_4, g25_5, g25_6, g25_7, g25_8, g25_58, g25_59, g25_60, g25_61, g25_62, g25_63, g25_64, og25_0, og25_1, og25_2, og25_3, og25_4]
                          · try simp only [go_sem, Int.reduceLT, Int.reduceLE, Int.reduceBEq, Int.reduceBNe, Nat.reduceBNe, Nat.reduceAdd, Nat.reduceMul, Nat.reduceEqDiff, Nat.reduceLeDiff, Nat.reduceLT, Nat.reduceBEq, reduceCtorEq, reduceIte, c2, c4, c6, c8, hx11, lt_t hx11, lt_p hx11, nat_in (lt_n hx11) hlhx11, c16, c17, c18, hx22, lt_t hx22, lt_p hx22, nat_in (lt_n hx22) hlhx22, c28, c31, c32, c34, g25_1, g25_3, g25_4, g25_5, g25_6, g25_7, g25_8, g25_58, g25_59, g25_60, g25_61, g25_62, g25_63, g25_64, og25_0, og25_1, og25_2, og25_3, og25_4]
                            refine ⟨_, [], [0, 1, 2, 3, 4], (Option.some.inj h).symm, by decide, ?_⟩
                            try simp only [go_sem, Int.reduceLT, Int.reduceLE, Int.reduceBEq, Int.reduceBNe, Nat.reduceBNe, Nat.reduceAdd, Nat.reduceMul, Nat.reduceEqDiff, Nat.reduceLeDiff, Nat.reduceLT, Nat.reduceBEq, reduceCtorEq, reduceIte, c2, c4, c6, c8, hx11, lt_t hx11, lt_p hx11, nat_in (lt_n hx11) hlhx11, c16, c17, c18, hx22, lt_t hx22, lt_p hx22, nat_in (lt_n hx22) hlhx22, c28, c31, c32, c34, g25_1, g25_3, g25_4, g25_5, g25_6, g25_7, g25_8, g25_58, g25_59, g25_60, g25_61, g25_62, g25_63, g25_64, og25_0, og25_1, og25_2, og25_3, og25_4, IV, sts_cons, sts_nil, obs_cons, obs_nil]
                      · try simp only [go_sem, Int.reduceLT, Int.reduceLE, Int.reduceBEq, Int.reduceBNe, Nat.reduceBNe, Nat.reduceAdd, Nat.reduceMul, Nat.reduceEqDiff, Nat.reduceLeDiff, Nat.reduceLT, Nat.reduceBEq, reduceCtorEq, reduceIte, c2, c4, c6, c8, hx11, lt_t hx11, lt_p hx11, nat_in (lt_n hx11) hlhx11, c16, c17, c18, hx22, lt_t hx22, lt_p hx22, nat_in (lt_n hx22) hlhx22, c28, c31, g25_1, g25_3, g25_4, g25_5, g25_6, g25_7, g25_8, g25_58, g25_59, g25_60, g25_61, g25_62, g25_63, g25_64, og25_0, og25_1, og25_2, og25_3, og25_4]
                        refine ⟨_, [], [0, 1, 2, 3, 4], (Option.some.inj h).symm, by decide, ?_⟩
                        try simp only [go_sem, Int.reduceLT, Int.reduceLE, Int.reduceBEq, Int.reduceBNe, Nat.reduceBNe, Nat.reduceAdd, Nat.reduceMul, Nat.reduceEqDiff, Nat.reduceLeDiff, Nat.reduceLT, Nat.reduceBEq, reduceCtorEq, reduceIte, c2, c4, c6, c8, hx11, lt_t hx11, lt_p hx11, nat_in (lt_n hx11) hlhx11, c16, c17, c18, hx22, lt_t hx22, lt_p hx22, nat_in (lt_n hx22) hlhx22, c28, c31, g25_1, g25_3, g25_4, g25_5, g25_6, g25_7, g25_8, g25_58, g25_59, g25_60, g25_61, g25_62, g25_63, g25_64, og25_0, og25_1, og25_2, og25_3, og25_4, IV, sts_cons, sts_nil, obs_cons, obs_nil]
                  · rintro ⟨⟩ ⟨sl, ob, n⟩ hI35 hW36 h
                    simp only [IV, sts_cons, sts_nil, obs_cons, obs_nil, and_true, true_and, Nat.reduceAdd, str_len] at hI35
                    obtain ⟨⟨g37_1, g37_3, g37_4, g37_5, g37_6, g37_7, g37_8, g37_58, g37_59, g37_60, g37_61, g37_62, g37_63, g37_64⟩, og37_0, og37_1, og37_2, og37_3, og37_4, hn⟩ := hI35
                    subst hn
                    try simp only [go_sem, Int.reduceLT, Int.reduceLE, Int.reduceBEq, Int.reduceBNe, Nat.reduceBNe, Nat.reduceAdd, Nat.reduceMul, Nat.reduceEqDiff, Nat.reduceLeDiff, Nat.reduceLT, Nat.reduceBEq, reduceCtorEq, reduceIte, c2, c4, c6, c8, hx11, lt_t hx11, lt_p hx11, nat_in (lt_n hx11) hlhx11, c16, c17, c18, lt_f (v100.length), g37_1, g37_3, g37_4, g37_5, g37_6, g37_7, g37_8, g37_58, g37_59, g37_60, g37_61, g37_62, g37_63, g37_64, og37_0, og37_1, og37_2, og37_3, og37_4]
                    refine ⟨_, [], [0, 1], (Option.some.inj h).symm, by decide, ?_⟩
                    try simp only [go_sem, Int.reduceLT, Int.reduceLE, Int.reduceBEq, Int.reduceBNe, Nat.reduceBNe, Nat.reduceAdd, Nat.reduceMul, Nat.reduceEqDiff, Nat.reduceLeDiff, Nat.reduceLT, Nat.reduceBEq, reduceCtorEq, reduceIte, c2, c4, c6, c8, hx11, lt_t hx11, lt_p hx11, nat_in (lt_n hx11) hlhx11, c16, c17, c18, lt_f (v100.length), g37_1, g37_3, g37_4, g37_5, g37_6, g37_7, g37_8, g37_58, g37_59, g37_60, g37_61, g37_62, g37_63, g37_64, og37_0, og37_1, og37_2, og37_3, og37_4, IV, sts_cons, sts_nil, obs_cons, obs_nil]
              · try simp only [go_sem, Int.reduceLT, Int.reduceLE, Int.reduceBEq, Int.reduceBNe, Nat.reduceBNe, Nat.reduceAdd, Nat.reduceMul, Nat.reduceEqDiff, Nat.reduceLeDiff, Nat.reduceLT, Nat.reduceBEq, reduceCtorEq, reduceIte, c2, c4, c6, c8, hx11, lt_t hx11, lt_p hx11, nat_in (lt_n hx11) hlhx11, c16, c17, g14_1, g14_3, g14_4, og14_0, og14_1]
                obtain ⟨v115, e38, h⟩ := bind_K h
                refine call_K (by first | exact s_BoundVars_ok e38 | simpa only [go_sem, Int.reduceLT, Int.reduceLE, Int.reduceBEq, Int.reduceBNe, Nat.reduceBNe, Nat.reduceAdd, Nat.reduceMul, Nat.reduceEqDiff, Nat.reduceLeDiff, Nat.reduceLT, Nat.reduceBEq, reduceCtorEq, reduceIte, c2, c4, c6, c8, hx11, lt_t hx11, lt_p hx11, nat_in (lt_n hx11) hlhx11, c16, c17, g14_1, g14_3, g14_4, og14_0, og14_1] using s_BoundVars_ok e38) ?_
                try simp only [go_sem, Int.reduceLT, Int.reduceLE, Int.reduceBEq, Int.reduceBNe, Nat.reduceBNe, Nat.reduceAdd, Nat.reduceMul, Nat.reduceEqDiff, Nat.reduceLeDiff, Nat.reduceLT, Nat.reduceBEq, reduceCtorEq, reduceIte, c2, c4, c6, c8, hx11, lt_t hx11, lt_p hx11, nat_in (lt_n hx11) hlhx11, c16, c17, g14_1, g14_3, g14_4, og14_0, og14_1]
                obtain ⟨v116, e39, h⟩ := bind_K h
                refine call_K (by first | exact s_CondVars_ok e39 | simpa only [go_sem, Int.reduceLT, Int.reduceLE, Int.reduceBEq, Int.reduceBNe, Nat.reduceBNe, Nat.reduceAdd, Nat.reduceMul, Nat.reduceEqDiff, Nat.reduceLeDiff, Nat.reduceLT, Nat.reduceBEq, reduceCtorEq, reduceIte, c2, c4, c6, c8, hx11, lt_t hx11, lt_p hx11, nat_in (lt_n hx11) hlhx11, c16, c17, g14_1, g14_3, g14_4, og14_0, og14_1] using s_CondVars_ok e39) ?_
                try simp only [go_sem, Int.reduceLT, Int.reduceLE, Int.reduceBEq, Int.reduceBNe, Nat.reduceBNe, Nat.reduceAdd, Nat.reduceMul, Nat.reduceEqDiff, Nat.reduceLeDiff, Nat.reduceLT, Nat.reduceBEq, reduceCtorEq, reduceIte, c2, c4, c6, c8, hx11, lt_t hx11, lt_p hx11, nat_in (lt_n hx11) hlhx11, c16, c17, g14_1, g14_3, g14_4, og14_0, og14_1]
                refine swp_for h (fun i _ st => IV [(1, .bp 0 0), (3, .p false [.row 1]), (4, .p false [.c (.int .i64 ((i96 : Nat) : Int))]), (5, .bp 2 0), (6, .p false [.row 3]), (7, .p false [.row 4]), (8, .p false [.c (.int .i64 ((i : Nat) : Int))]), (58, .p false [.c (.int .i64 ((i96 : Nat) : Int))]), (59, .p false [.c (.bool (((i96 : Nat) : Int) == 0))]), (60, .p false [.c (.bool (((i96 : Nat) : Int) == 0))]), (64, .p false [.c (.bool false)])] [.box 75 [.c (.str append_0.name), .c (.int .i64 append_0.priority), .c (.sl 120 5 (List.map eCond append_0.cond)), .c (.sl 128 3 (List.map eAction append_0.thn))], .row 9 1 (List.map eStr v5) 2, .box 120 [.c (.int .i64 x97.kind), .c (.str x97.pattern.rel), .c (.sl 9 1 (List.map eStr x97.pattern.args)), .c (.str x97.left), .c (.str x97.right)], .row 9 1 (List.map eStr v115) 2, .row 9 1 (List.map eStr v116) 2] st) [] [0, 1, 162, 418, 466] (by decide) ?_ ?_ ?_
                · simp only [go_sem, Int.reduceLT, Int.reduceLE, Int.reduceBEq, Int.reduceBNe, Nat.reduceBNe, Nat.reduceAdd, Nat.reduceMul, Nat.reduceEqDiff, Nat.reduceLeDiff, Nat.reduceLT, Nat.reduceBEq, reduceCtorEq, reduceIte, IV, sts_cons, sts_nil, obs_cons, obs_nil, c2, c4, c6, c8, hx11, lt_t hx11, lt_p hx11, nat_in (lt_n hx11) hlhx11, c16, c17, g14_1, g14_3, g14_4, og14_0, og14_1]
                · rintro i126 x127 ⟨⟩ ⟨sl, ob, n⟩ y40 hx41 hI42 hW43 h hy40
                  simp only [IV, sts_cons, sts_nil, obs_cons, obs_nil, and_true, true_and, Nat.reduceAdd, str_len] at hI42
                  obtain ⟨⟨g44_1, g44_3, g44_4, g44_5, g44_6, g44_7, g44_8, g44_58, g44_59, g44_60, g44_64⟩, og44_0, og44_1, og44_2, og44_3, og44_4, hn⟩ := hI42
                  subst hn
                  have hlhx41 := WF.rowL hW43 og44_4
                  try simp only [go_sem, Int.reduceLT, Int.reduceLE, Int.reduceBEq, Int.reduceBNe, Nat.reduceBNe, Nat.reduceAdd, Nat.reduceMul, Nat.reduceEqDiff, Nat.reduceLeDiff, Nat.reduceLT, Nat.reduceBEq, reduceCtorEq, reduceIte, c2, c4, c6, c8, hx11, lt_t hx11, lt_p hx11, nat_in (lt_n hx11) hlhx11, c16, c17, hx41, lt_t hx41, lt_p hx41, nat_in (lt_n hx41) hlhx41, g44_1, g44_3, g44_4, g44_5, g44_6, g44_7, g44_8, g44_58, g44_59, g44_60, g44_64, og44_0, og44_1, og44_2, og44_3, og44_4]
                  obtain ⟨v128, e45, h⟩ := bind_K h
                  refine call_K (by first | exact s_l1HasText_ok e45 | simpa only [go_sem, Int.reduceLT, Int.reduceLE, Int.reduceBEq, Int.reduceBNe, Nat.reduceBNe, Nat.reduceAdd, Nat.reduceMul, Nat.reduceEqDiff, Nat.reduceLeDiff, Nat.reduceLT, Nat.reduceBEq, reduceCtorEq, reduceIte, c2, c4, c6, c8, hx11, lt_t hx11, lt_p hx11, nat_in (lt_n hx11) hlhx11, c16, c17, hx41, lt_t hx41, lt_p hx41, nat_in (lt_n hx41) hlhx41, g44_1, g44_3, g44_4, g44_5, g44_6, g44_7, g44_8, g44_58, g44_59, g44_60, g44_64, og44_0, og44_1, og44_2, og44_3, og44_4] using s_l1HasText_ok e45) ?_
                  try simp only [go_sem, Int.reduceLT, Int.reduceLE, Int.reduceBEq, Int.reduceBNe, Nat.reduceBNe, Nat.reduceAdd, Nat.reduceMul, Nat.reduceEqDiff, Nat.reduceLeDiff, Nat.reduceLT, Nat.reduceBEq, reduceCtorEq, reduceIte, c2, c4, c6, c8, hx11, lt_t hx11, lt_p hx11, nat_in (lt_n hx11) hlhx11, c16, c17, hx41, lt_t hx41, lt_p hx41, nat_in (lt_n hx41) hlhx41, g44_1, g44_3, g44_4, g44_5, g44_6, g44_7, g44_8, g44_58, g44_59, g44_60, g44_64, og44_0, og44_1, og44_2, og44_3, og44_4]
                  obtain ⟨v129, e46, h⟩ := bind_K h
                  refine call_K (by first | exact s_IsTest_ok e46 | simpa only [go_sem, Int.reduceLT, Int.reduceLE, Int.reduceBEq, Int.reduceBNe, Nat.reduceBNe, Nat.reduceAdd, Nat.reduceMul, Nat.reduceEqDiff, Nat.reduceLeDiff, Nat.reduceLT, Nat.reduceBEq, reduceCtorEq, reduceIte, c2, c4, c6, c8, hx11, lt_t hx11, lt_p hx11, nat_in (lt_n hx11) hlhx11, c16, c17, hx41, lt_t hx41, lt_p hx41, nat_in (lt_n hx41) hlhx41, g44_1, g44_3, g44_4, g44_5, g44_6, g44_7, g44_8, g44_58, g44_59, g44_60, g44_64, og44_0, og44_1, og44_2, og44_3, og44_4] using s_IsTest_ok e46) ?_
                  try simp only [go_sem, Int.reduceLT, Int.reduceLE, Int.reduceBEq, Int.reduceBNe, Nat.reduceBNe, Nat.reduceAdd, Nat.reduceMul, Nat.reduceEqDiff, Nat.reduceLeDiff, Nat.reduceLT, Nat.reduceBEq, reduceCtorEq, reduceIte, c2, c4, c6, c8, hx11, lt_t hx11, lt_p hx11, nat_in (lt_n hx11) hlhx11, c16, c17, hx41, lt_t hx41, lt_p hx41, nat_in (lt_n hx41) hlhx41, g44_1, g44_3, g44_4, g44_5, g44_6, g44_7, g44_8, g44_58, g44_59, g44_60, g44_64, og44_0, og44_1, og44_2, og44_3, og44_4]
                  refine ite_K h (fun c47 h => ?_) (fun c47 h => ?_)
                  · try simp only [go_sem, Int.reduceLT, Int.reduceLE, Int.reduceBEq, Int.reduceBNe, Nat.reduceBNe, Nat.reduceAdd, Nat.reduceMul, Nat.reduceEqDiff, Nat.reduceLeDiff, Nat.reduceLT, Nat.reduceBEq, reduceCtorEq, reduceIte, c2, c4, c6, c8, hx11, lt_t hx11, lt_p hx11, nat_in (lt_n hx11) hlhx11, c16, c17, hx41, lt_t hx41, lt_p hx41, nat_in (lt_n hx41) hlhx41, c47, g44_1, g44_3, g44_4, g44_5, g44_6, g44_7, g44_8, g44_58, g44_59, g44_60, g44_64, og44_0, og44_1, og44_2, og44_3, og44_4]
                    refine ite_K h (fun c48 h => ?_) (fun c48 h => ?_)
                    · try simp only [go_sem, Int.reduceLT, Int.reduceLE, Int.reduceBEq, Int.reduceBNe, Nat.reduceBNe, Nat.reduceAdd, Nat.reduceMul, Nat.reduceEqDiff, Nat.reduceLeDiff, Nat.reduceLT, Nat.reduceBEq, reduceCtorEq, reduceIte, c2, c4, c6, c8, hx11, lt_t hx11, lt_p hx11, nat_in (lt_n hx11) hlhx11, c16, c17, hx41, lt_t hx41, lt_p hx41, nat_in (lt_n hx41) hlhx41, c47, c48, g44_1, g44_3, g44_4, g44_5, g44_6, g44_7, g44_8, g44_58, g44_59, g44_60, g44_64, og44_0, og44_1, og44_2, og44_3, og44_4]
                      refine ite_K h (fun c49 h => ?_) (fun c49 h => ?_)
                      · try simp only [go_sem, Int.reduceLT, Int.reduceLE, Int.reduceBEq, Int.reduceBNe, Nat.reduceBNe, Nat.reduceAdd, Nat.reduceMul, Nat.reduceEqDiff, Nat.reduceLeDiff, Nat.reduceLT, Nat.reduceBEq, reduceCtorEq, reduceIte, c2, c4, c6, c8, hx11, lt_t hx11, lt_p hx11, nat_in (lt_n hx11) hlhx11, c16, c17, hx41, lt_t hx41, lt_p hx41, nat_in (lt_n hx41) hlhx41, c47, c48, c49, g44_1, g44_3, g44_4, g44_5, g44_6, g44_7, g44_8, g44_58, g44_59, g44_60, g44_64, og44_0, og44_1, og44_2, og44_3, og44_4]
                        refine ⟨_, [], [0, 1, 2, 3, 4], (Option.some.inj h).symm, by decide, ?_⟩
                        try simp only [go_sem, Int.reduceLT, Int.reduceLE, Int.reduceBEq, Int.reduceBNe, Nat.reduceBNe, Nat.reduceAdd, Nat.reduceMul, Nat.reduceEqDiff, Nat.reduceLeDiff, Nat.reduceLT, Nat.reduceBEq, reduceCtorEq, reduceIte, c2, c4, c6, c8, hx11, lt_t hx11, lt_p hx11, nat_in (lt_n hx11) hlhx11, c16, c17, hx41, lt_t hx41, lt_p hx41, nat_in (lt_n hx41) hlhx41, c47, c48, c49, g44_1, g44_3, g44_4, g44_5, g44_6, g44_7, g44_8, g44_58, g44_59, g44_60, g44_64, og44_0, og44_1, og44_2, og44_3, og44_4, IV, sts_cons, sts_nil, obs_cons, obs_nil]
                      · try simp only [go_sem, Int.reduceLT, Int.reduceLE, Int.reduceBEq, Int.reduceBNe, Nat.reduceBNe, Nat.reduceAdd, Nat.reduceMul, Nat.reduceEqDiff, Nat.reduceLeDiff, Nat.reduceLT, Nat.reduceBEq, reduceCtorEq, reduceIte, c2, c4, c6, c8, hx11, lt_t hx11, lt_p hx11, nat_in (lt_n hx11) hlhx11, c16, c17, hx41, lt_t hx41, lt_p hx41, nat_in (lt_n hx41) hlhx41, c47, c48, c49, g44_1, g44_3, g44_4, g44_5, g44_6, g44_7, g44_8, g44_58, g44_59, g44_60, g44_64, og44_0, og44_1, og44_2, og44_3, og44_4]
                        refine ⟨_, [], [0, 1, 2, 3, 4], (Option.some.inj h).symm, by decide, ?_⟩
                        try simp only [go_sem, Int.reduceLT, Int.reduceLE, Int.reduceBEq, Int.reduceBNe, Nat.reduceBNe, Nat.reduceAdd, Nat.reduceMul, Nat.reduceEqDiff, Nat.reduceLeDiff, Nat.reduceLT, Nat.reduceBEq, reduceCtorEq, reduceIte, c2, c4, c6, c8, hx11, lt_t hx11, lt_p hx11, nat_in (lt_n hx11) hlhx11, c16, c17, hx41, lt_t hx41, lt_p hx41, nat_in (lt_n hx41) hlhx41, c47, c48, c49, g44_1, g44_3, g44_4, g44_5, g44_6, g44_7, g44_8, g44_58, g44_59, g44_60, g44_64, og44_0, og44_1, og44_2, og44_3, og44_4, IV, sts_cons, sts_nil, obs_cons, obs_nil]
                    · replace h := inr_K h hy40
                      replace h := inr_K h hy10
                      obtain rfl := Option.some.inj h
                      try simp only [go_sem, Int.reduceLT, Int.reduceLE, Int.reduceBEq, Int.reduceBNe, Nat.reduceBNe, Nat.reduceAdd, Nat.reduceMul, Nat.reduceEqDiff, Nat.reduceLeDiff, Nat.reduceLT, Nat.reduceBEq, reduceCtorEq, reduceIte, c2, c4, c6, c8, hx11, lt_t hx11, lt_p hx11, nat_in (lt_n hx11) hlhx11, c16, c17, hx41, lt_t hx41, lt_p hx41, nat_in (lt_n hx41) hlhx41, c47, c48, g44_1, g44_3, g44_4, g44_5, g44_6, g44_7, g44_8, g44_58, g44_59, g44_60, g44_64, og44_0, og44_1, og44_2, og44_3, og44_4]
                  · try simp only [go_sem, Int.reduceLT, Int.reduceLE, Int.reduceBEq, Int.reduceBNe, Nat.reduceBNe, Nat.reduceAdd, Nat.reduceMul, Nat.reduceEqDiff, Nat.reduceLeDiff, Nat.reduceLT, Nat.reduceBEq, reduceCtorEq, reduceIte, c2, c4, c6, c8, hx11, lt_t hx11, lt_p hx11, nat_in (lt_n hx11) hlhx11, c16, c17, hx41, lt_t hx41, lt_p hx41, nat_in (lt_n hx41) hlhx41, c47, g44_1, g44_3, g44_4, g44_5, g44_6, g44_7, g44_8, g44_58, g44_59, g44_60, g44_64, og44_0, og44_1, og44_2, og44_3, og44_4]
                    refine ite_K h (fun c50 h => ?_) (fun c50 h => ?_)
                    · try simp only [go_sem, Int.reduceLT, Int.reduceLE, Int.reduceBEq, Int.reduceBNe, Nat.reduceBNe, Nat.reduceAdd, Nat.reduceMul, Nat.reduceEqDiff, Nat.reduceLeDiff, Nat.reduceLT, Nat.reduceBEq, reduceCtorEq, reduceIte, c2, c4, c6, c8, hx11, lt_t hx11, lt_p hx11, nat_in (lt_n hx11) hlhx11, c16, c17, hx41, lt_t hx41, lt_p hx41, nat_in (lt_n hx41) hlhx41, c47, c50, g44_1, g44_3, g44_4, g44_5, g44_6, g44_7, g44_8, g44_58, g44_59, g44_60, g44_64, og44_0, og44_1, og44_2, og44_3, og44_4]
                      refine ite_K h (fun c51 h => ?_) (fun c51 h => ?_)
                      · try simp only [go_sem, Int.reduceLT, Int.reduceLE, Int.reduceBEq, Int.reduceBNe, Nat.reduceBNe, Nat.reduceAdd, Nat.reduceMul, Nat.reduceEqDiff, Nat.reduceLeDiff, Nat.reduceLT, Nat.reduceBEq, reduceCtorEq, reduceIte, c2, c4, c6, c8, hx11, lt_t hx11, lt_p hx11, nat_in (lt_n hx11) hlhx11, c16, c17, hx41, lt_t hx41, lt_p hx41, nat_in (lt_n hx41) hlhx41, c47, c50, c51, g44_1, g44_3, g44_4, g44_5, g44_6, g44_7, g44_8, g44_58, g44_59, g44_60, g44_64, og44_0, og44_1, og44_2, og44_3, og44_4]
                        refine ⟨_, [], [0, 1, 2, 3, 4], (Option.some.inj h).symm, by decide, ?_⟩
                        try simp only [go_sem, Int.reduceLT, Int.reduceLE, Int.reduceBEq, Int.reduceBNe, Nat.reduceBNe, Nat.reduceAdd, Nat.reduceMul, Nat.reduceEqDiff, Nat.reduceLeDiff, Nat.reduceLT, Nat.reduceBEq, reduceCtorEq, reduceIte, c2, c4, c6, c8, hx11, lt_t hx11, lt_p hx11, nat_in (lt_n hx11) hlhx11, c16, c17, hx41, lt_t hx41, lt_p hx41, nat_in (lt_n hx41) hlhx41, c47, c50, c51, g44_1, g44_3, g44_4, g44_5, g44_6, g44_7, g44_8, g44_58, g44_59, g44_60, g44_64, og44_0, og44_1, og44_2, og44_3, og44_4, IV, sts_cons, sts_nil, obs_cons, obs_nil]
                      · try simp only [go_sem, Int.reduceLT, Int.reduceLE, Int.reduceBEq, Int.reduceBNe, Nat.reduceBNe, Nat.reduceAdd, Nat.reduceMul, Nat.reduceEqDiff, Nat.reduceLeDiff, Nat.reduceLT, Nat.reduceBEq, reduceCtorEq, reduceIte, c2, c4, c6, c8, hx11, lt_t hx11, lt_p hx11, nat_in (lt_n hx11) hlhx11, c16, c17, hx41, lt_t hx41, lt_p hx41, nat_in (lt_n hx41) hlhx41, c47, c50, c51, g44_1, g44_3, g44_4, g44_5, g44_6, g44_7, g44_8, g44_58, g44_59, g44_60, g44_64, og44_0, og44_1, og44_2, og44_3, og44_4]
                        obtain ⟨v130, e52, h⟩ := bind_K h
                        refine call_K (by first | exact s_l5Elsewhere_ok e52 | simpa only [go_sem, Int.reduceLT, Int.reduceLE, Int.reduceBEq, Int.reduceBNe, Nat.reduceBNe, Nat.reduceAdd, Nat.reduceMul, Nat.reduceEqDiff, Nat.reduceLeDiff, Nat.reduceLT, Nat.reduceBEq, reduceCtorEq, reduceIte, c2, c4, c6, c8, hx11, lt_t hx11, lt_p hx11, nat_in (lt_n hx11) hlhx11, c16, c17, hx41, lt_t hx41, lt_p hx41, nat_in (lt_n hx41) hlhx41, c47, c50, c51, g44_1, g44_3, g44_4, g44_5, g44_6, g44_7, g44_8, g44_58, g44_59, g44_60, g44_64, og44_0, og44_1, og44_2, og44_3, og44_4] using s_l5Elsewhere_ok e52) ?_
                        try simp only [go_sem, Int.reduceLT, Int.reduceLE, Int.reduceBEq, Int.reduceBNe, Nat.reduceBNe, Nat.reduceAdd, Nat.reduceMul, Nat.reduceEqDiff, Nat.reduceLeDiff, Nat.reduceLT, Nat.reduceBEq, reduceCtorEq, reduceIte, c2, c4, c6, c8, hx11, lt_t hx11, lt_p hx11, nat_in (lt_n hx11) hlhx11, c16, c17, hx41, lt_t hx41, lt_p hx41, nat_in (lt_n hx41) hlhx41, c47, c50, c51, g44_1, g44_3, g44_4, g44_5, g44_6, g44_7, g44_8, g44_58, g44_59, g44_60, g44_64, og44_0, og44_1, og44_2, og44_3, og44_4]
                        refine ite_K h (fun c53 h => ?_) (fun c53 h => ?_)
                        · replace h := inr_K h hy40
                          replace h := inr_K h hy10
                          obtain rfl := Option.some.inj h
                          try simp only [go_sem, Int.reduceLT, Int.reduceLE, Int.reduceBEq, Int.reduceBNe, Nat.reduceBNe, Nat.reduceAdd, Nat.reduceMul, Nat.reduceEqDiff, Nat.reduceLeDiff, Nat.reduceLT, Nat.reduceBEq, reduceCtorEq, reduceIte, c2, c4, c6, c8, hx11, lt_t hx11, lt_p hx11, nat_in (lt_n hx11) hlhx11, c16, c17, hx41, lt_t hx41, lt_p hx41, nat_in (lt_n hx41) hlhx41, c47, c50, c51, c53, g44_1, g44_3, g44_4, g44_5, g44_6, g44_7, g44_8, g44_58, g44_59, g44_60, g44_64, og44_0, og44_1, og44_2, og44_3, og44_4]
                        · try simp only [go_sem, Int.reduceLT, Int.reduceLE, Int.reduceBEq, Int.reduceBNe, Nat.reduceBNe, Nat.reduceAdd, Nat.reduceMul, Nat.reduceEqDiff, Nat.reduceLeDiff, Nat.reduceLT, Nat.reduceBEq, reduceCtorEq, reduceIte, c2, c4, c6, c8, hx11, lt_t hx11, lt_p hx11, nat_in (lt_n hx11) hlhx11, c16, c17, hx41, lt_t hx41, lt_p hx41, nat_in (lt_n hx41) hlhx41, c47, c50, c51, c53, g44_1, g44_3, g44_4, g44_5, g44_6, g44_7, g44_8, g44_58, g44_59, g44_60, g44_64, og44_0, og44_1, og44_2, og44_3, og44_4]
                          refine ⟨_, [], [0, 1, 2, 3, 4], (Option.some.inj h).symm, by decide, ?_⟩
                          try simp only [go_sem, Int.reduceLT, Int.reduceLE, Int.reduceBEq, Int.reduceBNe, Nat.reduceBNe, Nat.reduceAdd, Nat.reduceMul, Nat.reduceEqDiff, Nat.reduceLeDiff, Nat.reduceLT, Nat.reduceBEq, reduceCtorEq, reduceIte, c2, c4, c6, c8, hx11, lt_t hx11, lt_p hx11, nat_in (lt_n hx11) hlhx11, c16, c17, hx41, lt_t hx41, lt_p hx41, nat_in (lt_n hx41) hlhx41, c47, c50, c51, c53, g44_1, g44_3, g44_4, g44_5, g44_6, g44_7, g44_8, g44_58, g44_59, g44_60, g44_64, og44_0, og44_1, og44_2, og44_3, og44_4, IV, sts_cons, sts_nil, obs_cons, obs_nil]
                    · try simp only [go_sem, Int.reduceLT, Int.reduceLE, Int.reduceBEq, Int.reduceBNe, Nat.reduceBNe, Nat.reduceAdd, Nat.reduceMul, Nat.reduceEqDiff, Nat.reduceLeDiff, Nat.reduceLT, Nat.reduceBEq, reduceCtorEq, reduceIte, c2, c4, c6, c8, hx11, lt_t hx11, lt_p hx11, nat_in (lt_n hx11) hlhx11, c16, c17, hx41, lt_t hx41, lt_p hx41, nat_in (lt_n hx41) hlhx41, c47, c50, g44_1, g44_3, g44_4, g44_5, g44_6, g44_7, g44_8, g44_58, g44_59, g44_60, g44_64, og44_0, og44_1, og44_2, og44_3, og44_4]
                      refine ⟨_, [], [0, 1, 2, 3, 4], (Option.some.inj h).symm, by decide, ?_⟩
                      try simp only [go_sem, Int.reduceLT, Int.reduceLE, Int.reduceBEq, Int.reduceBNe, Nat.reduceBNe, Nat.reduceAdd, Nat.reduceMul, Nat.reduceEqDiff, Nat.reduceLeDiff, Nat.reduceLT, Nat.reduceBEq, reduceCtorEq, reduceIte, c2, c4, c6, c8, hx11, lt_t hx11, lt_p hx11, nat_in (lt_n hx11) hlhx11, c16, c17, hx41, lt_t hx41, lt_p hx41, nat_in (lt_n hx41) hlhx41, c47, c50, g44_1, g44_3, g44_4, g44_5, g44_6, g44_7, g44_8, g44_58, g44_59, g44_60, g44_64, og44_0, og44_1, og44_2, og44_3, og44_4, IV, sts_cons, sts_nil, obs_cons, obs_nil]
                · rintro ⟨⟩ ⟨sl, ob, n⟩ hI54 hW55 h
                  simp only [IV, sts_cons, sts_nil, obs_cons, obs_nil, and_true, true_and, Nat.reduceAdd, str_len] at hI54
                  obtain ⟨⟨g56_1, g56_3, g56_4, g56_5, g56_6, g56_7, g56_8, g56_58, g56_59, g56_60, g56_64⟩, og56_0, og56_1, og56_2, og56_3, og56_4, hn⟩ := hI54
                  subst hn
                  try simp only [go_sem, Int.reduceLT, Int.reduceLE, Int.reduceBEq, Int.reduceBNe, Nat.reduceBNe, Nat.reduceAdd, Nat.reduceMul, Nat.reduceEqDiff, Nat.reduceLeDiff, Nat.reduceLT, Nat.reduceBEq, reduceCtorEq, reduceIte, c2, c4, c6, c8, hx11, lt_t hx11, lt_p hx11, nat_in (lt_n hx11) hlhx11, c16, c17, lt_f (v116.length), g56_1, g56_3, g56_4, g56_5, g56_6, g56_7, g56_8, g56_58, g56_59, g56_60, g56_64, og56_0, og56_1, og56_2, og56_3, og56_4]
                  refine ⟨_, [], [0, 1], (Option.some.inj h).symm, by decide, ?_⟩
                  try simp only [go_sem, Int.reduceLT, Int.reduceLE, Int.reduceBEq, Int.reduceBNe, Nat.reduceBNe, Nat.reduceAdd, Nat.reduceMul, Nat.reduceEqDiff, Nat.reduceLeDiff, Nat.reduceLT, Nat.reduceBEq, reduceCtorEq, reduceIte, c2, c4, c6, c8, hx11, lt_t hx11, lt_p hx11, nat_in (lt_n hx11) hlhx11, c16, c17, lt_f (v116.length), g56_1, g56_3, g56_4, g56_5, g56_6, g56_7, g56_8, g56_58, g56_59, g56_60, g56_64, og56_0, og56_1, og56_2, og56_3, og56_4, IV, sts_cons, sts_nil, obs_cons, obs_nil]
            · replace h := inr_K h hy10
              obtain rfl := Option.some.inj h
              try simp only [go_sem, Int.reduceLT, Int.reduceLE, Int.reduceBEq, Int.reduceBNe, Nat.reduceBNe, Nat.reduceAdd, Nat.reduceMul, Nat.reduceEqDiff, Nat.reduceLeDiff, Nat.reduceLT, Nat.reduceBEq, reduceCtorEq, reduceIte, c2, c4, c6, c8, hx11, lt_t hx11, lt_p hx11, nat_in (lt_n hx11) hlhx11, c16, g14_1, g14_3, g14_4, og14_0, og14_1]
          · rintro ⟨⟩ ⟨sl, ob, n⟩ hI57 hW58 h
            simp only [IV, sts_cons, sts_nil, obs_cons, obs_nil, and_true, true_and, Nat.reduceAdd, str_len] at hI57
            obtain ⟨⟨g59_1, g59_3, g59_4⟩, og59_0, og59_1, hn⟩ := hI57
            subst hn
            try simp only [go_sem, Int.reduceLT, Int.reduceLE, Int.reduceBEq, Int.reduceBNe, Nat.reduceBNe, Nat.reduceAdd, Nat.reduceMul, Nat.reduceEqDiff, Nat.reduceLeDiff, Nat.reduceLT, Nat.reduceBEq, reduceCtorEq, reduceIte, c2, c4, c6, c8, lt_f (append_0.cond.length), g59_1, g59_3, g59_4, og59_0, og59_1]
            refine swp_for h (fun i _ st => IV [(1, .bp 0 0), (3, .p false [.row 1]), (10, .p false [.c (.int .i64 ((i : Nat) : Int))])] [.box 75 [.c (.str append_0.name), .c (.int .i64 append_0.priority), .c (.sl 120 5 (List.map eCond append_0.cond)), .c (.sl 128 3 (List.map eAction append_0.thn))], .row 9 1 (List.map eStr v5) 2] st) [] [0, 1] (by decide) ?_ ?_ ?_
            · simp only [go_sem, Int.reduceLT, Int.reduceLE, Int.reduceBEq, Int.reduceBNe, Nat.reduceBNe, Nat.reduceAdd, Nat.reduceMul, Nat.reduceEqDiff, Nat.reduceLeDiff, Nat.reduceLT, Nat.reduceBEq, reduceCtorEq, reduceIte, IV, sts_cons, sts_nil, obs_cons, obs_nil, c2, c4, c6, c8, lt_f (append_0.cond.length), g59_1, g59_3, g59_4, og59_0, og59_1]
            · rintro i155 x156 ⟨⟩ ⟨sl, ob, n⟩ y60 hx61 hI62 hW63 h hy60
              simp only [IV, sts_cons, sts_nil, obs_cons, obs_nil, and_true, true_and, Nat.reduceAdd, str_len] at hI62
              obtain ⟨⟨g64_1, g64_3, g64_10⟩, og64_0, og64_1, hn⟩ := hI62
              subst hn
              have hlhx61 := WF.boxL hW63 og64_0 (j := 3) rfl
              try simp only [go_sem, Int.reduceLT, Int.reduceLE, Int.reduceBEq, Int.reduceBNe, Nat.reduceBNe, Nat.reduceAdd, Nat.reduceMul, Nat.reduceEqDiff, Nat.reduceLeDiff, Nat.reduceLT, Nat.reduceBEq, reduceCtorEq, reduceIte, c2, c4, c6, c8, lt_f (append_0.cond.length), hx61, lt_t hx61, lt_p hx61, nat_in (lt_n hx61) hlhx61, g64_1, g64_3, g64_10, og64_0, og64_1]
              obtain ⟨v157, e65, h⟩ := bind_K h
              refine call_K (by first | exact s_IsAction_ok e65 | simpa only [go_sem, Int.reduceLT, Int.reduceLE, Int.reduceBEq, Int.reduceBNe, Nat.reduceBNe, Nat.reduceAdd, Nat.reduceMul, Nat.reduceEqDiff, Nat.reduceLeDiff, Nat.reduceLT, Nat.reduceBEq, reduceCtorEq, reduceIte, c2, c4, c6, c8, lt_f (append_0.cond.length), hx61, lt_t hx61, lt_p hx61, nat_in (lt_n hx61) hlhx61, g64_1, g64_3, g64_10, og64_0, og64_1] using s_IsAction_ok e65) ?_
              try simp only [go_sem, Int.reduceLT, Int.reduceLE, Int.reduceBEq, Int.reduceBNe, Nat.reduceBNe, Nat.reduceAdd, Nat.reduceMul, Nat.reduceEqDiff, Nat.reduceLeDiff, Nat.reduceLT, Nat.reduceBEq, reduceCtorEq, reduceIte, c2, c4, c6, c8, lt_f (append_0.cond.length), hx61, lt_t hx61, lt_p hx61, nat_in (lt_n hx61) hlhx61, g64_1, g64_3, g64_10, og64_0, og64_1]
              refine ite_K h (fun c66 h => ?_) (fun c66 h => ?_)
              · try simp only [go_sem, Int.reduceLT, Int.reduceLE, Int.reduceBEq, Int.reduceBNe, Nat.reduceBNe, Nat.reduceAdd, Nat.reduceMul, Nat.reduceEqDiff, Nat.reduceLeDiff, Nat.reduceLT, Nat.reduceBEq, reduceCtorEq, reduceIte, c2, c4, c6, c8, lt_f (append_0.cond.length), hx61, lt_t hx61, lt_p hx61, nat_in (lt_n hx61) hlhx61, c66, g64_1, g64_3, g64_10, og64_0, og64_1]
                obtain ⟨v158, e67, h⟩ := bind_K h
                refine call_K (by first | exact s_VarsOf_ok e67 | simpa only [go_sem, Int.reduceLT, Int.reduceLE, Int.reduceBEq, Int.reduceBNe, Nat.reduceBNe, Nat.reduceAdd, Nat.reduceMul, Nat.reduceEqDiff, Nat.reduceLeDiff, Nat.reduceLT, Nat.reduceBEq, reduceCtorEq, reduceIte, c2, c4, c6, c8, lt_f (append_0.cond.length), hx61, lt_t hx61, lt_p hx61, nat_in (lt_n hx61) hlhx61, c66, g64_1, g64_3, g64_10, og64_0, og64_1] using s_VarsOf_ok e67) ?_
                try simp only [go_sem, Int.reduceLT, Int.reduceLE, Int.reduceBEq, Int.reduceBNe, Nat.reduceBNe, Nat.reduceAdd, Nat.reduceMul, Nat.reduceEqDiff, Nat.reduceLeDiff, Nat.reduceLT, Nat.reduceBEq, reduceCtorEq, reduceIte, c2, c4, c6, c8, lt_f (append_0.cond.length), hx61, lt_t hx61, lt_p hx61, nat_in (lt_n hx61) hlhx61, c66, g64_1, g64_3, g64_10, og64_0, og64_1]
                refine swp_for h (fun i _ st => IV [(1, .bp 0 0), (3, .p false [.row 1]), (10, .p false [.c (.int .i64 ((i155 : Nat) : Int))]), (11, .p false [.row 2]), (12, .p false [.c (.int .i64 ((i : Nat) : Int))])] [.box 75 [.c (.str append_0.name), .c (.int .i64 append_0.priority), .c (.sl 120 5 (List.map eCond append_0.cond)), .c (.sl 128 3 (List.map eAction append_0.thn))], .row 9 1 (List.map eStr v5) 2, .row 9 1 (List.map eStr v158) 2] st) [] [0, 1, 290] (by decide) ?_ ?_ ?_
                · simp only [go_sem, Int.reduceLT, Int.reduceLE, Int.reduceBEq, Int.reduceBNe, Nat.reduceBNe, Nat.reduceAdd, Nat.reduceMul, Nat.reduceEqDiff, Nat.reduceLeDiff, Nat.reduceLT, Nat.reduceBEq, reduceCtorEq, reduceIte, IV, sts_cons, sts_nil, obs_cons, obs_nil, c2, c4, c6, c8, lt_f (append_0.cond.length), hx61, lt_t hx61, lt_p hx61, nat_in (lt_n hx61) hlhx61, c66, g64_1, g64_3, g64_10, og64_0, og64_1]
                · rintro i164 x165 ⟨⟩ ⟨sl, ob, n⟩ y68 hx69 hI70 hW71 h hy68
                  simp only [IV, sts_cons, sts_nil, obs_cons, obs_nil, and_true, true_and, Nat.reduceAdd, str_len] at hI70
                  obtain ⟨⟨g72_1, g72_3, g72_10, g72_11, g72_12⟩, og72_0, og72_1, og72_2, hn⟩ := hI70
                  subst hn
                  have hlhx69 := WF.rowL hW71 og72_2
                  try simp only [go_sem, Int.reduceLT, Int.reduceLE, Int.reduceBEq, Int.reduceBNe, Nat.reduceBNe, Nat.reduceAdd, Nat.reduceMul, Nat.reduceEqDiff, Nat.reduceLeDiff, Nat.reduceLT, Nat.reduceBEq, reduceCtorEq, reduceIte, c2, c4, c6, c8, lt_f (append_0.cond.length), hx61, lt_t hx61, lt_p hx61, nat_in (lt_n hx61) hlhx61, c66, hx69, lt_t hx69, lt_p hx69, nat_in (lt_n hx69) hlhx69, g72_1, g72_3, g72_10, g72_11, g72_12, og72_0, og72_1, og72_2]
                  obtain ⟨v166, e73, h⟩ := bind_K h
                  refine call_K (by first | exact s_l1HasText_ok e73 | simpa only [go_sem, Int.reduceLT, Int.reduceLE, Int.reduceBEq, Int.reduceBNe, Nat.reduceBNe, Nat.reduceAdd, Nat.reduceMul, Nat.reduceEqDiff, Nat.reduceLeDiff, Nat.reduceLT, Nat.reduceBEq, reduceCtorEq, reduceIte, c2, c4, c6, c8, lt_f (append_0.cond.length), hx61, lt_t hx61, lt_p hx61, nat_in (lt_n hx61) hlhx61, c66, hx69, lt_t hx69, lt_p hx69, nat_in (lt_n hx69) hlhx69, g72_1, g72_3, g72_10, g72_11, g72_12, og72_0, og72_1, og72_2] using s_l1HasText_ok e73) ?_
                  try simp only [go_sem, Int.reduceLT, Int.reduceLE, Int.reduceBEq, Int.reduceBNe, Nat.reduceBNe, Nat.reduceAdd, Nat.reduceMul, Nat.reduceEqDiff, Nat.reduceLeDiff, Nat.reduceLT, Nat.reduceBEq, reduceCtorEq, reduceIte, c2, c4, c6, c8, lt_f (append_0.cond.length), hx61, lt_t hx61, lt_p hx61, nat_in (lt_n hx61) hlhx61, c66, hx69, lt_t hx69, lt_p hx69, nat_in (lt_n hx69) hlhx69, g72_1, g72_3, g72_10, g72_11, g72_12, og72_0, og72_1, og72_2]
                  refine ite_K h (fun c74 h => ?_) (fun c74 h => ?_)
                  · try simp only [go_sem, Int.reduceLT, Int.reduceLE, Int.reduceBEq, Int.reduceBNe, Nat.reduceBNe, Nat.reduceAdd, Nat.reduceMul, Nat.reduceEqDiff, Nat.reduceLeDiff, Nat.reduceLT, Nat.reduceBEq, reduceCtorEq, reduceIte, c2, c4, c6, c8, lt_f (append_0.cond.length), hx61, lt_t hx61, lt_p hx61, nat_in (lt_n hx61) hlhx61, c66, hx69, lt_t hx69, lt_p hx69, nat_in (lt_n hx69) hlhx69, c74, g72_1, g72_3, g72_10, g72_11, g72_12, og72_0, og72_1, og72_2]
                    refine ⟨_, [], [0, 1, 2], (Option.some.inj h).symm, by decide, ?_⟩
                    try simp only [go_sem, Int.reduceLT, Int.reduceLE, Int.reduceBEq, Int.reduceBNe, Nat.reduceBNe, Nat.reduceAdd, Nat.reduceMul, Nat.reduceEqDiff, Nat.reduceLeDiff, Nat.reduceLT, Nat.reduceBEq, reduceCtorEq, reduceIte, c2, c4, c6, c8, lt_f (append_0.cond.length), hx61, lt_t hx61, lt_p hx61, nat_in (lt_n hx61) hlhx61, c66, hx69, lt_t hx69, lt_p hx69, nat_in (lt_n hx69) hlhx69, c74, g72_1, g72_3, g72_10, g72_11, g72_12, og72_0, og72_1, og72_2, IV, sts_cons, sts_nil, obs_cons, obs_nil]
                  · replace h := inr_K h hy68
                    replace h := inr_K h hy60
                    obtain rfl := Option.some.inj h
                    try simp only [go_sem, Int.reduceLT, Int.reduceLE, Int.reduceBEq, Int.reduceBNe, Nat.reduceBNe, Nat.reduceAdd, Nat.reduceMul, Nat.reduceEqDiff, Nat.reduceLeDiff, Nat.reduceLT, Nat.reduceBEq, reduceCtorEq, reduceIte, c2, c4, c6, c8, lt_f (append_0.cond.length), hx61, lt_t hx61, lt_p hx61, nat_in (lt_n hx61) hlhx61, c66, hx69, lt_t hx69, lt_p hx69, nat_in (lt_n hx69) hlhx69, c74, g72_1, g72_3, g72_10, g72_11, g72_12, og72_0, og72_1, og72_2]
                · rintro ⟨⟩ ⟨sl, ob, n⟩ hI75 hW76 h
                  simp only [IV, sts_cons, sts_nil, obs_cons, obs_nil, and_true, true_and, Nat.reduceAdd, str_len] at hI75
                  obtain ⟨⟨g77_1, g77_3, g77_10, g77_11, g77_12⟩, og77_0, og77_1, og77_2, hn⟩ := hI75
                  subst hn
                  try simp only [go_sem, Int.reduceLT, Int.reduceLE, Int.reduceBEq, Int.reduceBNe, Nat.reduceBNe, Nat.reduceAdd, Nat.reduceMul, Nat.reduceEqDiff, Nat.reduceLeDiff, Nat.reduceLT, Nat.reduceBEq, reduceCtorEq, reduceIte, c2, c4, c6, c8, lt_f (append_0.cond.length), hx61, lt_t hx61, lt_p hx61, nat_in (lt_n hx61) hlhx61, c66, lt_f (v158.length), g77_1, g77_3, g77_10, g77_11, g77_12, og77_0, og77_1, og77_2]
                  refine ⟨_, [], [0, 1], (Option.some.inj h).symm, by decide, ?_⟩
                  try simp only [go_sem, Int.reduceLT, Int.reduceLE, Int.reduceBEq, Int.reduceBNe, Nat.reduceBNe, Nat.reduceAdd, Nat.reduceMul, Nat.reduceEqDiff, Nat.reduceLeDiff, Nat.reduceLT, Nat.reduceBEq, reduceCtorEq, reduceIte, c2, c4, c6, c8, lt_f (append_0.cond.length), hx61, lt_t hx61, lt_p hx61, nat_in (lt_n hx61) hlhx61, c66, lt_f (v158.length), g77_1, g77_3, g77_10, g77_11, g77_12, og77_0, og77_1, og77_2, IV, sts_cons, sts_nil, obs_cons, obs_nil]
              · replace h := inr_K h hy60
                obtain rfl := Option.some.inj h
                try simp only [go_sem, Int.reduceLT, Int.reduceLE, Int.reduceBEq, Int.reduceBNe, Nat.reduceBNe, Nat.reduceAdd, Nat.reduceMul, Nat.reduceEqDiff, Nat.reduceLeDiff, Nat.reduceLT, Nat.reduceBEq, reduceCtorEq, reduceIte, c2, c4, c6, c8, lt_f (append_0.cond.length), hx61, lt_t hx61, lt_p hx61, nat_in (lt_n hx61) hlhx61, c66, g64_1, g64_3, g64_10, og64_0, og64_1]
            · rintro ⟨⟩ ⟨sl, ob, n⟩ hI78 hW79 h
              simp only [IV, sts_cons, sts_nil, obs_cons, obs_nil, and_true, true_and, Nat.reduceAdd, str_len] at hI78
              obtain ⟨⟨g80_1, g80_3, g80_10⟩, og80_0, og80_1, hn⟩ := hI78
              subst hn
              try simp only [go_sem, Int.reduceLT, Int.reduceLE, Int.reduceBEq, Int.reduceBNe, Nat.reduceBNe, Nat.reduceAdd, Nat.reduceMul, Nat.reduceEqDiff, Nat.reduceLeDiff, Nat.reduceLT, Nat.reduceBEq, reduceCtorEq, reduceIte, c2, c4, c6, c8, lt_f (append_0.cond.length), lt_f (append_0.thn.length), g80_1, g80_3, g80_10, og80_0, og80_1]
              obtain ⟨v167, e81, h⟩ := bind_K h
              refine call_K (by first | exact s_RuleVars_ok e81 | simpa only [go_sem, Int.reduceLT, Int.reduceLE, Int.reduceBEq, Int.reduceBNe, Nat.reduceBNe, Nat.reduceAdd, Nat.reduceMul, Nat.reduceEqDiff, Nat.reduceLeDiff, Nat.reduceLT, Nat.reduceBEq, reduceCtorEq, reduceIte, c2, c4, c6, c8, lt_f (append_0.cond.length), lt_f (append_0.thn.length), g80_1, g80_3, g80_10, og80_0, og80_1] using s_RuleVars_ok e81) ?_
              obtain rfl := Option.some.inj h
              try simp only [go_sem, Int.reduceLT, Int.reduceLE, Int.reduceBEq, Int.reduceBNe, Nat.reduceBNe, Nat.reduceAdd, Nat.reduceMul, Nat.reduceEqDiff, Nat.reduceLeDiff, Nat.reduceLT, Nat.reduceBEq, reduceCtorEq, reduceIte, c2, c4, c6, c8, lt_f (append_0.cond.length), lt_f (append_0.thn.length), g80_1, g80_3, g80_10, og80_0, og80_1]
        · obtain rfl := Option.some.inj h
          try simp only [go_sem, Int.reduceLT, Int.reduceLE, Int.reduceBEq, Int.reduceBNe, Nat.reduceBNe, Nat.reduceAdd, Nat.reduceMul, Nat.reduceEqDiff, Nat.reduceLeDiff, Nat.reduceLT, Nat.reduceBEq, reduceCtorEq, reduceIte, c2, c4, c6, c8]
      · obtain rfl := Option.some.inj h
        try simp only [go_sem, Int.reduceLT, Int.reduceLE, Int.reduceBEq, Int.reduceBNe, Nat.reduceBNe, Nat.reduceAdd, Nat.reduceMul, Nat.reduceEqDiff, Nat.reduceLeDiff, Nat.reduceLT, Nat.reduceBEq, reduceCtorEq, reduceIte, c2, c4, c6]
    · obtain rfl := Option.some.inj h
      try simp only [go_sem, Int.reduceLT, Int.reduceLE, Int.reduceBEq, Int.reduceBNe, Nat.reduceBNe, Nat.reduceAdd, Nat.reduceMul, Nat.reduceEqDiff, Nat.reduceLeDiff, Nat.reduceLT, Nat.reduceBEq, reduceCtorEq, reduceIte, c2, c4]
  · obtain rfl := Option.some.inj h
    try simp only [go_sem, Int.reduceLT, Int.reduceLE, Int.reduceBEq, Int.reduceBNe, Nat.reduceBNe, Nat.reduceAdd, Nat.reduceMul, Nat.reduceEqDiff, Nat.reduceLeDiff, Nat.reduceLT, Nat.reduceBEq, reduceCtorEq, reduceIte, c2]
end Go.Proofs.Ytccbhhglghboaaa

namespace Go.Proofs.Ytccbhhglghboaaa
open Go.Proofs.Try
set_option linter.unusedSimpArgs false
set_option linter.unusedVariables false
set_option maxRecDepth 1000000
set_option maxHeartbeats 4000000
theorem i_IsLogical_ok {r_0 : RuleD} {r : Bool} (h : i_IsLogical r_0 = some r) : Sound Try.prog J0 44 [(true, eRule r_0)] [(false, [(false, .bool r)])] := by
  refine fnk Try.func44 (by kernel_rfl) rfl (by kernel_rfl) (by kernel_rfl) ?_
  unfold i_IsLogical at h
  simp only [fnS, f44, argSt, go_sem, Int.reduceLT, Int.reduceLE, Int.reduceBEq, Int.reduceBNe, Nat.reduceBNe, Nat.reduceAdd, Nat.reduceMul, Nat.reduceEqDiff, Nat.reduceLeDiff, Nat.reduceLT, Nat.reduceBEq, reduceCtorEq, reduceIte]
  obtain ⟨v1, e1, h⟩ := bind_K h
  refine call_K (by first | exact i_IsRule_ok e1 | simpa only [go_sem, Int.reduceLT, Int.reduceLE, Int.reduceBEq, Int.reduceBNe, Nat.reduceBNe, Nat.reduceAdd, Nat.reduceMul, Nat.reduceEqDiff, Nat.reduceLeDiff, Nat.reduceLT, Nat.reduceBEq, reduceCtorEq, reduceIte] using i_IsRule_ok e1) ?_
  try simp only [go_sem, Int.reduceLT, Int.reduceLE, Int.reduceBEq, Int.reduceBNe, Nat.reduceBNe, Nat.reduceAdd, Nat.reduceMul, Nat.reduceEqDiff, Nat.reduceLeDiff, Nat.reduceLT, Nat.reduceBEq, reduceCtorEq, reduceIte]
  refine ite_K h (fun c2 h => ?_) (fun c2 h => ?_)
  · try simp only [go_sem, Int.reduceLT, Int.reduceLE, Int.reduceBEq, Int.reduceBNe, Nat.reduceBNe, Nat.reduceAdd, Nat.reduceMul, Nat.reduceEqDiff, Nat.reduceLeDiff, Nat.reduceLT, Nat.reduceBEq, reduceCtorEq, reduceIte, c2]
    obtain ⟨v2, e3, h⟩ := bind_K h
    refine call_K (by first | exact i_onlyAdds_ok e3 | simpa only [go_sem, Int.reduceLT, Int.reduceLE, Int.reduceBEq, Int.reduceBNe, Nat.reduceBNe, Nat.reduceAdd, Nat.reduceMul, Nat.reduceEqDiff, Nat.reduceLeDiff, Nat.reduceLT, Nat.reduceBEq, reduceCtorEq, reduceIte, c2] using i_onlyAdds_ok e3) ?_
    try simp only [go_sem, Int.reduceLT, Int.reduceLE, Int.reduceBEq, Int.reduceBNe, Nat.reduceBNe, Nat.reduceAdd, Nat.reduceMul, Nat.reduceEqDiff, Nat.reduceLeDiff, Nat.reduceLT, Nat.reduceBEq, reduceCtorEq, reduceIte, c2]
    refine ite_K h (fun c4 h => ?_) (fun c4 h => ?_)
    · try simp only [go_sem, Int.reduceLT, Int.reduceLE, Int.reduceBEq, Int.reduceBNe, Nat.reduceBNe, Nat.reduceAdd, Nat.reduceMul, Nat.reduceEqDiff, Nat.reduceLeDiff, Nat.reduceLT, Nat.reduceBEq, reduceCtorEq, reduceIte, c2, c4]
      refine swp_for h (fun i _ st => IV [(1, .bp 0 0), (17, .p false [.c (.sl 120 5 (List.map eCond r_0.cond))]), (18, .p false [.c (.int .i64 ((r_0.cond.length : Nat) : Int))]), (19, .p false [.c (.int .i64 ((i : Nat) : Int))])] [.box 75 [.c (.str r_0.name), .c (.int .i64 r_0.priority), .c (.sl 120 5 (List.map eCond r_0.cond)), .c (.sl 128 3 (List.map eAction r_0.thn))]] st) [] [0] (by decide) ?_ ?_ ?_
      · simp only [go_sem, Int.reduceLT, Int.reduceLE, Int.reduceBEq, Int.reduceBNe, Nat.reduceBNe, Nat.reduceAdd, Nat.reduceMul, Nat.reduceEqDiff, Nat.reduceLeDiff, Nat.reduceLT, Nat.reduceBEq, reduceCtorEq, reduceIte, IV, sts_cons, sts_nil, obs_cons, obs_nil, c2, c4]
      · rintro i26 x27 ⟨⟩ ⟨sl, ob, n⟩ y5 hx6 hI7 hW8 h hy5
        simp only [IV, sts_cons, sts_nil, obs_cons, obs_nil, and_true, true_and, Nat.reduceAdd, str_len] at hI7
        obtain ⟨⟨g9_1, g9_17, g9_18, g9_19⟩, og9_0, hn⟩ := hI7
        subst hn
        have hlhx6 := WF.slotL hW8 g9_17 (j := 0) rfl
        try simp only [go_sem, Int.reduceLT, Int.reduceLE, Int.reduceBEq, Int.reduceBNe, Nat.reduceBNe, Nat.reduceAdd, Nat.reduceMul, Nat.reduceEqDiff, Nat.reduceLeDiff, Nat.reduceLT, Nat.reduceBEq, reduceCtorEq, reduceIte, c2, c4, hx6, lt_t hx6, lt_p hx6, nat_in (lt_n hx6) hlhx6, g9_1, g9_17, g9_18, g9_19, og9_0]
        refine ite_K h (fun c10 h => ?_) (fun c10 h => ?_)
        · try simp only [go_sem, Int.reduceLT, Int.reduceLE, Int.reduceBEq, Int.reduceBNe, Nat.reduceBNe, Nat.reduceAdd, Nat.reduceMul, Nat.reduceEqDiff, Nat.reduceLeDiff, Nat.reduceLT, Nat.reduceBEq, reduceCtorEq, reduceIte, c2, c4, hx6, lt_t hx6, lt_p hx6, nat_in (lt_n hx6) hlhx6, c10, g9_1, g9_17, g9_18, g9_19, og9_0]
          refine ⟨_, [], [0], (Option.some.inj h).symm, by decide, ?_⟩
          try simp only [go_sem, Int.reduceLT, Int.reduceLE, Int.reduceBEq, Int.reduceBNe, Nat.reduceBNe, Nat.reduceAdd, Nat.reduceMul, Nat.reduceEqDiff, Nat.reduceLeDiff, Nat.reduceLT, Nat.reduceBEq, reduceCtorEq, reduceIte, c2, c4, hx6, lt_t hx6, lt_p hx6, nat_in (lt_n hx6) hlhx6, c10, g9_1, g9_17, g9_18, g9_19, og9_0, IV, sts_cons, sts_nil, obs_cons, obs_nil]
        · try simp only [go_sem, Int.reduceLT, Int.reduceLE, Int.reduceBEq, Int.reduceBNe, Nat.reduceBNe, Nat.reduceAdd, Nat.reduceMul, Nat.reduceEqDiff, Nat.reduceLeDiff, Nat.reduceLT, Nat.reduceBEq, reduceCtorEq, reduceIte, c2, c4, hx6, lt_t hx6, lt_p hx6, nat_in (lt_n hx6) hlhx6, c10, g9_1, g9_17, g9_18, g9_19, og9_0]
          obtain ⟨v28, e11, h⟩ := bind_K h
          refine call_K (by first | exact i_BoundVars_ok e11 | simpa only [go_sem, Int.reduceLT, Int.reduceLE, Int.reduceBEq, Int.reduceBNe, Nat.reduceBNe, Nat.reduceAdd, Nat.reduceMul, Nat.reduceEqDiff, Nat.reduceLeDiff, Nat.reduceLT, Nat.reduceBEq, reduceCtorEq, reduceIte, c2, c4, hx6, lt_t hx6, lt_p hx6, nat_in (lt_n hx6) hlhx6, c10, g9_1, g9_17, g9_18, g9_19, og9_0] using i_BoundVars_ok e11) ?_
          try simp only [go_sem, Int.reduceLT, Int.reduceLE, Int.reduceBEq, Int.reduceBNe, Nat.reduceBNe, Nat.reduceAdd, Nat.reduceMul, Nat.reduceEqDiff, Nat.reduceLeDiff, Nat.reduceLT, Nat.reduceBEq, reduceCtorEq, reduceIte, c2, c4, hx6, lt_t hx6, lt_p hx6, nat_in (lt_n hx6) hlhx6, c10, g9_1, g9_17, g9_18, g9_19, og9_0]
          obtain ⟨v29, e12, h⟩ := bind_K h
          refine call_K (by first | exact i_CondVars_ok e12 | simpa only [go_sem, Int.reduceLT, Int.reduceLE, Int.reduceBEq, Int.reduceBNe, Nat.reduceBNe, Nat.reduceAdd, Nat.reduceMul, Nat.reduceEqDiff, Nat.reduceLeDiff, Nat.reduceLT, Nat.reduceBEq, reduceCtorEq, reduceIte, c2, c4, hx6, lt_t hx6, lt_p hx6, nat_in (lt_n hx6) hlhx6, c10, g9_1, g9_17, g9_18, g9_19, og9_0] using i_CondVars_ok e12) ?_
          try simp only [go_sem, Int.reduceLT, Int.reduceLE, Int.reduceBEq, Int.reduceBNe, Nat.reduceBNe, Nat.reduceAdd, Nat.reduceMul, Nat.reduceEqDiff, Nat.reduceLeDiff, Nat.reduceLT, Nat.reduceBEq, reduceCtorEq, reduceIte, c2, c4, hx6, lt_t hx6, lt_p hx6, nat_in (lt_n hx6) hlhx6, c10, g9_1, g9_17, g9_18, g9_19, og9_0]
          refine swp_for h (fun i _ st => IV [(1, .bp 0 0), (5, .p false [.row 1]), (17, .p false [.c (.sl 120 5 (List.map eCond r_0.cond))]), (18, .p false [.c (.int .i64 ((r_0.cond.length : Nat) : Int))]), (19, .p false [.c (.int .i64 ((i26 : Nat) : Int))]), (31, .p false [.row 2]), (32, .p false [.c (.int .i64 ((v29.length : Nat) : Int))]), (33, .p false [.c (.int .i64 ((i : Nat) : Int))])] [.box 75 [.c (.str r_0.name), .c (.int .i64 r_0.priority), .c (.sl 120 5 (List.map eCond r_0.cond)), .c (.sl 128 3 (List.map eAction r_0.thn))], .row 9 1 (List.map eStr v28) 2, .row 9 1 (List.map eStr v29) 2] st) [] [0, 193, 241] (by decide) ?_ ?_ ?_
          · simp only [go_sem, Int.reduceLT, Int.reduceLE, Int.reduceBEq, Int.reduceBNe, Nat.reduceBNe, Nat.reduceAdd, Nat.reduceMul, Nat.reduceEqDiff, Nat.reduceLeDiff, Nat.reduceLT, Nat.reduceBEq, reduceCtorEq, reduceIte, IV, sts_cons, sts_nil, obs_cons, obs_nil, c2, c4, hx6, lt_t hx6, lt_p hx6, nat_in (lt_n hx6) hlhx6, c10, g9_1, g9_17, g9_18, g9_19, og9_0]
          · rintro i35 x36 ⟨⟩ ⟨sl, ob, n⟩ y13 hx14 hI15 hW16 h hy13
            simp only [IV, sts_cons, sts_nil, obs_cons, obs_nil, and_true, true_and, Nat.reduceAdd, str_len] at hI15
            obtain ⟨⟨g17_1, g17_5, g17_17, g17_18, g17_19, g17_31, g17_32, g17_33⟩, og17_0, og17_1, og17_2, hn⟩ := hI15
            subst hn
            have hlhx14 := WF.rowL hW16 og17_2
            try simp only [go_sem, Int.reduceLT, Int.reduceLE, Int.reduceBEq, Int.reduceBNe, Nat.reduceBNe, Nat.reduceAdd, Nat.reduceMul, Nat.reduceEqDiff, Nat.reduceLeDiff, Nat.reduceLT, Nat.reduceBEq, reduceCtorEq, reduceIte, c2, c4, hx6, lt_t hx6, lt_p hx6, nat_in (lt_n hx6) hlhx6, c10, hx14, lt_t hx14, lt_p hx14, nat_in (lt_n hx14) hlhx14, g17_1, g17_5, g17_17, g17_18, g17_19, g17_31, g17_32, g17_33, og17_0, og17_1, og17_2]
            obtain ⟨v37, e18, h⟩ := bind_K h
            refine call_K (by first | exact i_hasText_ok e18 | simpa only [go_sem, Int.reduceLT, Int.reduceLE, Int.reduceBEq, Int.reduceBNe, Nat.reduceBNe, Nat.reduceAdd, Nat.reduceMul, Nat.reduceEqDiff, Nat.reduceLeDiff, Nat.reduceLT, Nat.reduceBEq, reduceCtorEq, reduceIte, c2, c4, hx6, lt_t hx6, lt_p hx6, nat_in (lt_n hx6) hlhx6, c10, hx14, lt_t hx14, lt_p hx14, nat_in (lt_n hx14) hlhx14, g17_1, g17_5, g17_17, g17_18, g17_19, g17_31, g17_32, g17_33, og17_0, og17_1, og17_2] using i_hasText_ok e18) ?_
            try simp only [go_sem, Int.reduceLT, Int.reduceLE, Int.reduceBEq, Int.reduceBNe, Nat.reduceBNe, Nat.reduceAdd, Nat.reduceMul, Nat.reduceEqDiff, Nat.reduceLeDiff, Nat.reduceLT, Nat.reduceBEq, reduceCtorEq, reduceIte, c2, c4, hx6, lt_t hx6, lt_p hx6, nat_in (lt_n hx6) hlhx6, c10, hx14, lt_t hx14, lt_p hx14, nat_in (lt_n hx14) hlhx14, g17_1, g17_5, g17_17, g17_18, g17_19, g17_31, g17_32, g17_33, og17_0, og17_1, og17_2]
            refine ite_K h (fun c19 h => ?_) (fun c19 h => ?_)
            · try simp only [go_sem, Int.reduceLT, Int.reduceLE, Int.reduceBEq, Int.reduceBNe, Nat.reduceBNe, Nat.reduceAdd, Nat.reduceMul, Nat.reduceEqDiff, Nat.reduceLeDiff, Nat.reduceLT, Nat.reduceBEq, reduceCtorEq, reduceIte, c2, c4, hx6, lt_t hx6, lt_p hx6, nat_in (lt_n hx6) hlhx6, c10, hx14, lt_t hx14, lt_p hx14, nat_in (lt_n hx14) hlhx14, c19, g17_1, g17_5, g17_17, g17_18, g17_19, g17_31, g17_32, g17_33, og17_0, og17_1, og17_2]
              refine ⟨_, [], [0, 1, 2], (Option.some.inj h).symm, by decide, ?_⟩
              try simp only [go_sem, Int.reduceLT, Int.reduceLE, Int.reduceBEq, Int.reduceBNe, Nat.reduceBNe, Nat.reduceAdd, Nat.reduceMul, Nat.reduceEqDiff, Nat.reduceLeDiff, Nat.reduceLT, Nat.reduceBEq, reduceCtorEq, reduceIte, c2, c4, hx6, lt_t hx6, lt_p hx6, nat_in (lt_n hx6) hlhx6, c10, hx14, lt_t hx14, lt_p hx14, nat_in (lt_n hx14) hlhx14, c19, g17_1, g17_5, g17_17, g17_18, g17_19, g17_31, g17_32, g17_33, og17_0, og17_1, og17_2, IV, sts_cons, sts_nil, obs_cons, obs_nil]
            · replace h := inr_K h hy13
              replace h := inr_K h hy5
              obtain rfl := Option.some.inj h
              try simp only [go_sem, Int.reduceLT, Int.reduceLE, Int.reduceBEq, Int.reduceBNe, Nat.reduceBNe, Nat.reduceAdd, Nat.reduceMul, Nat.reduceEqDiff, Nat.reduceLeDiff, Nat.reduceLT, Nat.reduceBEq, reduceCtorEq, reduceIte, c2, c4, hx6, lt_t hx6, lt_p hx6, nat_in (lt_n hx6) hlhx6, c10, hx14, lt_t hx14, lt_p hx14, nat_in (lt_n hx14) hlhx14, c19, g17_1, g17_5, g17_17, g17_18, g17_19, g17_31, g17_32, g17_33, og17_0, og17_1, og17_2]
          · rintro ⟨⟩ ⟨sl, ob, n⟩ hI20 hW21 h
            simp only [IV, sts_cons, sts_nil, obs_cons, obs_nil, and_true, true_and, Nat.reduceAdd, str_len] at hI20
            obtain ⟨⟨g22_1, g22_5, g22_17, g22_18, g22_19, g22_31, g22_32, g22_33⟩, og22_0, og22_1, og22_2, hn⟩ := hI20
            subst hn
            try simp only [go_sem, Int.reduceLT, Int.reduceLE, Int.reduceBEq, Int.reduceBNe, Nat.reduceBNe, Nat.reduceAdd, Nat.reduceMul, Nat.reduceEqDiff, Nat.reduceLeDiff, Nat.reduceLT, Nat.reduceBEq, reduceCtorEq, reduceIte, c2, c4, hx6, lt_t hx6, lt_p hx6, nat_in (lt_n hx6) hlhx6, c10, lt_f (v29.length), g22_1, g22_5, g22_17, g22_18, g22_19, g22_31, g22_32, g22_33, og22_0, og22_1, og22_2]
            refine ⟨_, [], [0], (Option.some.inj h).symm, by decide, ?_⟩
            try simp only [go_sem, Int.reduceLT, Int.reduceLE, Int.reduceBEq, Int.reduceBNe, Nat.reduceBNe, Nat.reduceAdd, Nat.reduceMul, Nat.reduceEqDiff, Nat.reduceLeDiff, Nat.reduceLT, Nat.reduceBEq, reduceCtorEq, reduceIte, c2, c4, hx6, lt_t hx6, lt_p hx6, nat_in (lt_n hx6) hlhx6, c10, lt_f (v29.length), g22_1, g22_5, g22_17, g22_18, g22_19, g22_31, g22_32, g22_33, og22_0, og22_1, og22_2, IV, sts_cons, sts_nil, obs_cons, obs_nil]
      · rintro ⟨⟩ ⟨sl, ob, n⟩ hI23 hW24 h
        simp only [IV, sts_cons, sts_nil, obs_cons, obs_nil, and_true, true_and, Nat.reduceAdd, str_len] at hI23
        obtain ⟨⟨g25_1, g25_17, g25_18, g25_19⟩, og25_0, hn⟩ := hI23
        subst hn
        obtain rfl := Option.some.inj h
        try simp only [go_sem, Int.reduceLT, Int.reduceLE, Int.reduceBEq, Int.reduceBNe, Nat.reduceBNe, Nat.reduceAdd, Nat.reduceMul, Nat.reduceEqDiff, Nat.reduceLeDiff, Nat.reduceLT, Nat.reduceBEq, reduceCtorEq, reduceIte, c2, c4, lt_f (r_0.cond.length), g25_1, g25_17, g25_18, g25_19, og25_0]
    · obtain rfl := Option.some.inj h
      try simp only [go_sem, Int.reduceLT, Int.reduceLE, Int.reduceBEq, Int.reduceBNe, Nat.reduceBNe, Nat.reduceAdd, Nat.reduceMul, Nat.reduceEqDiff, Nat.reduceLeDiff, Nat.reduceLT, Nat.reduceBEq, reduceCtorEq, reduceIte, c2, c4]
  · obtain rfl := Option.some.inj h
    try simp only [go_sem, Int.reduceLT, Int.reduceLE, Int.reduceBEq, Int.reduceBNe, Nat.reduceBNe, Nat.reduceAdd, Nat.reduceMul, Nat.reduceEqDiff, Nat.reduceLeDiff, Nat.reduceLT, Nat.reduceBEq, reduceCtorEq, reduceIte, c2]
theorem i_AreRules_ok {l_0 : (List RuleD)} {r : Bool} (h : i_AreRules l_0 = some r) : Sound Try.prog J0 104 [(false, [.sl 75 4 (List.map eRule l_0)])] [(false, [(false, .bool r)])] := by
  refine fnk Try.func104 (by kernel_rfl) rfl (by kernel_rfl) (by kernel_rfl) ?_
  unfold i_AreRules at h
  simp only [fnS, f104, argSt, go_sem, Int.reduceLT, Int.reduceLE, Int.reduceBEq, Int.reduceBNe, Nat.reduceBNe, Nat.reduceAdd, Nat.reduceMul, Nat.reduceEqDiff, Nat.reduceLeDiff, Nat.reduceLT, Nat.reduceBEq, reduceCtorEq, reduceIte]
  refine ite_K h (fun c1 h => ?_) (fun c1 h => ?_)
  · obtain rfl := Option.some.inj h
    try simp only [go_sem, Int.reduceLT, Int.reduceLE, Int.reduceBEq, Int.reduceBNe, Nat.reduceBNe, Nat.reduceAdd, Nat.reduceMul, Nat.reduceEqDiff, Nat.reduceLeDiff, Nat.reduceLT, Nat.reduceBEq, reduceCtorEq, reduceIte, c1]
  · try simp only [go_sem, Int.reduceLT, Int.reduceLE, Int.reduceBEq, Int.reduceBNe, Nat.reduceBNe, Nat.reduceAdd, Nat.reduceMul, Nat.reduceEqDiff, Nat.reduceLeDiff, Nat.reduceLT, Nat.reduceBEq, reduceCtorEq, reduceIte, c1]
    refine swp_for h (fun i _ st => IV [(0, .p false [.c (.sl 75 4 (List.map eRule l_0))]), (8, .p false [.c (.sl 75 4 (List.map eRule l_0))]), (9, .p false [.c (.int .i64 ((l_0.length : Nat) : Int))]), (10, .p false [.c (.int .i64 ((i : Nat) : Int))])] [] st) [] [] (by decide) ?_ ?_ ?_
    · simp only [go_sem, Int.reduceLT, Int.reduceLE, Int.reduceBEq, Int.reduceBNe, Nat.reduceBNe, Nat.reduceAdd, Nat.reduceMul, Nat.reduceEqDiff, Nat.reduceLeDiff, Nat.reduceLT, Nat.reduceBEq, reduceCtorEq, reduceIte, IV, sts_cons, sts_nil, obs_cons, obs_nil, c1]
    · rintro i8 x9 ⟨⟩ ⟨sl, ob, n⟩ y2 hx3 hI4 hW5 h hy2
      simp only [IV, sts_cons, sts_nil, obs_cons, obs_nil, and_true, true_and, Nat.reduceAdd, str_len] at hI4
      obtain ⟨⟨g6_0, g6_8, g6_9, g6_10⟩, hn⟩ := hI4
      subst hn
      have hlhx3 := WF.slotL hW5 g6_0 (j := 0) rfl
      try simp only [go_sem, Int.reduceLT, Int.reduceLE, Int.reduceBEq, Int.reduceBNe, Nat.reduceBNe, Nat.reduceAdd, Nat.reduceMul, Nat.reduceEqDiff, Nat.reduceLeDiff, Nat.reduceLT, Nat.reduceBEq, reduceCtorEq, reduceIte, c1, hx3, lt_t hx3, lt_p hx3, nat_in (lt_n hx3) hlhx3, g6_0, g6_8, g6_9, g6_10]
      obtain ⟨v10, e7, h⟩ := bind_K h
      refine call_K (by first | exact i_IsRule_ok e7 | simpa only [go_sem, Int.reduceLT, Int.reduceLE, Int.reduceBEq, Int.reduceBNe, Nat.reduceBNe, Nat.reduceAdd, Nat.reduceMul, Nat.reduceEqDiff, Nat.reduceLeDiff, Nat.reduceLT, Nat.reduceBEq, reduceCtorEq, reduceIte, c1, hx3, lt_t hx3, lt_p hx3, nat_in (lt_n hx3) hlhx3, g6_0, g6_8, g6_9, g6_10] using i_IsRule_ok e7) ?_
      try simp only [go_sem, Int.reduceLT, Int.reduceLE, Int.reduceBEq, Int.reduceBNe, Nat.reduceBNe, Nat.reduceAdd, Nat.reduceMul, Nat.reduceEqDiff, Nat.reduceLeDiff, Nat.reduceLT, Nat.reduceBEq, reduceCtorEq, reduceIte, c1, hx3, lt_t hx3, lt_p hx3, nat_in (lt_n hx3) hlhx3, g6_0, g6_8, g6_9, g6_10]
      refine ite_K h (fun c8 h => ?_) (fun c8 h => ?_)
      · try simp only [go_sem, Int.reduceLT, Int.reduceLE, Int.reduceBEq, Int.reduceBNe, Nat.reduceBNe, Nat.reduceAdd, Nat.reduceMul, Nat.reduceEqDiff, Nat.reduceLeDiff, Nat.reduceLT, Nat.reduceBEq, reduceCtorEq, reduceIte, c1, hx3, lt_t hx3, lt_p hx3, nat_in (lt_n hx3) hlhx3, c8, g6_0, g6_8, g6_9, g6_10]
        obtain ⟨v11, e9, h⟩ := bind_K h
        refine call_K (by first | exact i_FindRule_ok e9 | simpa only [go_sem, Int.reduceLT, Int.reduceLE, Int.reduceBEq, Int.reduceBNe, Nat.reduceBNe, Nat.reduceAdd, Nat.reduceMul, Nat.reduceEqDiff, Nat.reduceLeDiff, Nat.reduceLT, Nat.reduceBEq, reduceCtorEq, reduceIte, c1, hx3, lt_t hx3, lt_p hx3, nat_in (lt_n hx3) hlhx3, c8, g6_0, g6_8, g6_9, g6_10] using i_FindRule_ok e9) ?_
        try simp only [go_sem, Int.reduceLT, Int.reduceLE, Int.reduceBEq, Int.reduceBNe, Nat.reduceBNe, Nat.reduceAdd, Nat.reduceMul, Nat.reduceEqDiff, Nat.reduceLeDiff, Nat.reduceLT, Nat.reduceBEq, reduceCtorEq, reduceIte, c1, hx3, lt_t hx3, lt_p hx3, nat_in (lt_n hx3) hlhx3, c8, g6_0, g6_8, g6_9, g6_10]
        refine ite_K h (fun c10 h => ?_) (fun c10 h => ?_)
        · replace h := inr_K h hy2
          obtain rfl := Option.some.inj h
          try simp only [go_sem, Int.reduceLT, Int.reduceLE, Int.reduceBEq, Int.reduceBNe, Nat.reduceBNe, Nat.reduceAdd, Nat.reduceMul, Nat.reduceEqDiff, Nat.reduceLeDiff, Nat.reduceLT, Nat.reduceBEq, reduceCtorEq, reduceIte, c1, hx3, lt_t hx3, lt_p hx3, nat_in (lt_n hx3) hlhx3, c8, c10, g6_0, g6_8, g6_9, g6_10]
        · try simp only [go_sem, Int.reduceLT, Int.reduceLE, Int.reduceBEq, Int.reduceBNe, Nat.reduceBNe, Nat.reduceAdd, Nat.reduceMul, Nat.reduceEqDiff, Nat.reduceLeDiff, Nat.reduceLT, Nat.reduceBEq, reduceCtorEq, reduceIte, c1, hx3, lt_t hx3, lt_p hx3, nat_in (lt_n hx3) hlhx3, c8, c10, g6_0, g6_8, g6_9, g6_10]
          refine ⟨_, [], [], (Option.some.inj h).symm, by decide, ?_⟩
          try simp only [go_sem, Int.reduceLT, Int.reduceLE, Int.reduceBEq, Int.reduceBNe, Nat.reduceBNe, Nat.reduceAdd, Nat.reduceMul, Nat.reduceEqDiff, Nat.reduceLeDiff, Nat.reduceLT, Nat.reduceBEq, reduceCtorEq, reduceIte, c1, hx3, lt_t hx3, lt_p hx3, nat_in (lt_n hx3) hlhx3, c8, c10, g6_0, g6_8, g6_9, g6_10, IV, sts_cons, sts_nil, obs_cons, obs_nil]
      · replace h := inr_K h hy2
        obtain rfl := Option.some.inj h
        try simp only [go_sem, Int.reduceLT, Int.reduceLE, Int.reduceBEq, Int.reduceBNe, Nat.reduceBNe, Nat.reduceAdd, Nat.reduceMul, Nat.reduceEqDiff, Nat.reduceLeDiff, Nat.reduceLT, Nat.reduceBEq, reduceCtorEq, reduceIte, c1, hx3, lt_t hx3, lt_p hx3, nat_in (lt_n hx3) hlhx3, c8, g6_0, g6_8, g6_9, g6_10]
    · rintro ⟨⟩ ⟨sl, ob, n⟩ hI11 hW12 h
      simp only [IV, sts_cons, sts_nil, obs_cons, obs_nil, and_true, true_and, Nat.reduceAdd, str_len] at hI11
      obtain ⟨⟨g13_0, g13_8, g13_9, g13_10⟩, hn⟩ := hI11
      subst hn
      obtain rfl := Option.some.inj h
      try simp only [go_sem, Int.reduceLT, Int.reduceLE, Int.reduceBEq, Int.reduceBNe, Nat.reduceBNe, Nat.reduceAdd, Nat.reduceMul, Nat.reduceEqDiff, Nat.reduceLeDiff, Nat.reduceLT, Nat.reduceBEq, reduceCtorEq, reduceIte, c1, lt_f (l_0.length), g13_0, g13_8, g13_9, g13_10]
end Go.Proofs.Ytccbhhglghboaaa

namespace Go.Proofs.Ytccbhhglghboaaa
open Go.Proofs.Try
set_option linter.unusedSimpArgs false
set_option linter.unusedVariables false
set_option maxRecDepth 1000000
set_option maxHeartbeats 4000000
theorem s_IsLogical_ok {r_0 : RuleD} {r : Bool} (h : s_IsLogical r_0 = some r) : Sound Try.prog J0 42 [(true, eRule r_0)] [(false, [(false, .bool r)])] := by
  refine fnk Try.func42 (by kernel_rfl) rfl (by kernel_rfl) (by kernel_rfl) ?_
  unfold s_IsLogical at h
  simp only [fnS, f42, argSt, go_sem, Int.reduceLT, Int.reduceLE, Int.reduceBEq, Int.reduceBNe, Nat.reduceBNe, Nat.reduceAdd, Nat.reduceMul, Nat.reduceEqDiff, Nat.reduceLeDiff, Nat.reduceLT, Nat.reduceBEq, reduceCtorEq, reduceIte]
  obtain ⟨v1, e1, h⟩ := bind_K h
  refine call_K (by first | exact s_IsRule_ok e1 | simpa only [go_sem, Int.reduceLT, Int.reduceLE, Int.reduceBEq, Int.reduceBNe, Nat.reduceBNe, Nat.reduceAdd, Nat.reduceMul, Nat.reduceEqDiff, Nat.reduceLeDiff, Nat.reduceLT, Nat.reduceBEq, reduceCtorEq, reduceIte] using s_IsRule_ok e1) ?_
  try simp only [go_sem, Int.reduceLT, Int.reduceLE, Int.reduceBEq, Int.reduceBNe, Nat.reduceBNe, Nat.reduceAdd, Nat.reduceMul, Nat.reduceEqDiff, Nat.reduceLeDiff, Nat.reduceLT, Nat.reduceBEq, reduceCtorEq, reduceIte]
  refine ite_K h (fun c2 h => ?_) (fun c2 h => ?_)
  · try simp only [go_sem, Int.reduceLT, Int.reduceLE, Int.reduceBEq, Int.reduceBNe, Nat.reduceBNe, Nat.reduceAdd, Nat.reduceMul, Nat.reduceEqDiff, Nat.reduceLeDiff, Nat.reduceLT, Nat.reduceBEq, reduceCtorEq, reduceIte, c2]
    refine swp_for h (fun i _ st => IV [(1, .bp 0 0), (3, .p false [.c (.int .i64 ((i : Nat) : Int))])] [.box 75 [.c (.str r_0.name), .c (.int .i64 r_0.priority), .c (.sl 120 5 (List.map eCond r_0.cond)), .c (.sl 128 3 (List.map eAction r_0.thn))]] st) [] [0] (by decide) ?_ ?_ ?_
    · simp only [go_sem, Int.reduceLT, Int.reduceLE, Int.reduceBEq, Int.reduceBNe, Nat.reduceBNe, Nat.reduceAdd, Nat.reduceMul, Nat.reduceEqDiff, Nat.reduceLeDiff, Nat.reduceLT, Nat.reduceBEq, reduceCtorEq, reduceIte, IV, sts_cons, sts_nil, obs_cons, obs_nil, c2]
    · rintro i16 x17 ⟨⟩ ⟨sl, ob, n⟩ y3 hx4 hI5 hW6 h hy3
      simp only [IV, sts_cons, sts_nil, obs_cons, obs_nil, and_true, true_and, Nat.reduceAdd, str_len] at hI5
      obtain ⟨⟨g7_1, g7_3⟩, og7_0, hn⟩ := hI5
      subst hn
      have hlhx4 := WF.boxL hW6 og7_0 (j := 2) rfl
      try simp only [go_sem, Int.reduceLT, Int.reduceLE, Int.reduceBEq, Int.reduceBNe, Nat.reduceBNe, Nat.reduceAdd, Nat.reduceMul, Nat.reduceEqDiff, Nat.reduceLeDiff, Nat.reduceLT, Nat.reduceBEq, reduceCtorEq, reduceIte, c2, hx4, lt_t hx4, lt_p hx4, nat_in (lt_n hx4) hlhx4, g7_1, g7_3, og7_0]
      refine ite_K h (fun c8 h => ?_) (fun c8 h => ?_)
      · try simp only [go_sem, Int.reduceLT, Int.reduceLE, Int.reduceBEq, Int.reduceBNe, Nat.reduceBNe, Nat.reduceAdd, Nat.reduceMul, Nat.reduceEqDiff, Nat.reduceLeDiff, Nat.reduceLT, Nat.reduceBEq, reduceCtorEq, reduceIte, c2, hx4, lt_t hx4, lt_p hx4, nat_in (lt_n hx4) hlhx4, c8, g7_1, g7_3, og7_0]
        obtain ⟨v18, e9, h⟩ := bind_K h
        refine call_K (by first | exact s_CondVars_ok e9 | simpa only [go_sem, Int.reduceLT, Int.reduceLE, Int.reduceBEq, Int.reduceBNe, Nat.reduceBNe, Nat.reduceAdd, Nat.reduceMul, Nat.reduceEqDiff, Nat.reduceLeDiff, Nat.reduceLT, Nat.reduceBEq, reduceCtorEq, reduceIte, c2, hx4, lt_t hx4, lt_p hx4, nat_in (lt_n hx4) hlhx4, c8, g7_1, g7_3, og7_0] using s_CondVars_ok e9) ?_
        try simp only [go_sem, Int.reduceLT, Int.reduceLE, Int.reduceBEq, Int.reduceBNe, Nat.reduceBNe, Nat.reduceAdd, Nat.reduceMul, Nat.reduceEqDiff, Nat.reduceLeDiff, Nat.reduceLT, Nat.reduceBEq, reduceCtorEq, reduceIte, c2, hx4, lt_t hx4, lt_p hx4, nat_in (lt_n hx4) hlhx4, c8, g7_1, g7_3, og7_0]
        obtain ⟨v19, e10, h⟩ := bind_K h
        refine call_K (by first | exact s_BoundVars_ok e10 | simpa only [go_sem, Int.reduceLT, Int.reduceLE, Int.reduceBEq, Int.reduceBNe, Nat.reduceBNe, Nat.reduceAdd, Nat.reduceMul, Nat.reduceEqDiff, Nat.reduceLeDiff, Nat.reduceLT, Nat.reduceBEq, reduceCtorEq, reduceIte, c2, hx4, lt_t hx4, lt_p hx4, nat_in (lt_n hx4) hlhx4, c8, g7_1, g7_3, og7_0] using s_BoundVars_ok e10) ?_
        try simp only [go_sem, Int.reduceLT, Int.reduceLE, Int.reduceBEq, Int.reduceBNe, Nat.reduceBNe, Nat.reduceAdd, Nat.reduceMul, Nat.reduceEqDiff, Nat.reduceLeDiff, Nat.reduceLT, Nat.reduceBEq, reduceCtorEq, reduceIte, c2, hx4, lt_t hx4, lt_p hx4, nat_in (lt_n hx4) hlhx4, c8, g7_1, g7_3, og7_0]
        obtain ⟨v20, e11, h⟩ := bind_K h
        refine call_K (by first | exact s_l14Bound_ok e11 | simpa only [go_sem, Int.reduceLT, Int.reduceLE, Int.reduceBEq, Int.reduceBNe, Nat.reduceBNe, Nat.reduceAdd, Nat.reduceMul, Nat.reduceEqDiff, Nat.reduceLeDiff, Nat.reduceLT, Nat.reduceBEq, reduceCtorEq, reduceIte, c2, hx4, lt_t hx4, lt_p hx4, nat_in (lt_n hx4) hlhx4, c8, g7_1, g7_3, og7_0] using s_l14Bound_ok e11) ?_
        try simp only [go_sem, Int.reduceLT, Int.reduceLE, Int.reduceBEq, Int.reduceBNe, Nat.reduceBNe, Nat.reduceAdd, Nat.reduceMul, Nat.reduceEqDiff, Nat.reduceLeDiff, Nat.reduceLT, Nat.reduceBEq, reduceCtorEq, reduceIte, c2, hx4, lt_t hx4, lt_p hx4, nat_in (lt_n hx4) hlhx4, c8, g7_1, g7_3, og7_0]
        refine ite_K h (fun c12 h => ?_) (fun c12 h => ?_)
        · try simp only [go_sem, Int.reduceLT, Int.reduceLE, Int.reduceBEq, Int.reduceBNe, Nat.reduceBNe, Nat.reduceAdd, Nat.reduceMul, Nat.reduceEqDiff, Nat.reduceLeDiff, Nat.reduceLT, Nat.reduceBEq, reduceCtorEq, reduceIte, c2, hx4, lt_t hx4, lt_p hx4, nat_in (lt_n hx4) hlhx4, c8, c12, g7_1, g7_3, og7_0]
          refine ⟨_, [], [0], (Option.some.inj h).symm, by decide, ?_⟩
          try simp only [go_sem, Int.reduceLT, Int.reduceLE, Int.reduceBEq, Int.reduceBNe, Nat.reduceBNe, Nat.reduceAdd, Nat.reduceMul, Nat.reduceEqDiff, Nat.reduceLeDiff, Nat.reduceLT, Nat.reduceBEq, reduceCtorEq, reduceIte, c2, hx4, lt_t hx4, lt_p hx4, nat_in (lt_n hx4) hlhx4, c8, c12, g7_1, g7_3, og7_0, IV, sts_cons, sts_nil, obs_cons, obs_nil]
        · replace h := inr_K h hy3
          obtain rfl := Option.some.inj h
          try simp only [go_sem, Int.reduceLT, Int.reduceLE, Int.reduceBEq, Int.reduceBNe, Nat.reduceBNe, Nat.reduceAdd, Nat.reduceMul, Nat.reduceEqDiff, Nat.reduceLeDiff, Nat.reduceLT, Nat.reduceBEq, reduceCtorEq, reduceIte, c2, hx4, lt_t hx4, lt_p hx4, nat_in (lt_n hx4) hlhx4, c8, c12, g7_1, g7_3, og7_0]
      · try simp only [go_sem, Int.reduceLT, Int.reduceLE, Int.reduceBEq, Int.reduceBNe, Nat.reduceBNe, Nat.reduceAdd, Nat.reduceMul, Nat.reduceEqDiff, Nat.reduceLeDiff, Nat.reduceLT, Nat.reduceBEq, reduceCtorEq, reduceIte, c2, hx4, lt_t hx4, lt_p hx4, nat_in (lt_n hx4) hlhx4, c8, g7_1, g7_3, og7_0]
        refine ⟨_, [], [0], (Option.some.inj h).symm, by decide, ?_⟩
        try simp only [go_sem, Int.reduceLT, Int.reduceLE, Int.reduceBEq, Int.reduceBNe, Nat.reduceBNe, Nat.reduceAdd, Nat.reduceMul, Nat.reduceEqDiff, Nat.reduceLeDiff, Nat.reduceLT, Nat.reduceBEq, reduceCtorEq, reduceIte, c2, hx4, lt_t hx4, lt_p hx4, nat_in (lt_n hx4) hlhx4, c8, g7_1, g7_3, og7_0, IV, sts_cons, sts_nil, obs_cons, obs_nil]
    · rintro ⟨⟩ ⟨sl, ob, n⟩ hI13 hW14 h
      simp only [IV, sts_cons, sts_nil, obs_cons, obs_nil, and_true, true_and, Nat.reduceAdd, str_len] at hI13
      obtain ⟨⟨g15_1, g15_3⟩, og15_0, hn⟩ := hI13
      subst hn
      try simp only [go_sem, Int.reduceLT, Int.reduceLE, Int.reduceBEq, Int.reduceBNe, Nat.reduceBNe, Nat.reduceAdd, Nat.reduceMul, Nat.reduceEqDiff, Nat.reduceLeDiff, Nat.reduceLT, Nat.reduceBEq, reduceCtorEq, reduceIte, c2, lt_f (r_0.cond.length), g15_1, g15_3, og15_0]
      refine swp_for h (fun i _ st => IV [(1, .bp 0 0), (4, .p false [.c (.int .i64 ((i : Nat) : Int))])] [.box 75 [.c (.str r_0.name), .c (.int .i64 r_0.priority), .c (.sl 120 5 (List.map eCond r_0.cond)), .c (.sl 128 3 (List.map eAction r_0.thn))]] st) [] [0] (by decide) ?_ ?_ ?_
      · simp only [go_sem, Int.reduceLT, Int.reduceLE, Int.reduceBEq, Int.reduceBNe, Nat.reduceBNe, Nat.reduceAdd, Nat.reduceMul, Nat.reduceEqDiff, Nat.reduceLeDiff, Nat.reduceLT, Nat.reduceBEq, reduceCtorEq, reduceIte, IV, sts_cons, sts_nil, obs_cons, obs_nil, c2, lt_f (r_0.cond.length), g15_1, g15_3, og15_0]
      · rintro i24 x25 ⟨⟩ ⟨sl, ob, n⟩ y16 hx17 hI18 hW19 h hy16
        simp only [IV, sts_cons, sts_nil, obs_cons, obs_nil, and_true, true_and, Nat.reduceAdd, str_len] at hI18
        obtain ⟨⟨g20_1, g20_4⟩, og20_0, hn⟩ := hI18
        subst hn
        have hlhx17 := WF.boxL hW19 og20_0 (j := 3) rfl
        try simp only [go_sem, Int.reduceLT, Int.reduceLE, Int.reduceBEq, Int.reduceBNe, Nat.reduceBNe, Nat.reduceAdd, Nat.reduceMul, Nat.reduceEqDiff, Nat.reduceLeDiff, Nat.reduceLT, Nat.reduceBEq, reduceCtorEq, reduceIte, c2, lt_f (r_0.cond.length), hx17, lt_t hx17, lt_p hx17, nat_in (lt_n hx17) hlhx17, g20_1, g20_4, og20_0]
        refine ite_K h (fun c21 h => ?_) (fun c21 h => ?_)
        · replace h := inr_K h hy16
          obtain rfl := Option.some.inj h
          try simp only [go_sem, Int.reduceLT, Int.reduceLE, Int.reduceBEq, Int.reduceBNe, Nat.reduceBNe, Nat.reduceAdd, Nat.reduceMul, Nat.reduceEqDiff, Nat.reduceLeDiff, Nat.reduceLT, Nat.reduceBEq, reduceCtorEq, reduceIte, c2, lt_f (r_0.cond.length), hx17, lt_t hx17, lt_p hx17, nat_in (lt_n hx17) hlhx17, c21, g20_1, g20_4, og20_0]
        · try simp only [go_sem, Int.reduceLT, Int.reduceLE, Int.reduceBEq, Int.reduceBNe, Nat.reduceBNe, Nat.reduceAdd, Nat.reduceMul, Nat.reduceEqDiff, Nat.reduceLeDiff, Nat.reduceLT, Nat.reduceBEq, reduceCtorEq, reduceIte, c2, lt_f (r_0.cond.length), hx17, lt_t hx17, lt_p hx17, nat_in (lt_n hx17) hlhx17, c21, g20_1, g20_4, og20_0]
          refine ⟨_, [], [0], (Option.some.inj h).symm, by decide, ?_⟩
          try simp only [go_sem, Int.reduceLT, Int.reduceLE, Int.reduceBEq, Int.reduceBNe, Nat.reduceBNe, Nat.reduceAdd, Nat.reduceMul, Nat.reduceEqDiff, Nat.reduceLeDiff, Nat.reduceLT, Nat.reduceBEq, reduceCtorEq, reduceIte, c2, lt_f (r_0.cond.length), hx17, lt_t hx17, lt_p hx17, nat_in (lt_n hx17) hlhx17, c21, g20_1, g20_4, og20_0, IV, sts_cons, sts_nil, obs_cons, obs_nil]
      · rintro ⟨⟩ ⟨sl, ob, n⟩ hI22 hW23 h
        simp only [IV, sts_cons, sts_nil, obs_cons, obs_nil, and_true, true_and, Nat.reduceAdd, str_len] at hI22
        obtain ⟨⟨g24_1, g24_4⟩, og24_0, hn⟩ := hI22
        subst hn
        obtain rfl := Option.some.inj h
        try simp only [go_sem, Int.reduceLT, Int.reduceLE, Int.reduceBEq, Int.reduceBNe, Nat.reduceBNe, Nat.reduceAdd, Nat.reduceMul, Nat.reduceEqDiff, Nat.reduceLeDiff, Nat.reduceLT, Nat.reduceBEq, reduceCtorEq, reduceIte, c2, lt_f (r_0.cond.length), lt_f (r_0.thn.length), g24_1, g24_4, og24_0]
  · obtain rfl := Option.some.inj h
    try simp only [go_sem, Int.reduceLT, Int.reduceLE, Int.reduceBEq, Int.reduceBNe, Nat.reduceBNe, Nat.reduceAdd, Nat.reduceMul, Nat.reduceEqDiff, Nat.reduceLeDiff, Nat.reduceLT, Nat.reduceBEq, reduceCtorEq, reduceIte, c2]
theorem s_AreRules_ok {l_0 : (List RuleD)} {r : Bool} (h : s_AreRules l_0 = some r) : Sound Try.prog J0 103 [(false, [.sl 75 4 (List.map eRule l_0)])] [(false, [(false, .bool r)])] := by
  refine fnk Try.func103 (by kernel_rfl) rfl (by kernel_rfl) (by kernel_rfl) ?_
  unfold s_AreRules at h
  simp only [fnS, f103, argSt, go_sem, Int.reduceLT, Int.reduceLE, Int.reduceBEq, Int.reduceBNe, Nat.reduceBNe, Nat.reduceAdd, Nat.reduceMul, Nat.reduceEqDiff, Nat.reduceLeDiff, Nat.reduceLT, Nat.reduceBEq, reduceCtorEq, reduceIte]
  refine swp_for h (fun i _ st => IV [(0, .p false [.c (.sl 75 4 (List.map eRule l_0))]), (3, .p false [.c (.int .i64 ((i : Nat) : Int))])] [] st) [] [] (by decide) ?_ ?_ ?_
  · simp only [go_sem, Int.reduceLT, Int.reduceLE, Int.reduceBEq, Int.reduceBNe, Nat.reduceBNe, Nat.reduceAdd, Nat.reduceMul, Nat.reduceEqDiff, Nat.reduceLeDiff, Nat.reduceLT, Nat.reduceBEq, reduceCtorEq, reduceIte, IV, sts_cons, sts_nil, obs_cons, obs_nil]
  · rintro i8 x9 ⟨⟩ ⟨sl, ob, n⟩ y1 hx2 hI3 hW4 h hy1
    simp only [IV, sts_cons, sts_nil, obs_cons, obs_nil, and_true, true_and, Nat.reduceAdd, str_len] at hI3
    obtain ⟨⟨g5_0, g5_3⟩, hn⟩ := hI3
    subst hn
    have hlhx2 := WF.slotL hW4 g5_0 (j := 0) rfl
    try simp only [go_sem, Int.reduceLT, Int.reduceLE, Int.reduceBEq, Int.reduceBNe, Nat.reduceBNe, Nat.reduceAdd, Nat.reduceMul, Nat.reduceEqDiff, Nat.reduceLeDiff, Nat.reduceLT, Nat.reduceBEq, reduceCtorEq, reduceIte, hx2, lt_t hx2, lt_p hx2, nat_in (lt_n hx2) hlhx2, g5_0, g5_3]
    obtain ⟨v10, e6, h⟩ := bind_K h
    refine call_K (by first | exact s_IsRule_ok e6 | simpa only [go_sem, Int.reduceLT, Int.reduceLE, Int.reduceBEq, Int.reduceBNe, Nat.reduceBNe, Nat.reduceAdd, Nat.reduceMul, Nat.reduceEqDiff, Nat.reduceLeDiff, Nat.reduceLT, Nat.reduceBEq, reduceCtorEq, reduceIte, hx2, lt_t hx2, lt_p hx2, nat_in (lt_n hx2) hlhx2, g5_0, g5_3] using s_IsRule_ok e6) ?_
    try simp only [go_sem, Int.reduceLT, Int.reduceLE, Int.reduceBEq, Int.reduceBNe, Nat.reduceBNe, Nat.reduceAdd, Nat.reduceMul, Nat.reduceEqDiff, Nat.reduceLeDiff, Nat.reduceLT, Nat.reduceBEq, reduceCtorEq, reduceIte, hx2, lt_t hx2, lt_p hx2, nat_in (lt_n hx2) hlhx2, g5_0, g5_3]
    refine ite_K h (fun c7 h => ?_) (fun c7 h => ?_)
    · try simp only [go_sem, Int.reduceLT, Int.reduceLE, Int.reduceBEq, Int.reduceBNe, Nat.reduceBNe, Nat.reduceAdd, Nat.reduceMul, Nat.reduceEqDiff, Nat.reduceLeDiff, Nat.reduceLT, Nat.reduceBEq, reduceCtorEq, reduceIte, hx2, lt_t hx2, lt_p hx2, nat_in (lt_n hx2) hlhx2, c7, g5_0, g5_3]
      obtain ⟨v11, e8, h⟩ := bind_K h
      refine call_K (by first | exact s_FindRule_ok e8 | simpa only [go_sem, Int.reduceLT, Int.reduceLE, Int.reduceBEq, Int.reduceBNe, Nat.reduceBNe, Nat.reduceAdd, Nat.reduceMul, Nat.reduceEqDiff, Nat.reduceLeDiff, Nat.reduceLT, Nat.reduceBEq, reduceCtorEq, reduceIte, hx2, lt_t hx2, lt_p hx2, nat_in (lt_n hx2) hlhx2, c7, g5_0, g5_3] using s_FindRule_ok e8) ?_
      try simp only [go_sem, Int.reduceLT, Int.reduceLE, Int.reduceBEq, Int.reduceBNe, Nat.reduceBNe, Nat.reduceAdd, Nat.reduceMul, Nat.reduceEqDiff, Nat.reduceLeDiff, Nat.reduceLT, Nat.reduceBEq, reduceCtorEq, reduceIte, hx2, lt_t hx2, lt_p hx2, nat_in (lt_n hx2) hlhx2, c7, g5_0, g5_3]
      refine ite_K h (fun c9 h => ?_) (fun c9 h => ?_)
      · replace h := inr_K h hy1
        obtain rfl := Option.some.inj h
        try simp only [go_sem, Int.reduceLT, Int.reduceLE, Int.reduceBEq, Int.reduceBNe, Nat.reduceBNe, Nat.reduceAdd, Nat.reduceMul, Nat.reduceEqDiff, Nat.reduceLeDiff, Nat.reduceLT, Nat.reduceBEq, reduceCtorEq, reduceIte, hx2, lt_t hx2, lt_p hx2, nat_in (lt_n hx2) hlhx2, c7, c9, g5_0, g5_3]
      · try simp only [go_sem, Int.reduceLT, Int.reduceLE, Int.reduceBEq, Int.reduceBNe, Nat.reduceBNe, Nat.reduceAdd, Nat.reduceMul, Nat.reduceEqDiff, Nat.reduceLeDiff, Nat.reduceLT, Nat.reduceBEq, reduceCtorEq, reduceIte, hx2, lt_t hx2, lt_p hx2, nat_in (lt_n hx2) hlhx2, c7, c9, g5_0, g5_3]
        refine ⟨_, [], [], (Option.some.inj h).symm, by decide, ?_⟩
        try simp only [go_sem, Int.reduceLT, Int.reduceLE, Int.reduceBEq, Int.reduceBNe, Nat.reduceBNe, Nat.reduceAdd, Nat.reduceMul, Nat.reduceEqDiff, Nat.reduceLeDiff, Nat.reduceLT, Nat.reduceBEq, reduceCtorEq, reduceIte, hx2, lt_t hx2, lt_p hx2, nat_in (lt_n hx2) hlhx2, c7, c9, g5_0, g5_3, IV, sts_cons, sts_nil, obs_cons, obs_nil]
    · replace h := inr_K h hy1
      obtain rfl := Option.some.inj h
      try simp only [go_sem, Int.reduceLT, Int.reduceLE, Int.reduceBEq, Int.reduceBNe, Nat.reduceBNe, Nat.reduceAdd, Nat.reduceMul, Nat.reduceEqDiff, Nat.reduceLeDiff, Nat.reduceLT, Nat.reduceBEq, reduceCtorEq, reduceIte, hx2, lt_t hx2, lt_p hx2, nat_in (lt_n hx2) hlhx2, c7, g5_0, g5_3]
  · rintro ⟨⟩ ⟨sl, ob, n⟩ hI10 hW11 h
    simp only [IV, sts_cons, sts_nil, obs_cons, obs_nil, and_true, true_and, Nat.reduceAdd, str_len] at hI10
    obtain ⟨⟨g12_0, g12_3⟩, hn⟩ := hI10
    subst hn
    obtain rfl := Option.some.inj h
    try simp only [go_sem, Int.reduceLT, Int.reduceLE, Int.reduceBEq, Int.reduceBNe, Nat.reduceBNe, Nat.reduceAdd, Nat.reduceMul, Nat.reduceEqDiff, Nat.reduceLeDiff, Nat.reduceLT, Nat.reduceBEq, reduceCtorEq, reduceIte, lt_f (l_0.length), g12_0, g12_3]
theorem i_AreLogical_ok {rules_0 : (List RuleD)} {r : Bool} (h : i_AreLogical rules_0 = some r) : Sound Try.prog J0 51 [(false, [.sl 75 4 (List.map eRule rules_0)])] [(false, [(false, .bool r)])] := by
  refine fnk Try.func51 (by kernel_rfl) rfl (by kernel_rfl) (by kernel_rfl) ?_
  unfold i_AreLogical at h
  simp only [fnS, f51, argSt, go_sem, Int.reduceLT, Int.reduceLE, Int.reduceBEq, Int.reduceBNe, Nat.reduceBNe, Nat.reduceAdd, Nat.reduceMul, Nat.reduceEqDiff, Nat.reduceLeDiff, Nat.reduceLT, Nat.reduceBEq, reduceCtorEq, reduceIte]
  obtain ⟨v1, e1, h⟩ := bind_K h
  refine call_K (by first | exact i_AreRules_ok e1 | simpa only [go_sem, Int.reduceLT, Int.reduceLE, Int.reduceBEq, Int.reduceBNe, Nat.reduceBNe, Nat.reduceAdd, Nat.reduceMul, Nat.reduceEqDiff, Nat.reduceLeDiff, Nat.reduceLT, Nat.reduceBEq, reduceCtorEq, reduceIte] using i_AreRules_ok e1) ?_
  try simp only [go_sem, Int.reduceLT, Int.reduceLE, Int.reduceBEq, Int.reduceBNe, Nat.reduceBNe, Nat.reduceAdd, Nat.reduceMul, Nat.reduceEqDiff, Nat.reduceLeDiff, Nat.reduceLT, Nat.reduceBEq, reduceCtorEq, reduceIte]
  refine ite_K h (fun c2 h => ?_) (fun c2 h => ?_)
  · try simp only [go_sem, Int.reduceLT, Int.reduceLE, Int.reduceBEq, Int.reduceBNe, Nat.reduceBNe, Nat.reduceAdd, Nat.reduceMul, Nat.reduceEqDiff, Nat.reduceLeDiff, Nat.reduceLT, Nat.reduceBEq, reduceCtorEq, reduceIte, c2]
    refine swp_for h (fun i _ st => IV [(0, .p false [.c (.sl 75 4 (List.map eRule rules_0))]), (13, .p false [.c (.sl 75 4 (List.map eRule rules_0))]), (14, .p false [.c (.int .i64 ((rules_0.length : Nat) : Int))]), (15, .p false [.c (.int .i64 ((i : Nat) : Int))])] [] st) [] [] (by decide) ?_ ?_ ?_
    · simp only [go_sem, Int.reduceLT, Int.reduceLE, Int.reduceBEq, Int.reduceBNe, Nat.reduceBNe, Nat.reduceAdd, Nat.reduceMul, Nat.reduceEqDiff, Nat.reduceLeDiff, Nat.reduceLT, Nat.reduceBEq, reduceCtorEq, reduceIte, IV, sts_cons, sts_nil, obs_cons, obs_nil, c2]
    · rintro i59 x60 ⟨⟩ ⟨sl, ob, n⟩ y3 hx4 hI5 hW6 h hy3
      simp only [IV, sts_cons, sts_nil, obs_cons, obs_nil, and_true, true_and, Nat.reduceAdd, str_len] at hI5
      obtain ⟨⟨g7_0, g7_13, g7_14, g7_15⟩, hn⟩ := hI5
      subst hn
      have hlhx4 := WF.slotL hW6 g7_0 (j := 0) rfl
      try simp only [go_sem, Int.reduceLT, Int.reduceLE, Int.reduceBEq, Int.reduceBNe, Nat.reduceBNe, Nat.reduceAdd, Nat.reduceMul, Nat.reduceEqDiff, Nat.reduceLeDiff, Nat.reduceLT, Nat.reduceBEq, reduceCtorEq, reduceIte, c2, hx4, lt_t hx4, lt_p hx4, nat_in (lt_n hx4) hlhx4, g7_0, g7_13, g7_14, g7_15]
      obtain ⟨v61, e8, h⟩ := bind_K h
      refine call_K (by first | exact i_IsLogical_ok e8 | simpa only [go_sem, Int.reduceLT, Int.reduceLE, Int.reduceBEq, Int.reduceBNe, Nat.reduceBNe, Nat.reduceAdd, Nat.reduceMul, Nat.reduceEqDiff, Nat.reduceLeDiff, Nat.reduceLT, Nat.reduceBEq, reduceCtorEq, reduceIte, c2, hx4, lt_t hx4, lt_p hx4, nat_in (lt_n hx4) hlhx4, g7_0, g7_13, g7_14, g7_15] using i_IsLogical_ok e8) ?_
      try simp only [go_sem, Int.reduceLT, Int.reduceLE, Int.reduceBEq, Int.reduceBNe, Nat.reduceBNe, Nat.reduceAdd, Nat.reduceMul, Nat.reduceEqDiff, Nat.reduceLeDiff, Nat.reduceLT, Nat.reduceBEq, reduceCtorEq, reduceIte, c2, hx4, lt_t hx4, lt_p hx4, nat_in (lt_n hx4) hlhx4, g7_0, g7_13, g7_14, g7_15]
      refine ite_K h (fun c9 h => ?_) (fun c9 h => ?_)
      · try simp only [go_sem, Int.reduceLT, Int.reduceLE, Int.reduceBEq, Int.reduceBNe, Nat.reduceBNe, Nat.reduceAdd, Nat.reduceMul, Nat.reduceEqDiff, Nat.reduceLeDiff, Nat.reduceLT, Nat.reduceBEq, reduceCtorEq, reduceIte, c2, hx4, lt_t hx4, lt_p hx4, nat_in (lt_n hx4) hlhx4, c9, g7_0, g7_13, g7_14, g7_15]
        refine swp_for h (fun i _ st => IV [(0, .p false [.c (.sl 75 4 (List.map eRule rules_0))]), (4, .bp 0 0), (13, .p false [.c (.sl 75 4 (List.map eRule rules_0))]), (14, .p false [.c (.int .i64 ((rules_0.length : Nat) : Int))]), (15, .p false [.c (.int .i64 ((i59 : Nat) : Int))]), (23, .p false [.c (.sl 120 5 (List.map eCond x60.cond))]), (24, .p false [.c (.int .i64 ((x60.cond.length : Nat) : Int))]), (25, .p false [.c (.int .i64 ((i : Nat) : Int))])] [.box 75 [.c (.str x60.name), .c (.int .i64 x60.priority), .c (.sl 120 5 (List.map eCond x60.cond)), .c (.sl 128 3 (List.map eAction x60.thn))]] st) [] [48] (by decide) ?_ ?_ ?_
        · simp only [go_sem, Int.reduceLT, Int.reduceLE, Int.reduceBEq, Int.reduceBNe, Nat.reduceBNe, Nat.reduceAdd, Nat.reduceMul, Nat.reduceEqDiff, Nat.reduceLeDiff, Nat.reduceLT, Nat.reduceBEq, reduceCtorEq, reduceIte, IV, sts_cons, sts_nil, obs_cons, obs_nil, c2, hx4, lt_t hx4, lt_p hx4, nat_in (lt_n hx4) hlhx4, c9, g7_0, g7_13, g7_14, g7_15]
        · rintro i79 x80 ⟨⟩ ⟨sl, ob, n⟩ y10 hx11 hI12 hW13 h hy10
          simp only [IV, sts_cons, sts_nil, obs_cons, obs_nil, and_true, true_and, Nat.reduceAdd, str_len] at hI12
          obtain ⟨⟨g14_0, g14_4, g14_13, g14_14, g14_15, g14_23, g14_24, g14_25⟩, og14_0, hn⟩ := hI12
          subst hn
          have hlhx11 := WF.slotL hW13 g14_23 (j := 0) rfl
          try simp only [go_sem, Int.reduceLT, Int.reduceLE, Int.reduceBEq, Int.reduceBNe, Nat.reduceBNe, Nat.reduceAdd, Nat.reduceMul, Nat.reduceEqDiff, Nat.reduceLeDiff, Nat.reduceLT, Nat.reduceBEq, reduceCtorEq, reduceIte, c2, hx4, lt_t hx4, lt_p hx4, nat_in (lt_n hx4) hlhx4, c9, hx11, lt_t hx11, lt_p hx11, nat_in (lt_n hx11) hlhx11, g14_0, g14_4, g14_13, g14_14, g14_15, g14_23, g14_24, g14_25, og14_0]
          refine ite_K h (fun c15 h => ?_) (fun c15 h => ?_)
          · try simp only [go_sem, Int.reduceLT, Int.reduceLE, Int.reduceBEq, Int.reduceBNe, Nat.reduceBNe, Nat.reduceAdd, Nat.reduceMul, Nat.reduceEqDiff, Nat.reduceLeDiff, Nat.reduceLT, Nat.reduceBEq, reduceCtorEq, reduceIte, c2, hx4, lt_t hx4, lt_p hx4, nat_in (lt_n hx4) hlhx4, c9, hx11, lt_t hx11, lt_p hx11, nat_in (lt_n hx11) hlhx11, c15, g14_0, g14_4, g14_13, g14_14, g14_15, g14_23, g14_24, g14_25, og14_0]
            refine ⟨_, [], [0], (Option.some.inj h).symm, by decide, ?_⟩
            try simp only [go_sem, Int.reduceLT, Int.reduceLE, Int.reduceBEq, Int.reduceBNe, Nat.reduceBNe, Nat.reduceAdd, Nat.reduceMul, Nat.reduceEqDiff, Nat.reduceLeDiff, Nat.reduceLT, Nat.reduceBEq, reduceCtorEq, reduceIte, c2, hx4, lt_t hx4, lt_p hx4, nat_in (lt_n hx4) hlhx4, c9, hx11, lt_t hx11, lt_p hx11, nat_in (lt_n hx11) hlhx11, c15, g14_0, g14_4, g14_13, g14_14, g14_15, g14_23, g14_24, g14_25, og14_0, IV, sts_cons, sts_nil, obs_cons, obs_nil]
          · try simp only [go_sem, Int.reduceLT, Int.reduceLE, Int.reduceBEq, Int.reduceBNe, Nat.reduceBNe, Nat.reduceAdd, Nat.reduceMul, Nat.reduceEqDiff, Nat.reduceLeDiff, Nat.reduceLT, Nat.reduceBEq, reduceCtorEq, reduceIte, c2, hx4, lt_t hx4, lt_p hx4, nat_in (lt_n hx4) hlhx4, c9, hx11, lt_t hx11, lt_p hx11, nat_in (lt_n hx11) hlhx11, c15, g14_0, g14_4, g14_13, g14_14, g14_15, g14_23, g14_24, g14_25, og14_0]
            obtain ⟨v81, e16, h⟩ := bind_K h
            refine frz_K (by first | exact i_relReach_ok e16 | simpa only [go_sem, Int.reduceLT, Int.reduceLE, Int.reduceBEq, Int.reduceBNe, Nat.reduceBNe, Nat.reduceAdd, Nat.reduceMul, Nat.reduceEqDiff, Nat.reduceLeDiff, Nat.reduceLT, Nat.reduceBEq, reduceCtorEq, reduceIte, c2, hx4, lt_t hx4, lt_p hx4, nat_in (lt_n hx4) hlhx4, c9, hx11, lt_t hx11, lt_p hx11, nat_in (lt_n hx11) hlhx11, c15, g14_0, g14_4, g14_13, g14_14, g14_15, g14_23, g14_24, g14_25, og14_0] using i_relReach_ok e16) ?_
            try simp only [go_sem, Int.reduceLT, Int.reduceLE, Int.reduceBEq, Int.reduceBNe, Nat.reduceBNe, Nat.reduceAdd, Nat.reduceMul, Nat.reduceEqDiff, Nat.reduceLeDiff, Nat.reduceLT, Nat.reduceBEq, reduceCtorEq, reduceIte, c2, hx4, lt_t hx4, lt_p hx4, nat_in (lt_n hx4) hlhx4, c9, hx11, lt_t hx11, lt_p hx11, nat_in (lt_n hx11) hlhx11, c15, g14_0, g14_4, g14_13, g14_14, g14_15, g14_23, g14_24, g14_25, og14_0]
            obtain ⟨v82, e17, h⟩ := bind_K h
            refine call_K (by first | exact i_WritesOf_ok e17 | simpa only [go_sem, Int.reduceLT, Int.reduceLE, Int.reduceBEq, Int.reduceBNe, Nat.reduceBNe, Nat.reduceAdd, Nat.reduceMul, Nat.reduceEqDiff, Nat.reduceLeDiff, Nat.reduceLT, Nat.reduceBEq, reduceCtorEq, reduceIte, c2, hx4, lt_t hx4, lt_p hx4, nat_in (lt_n hx4) hlhx4, c9, hx11, lt_t hx11, lt_p hx11, nat_in (lt_n hx11) hlhx11, c15, g14_0, g14_4, g14_13, g14_14, g14_15, g14_23, g14_24, g14_25, og14_0] using i_WritesOf_ok e17) ?_
            try simp only [go_sem, Int.reduceLT, Int.reduceLE, Int.reduceBEq, Int.reduceBNe, Nat.reduceBNe, Nat.reduceAdd, Nat.reduceMul, Nat.reduceEqDiff, Nat.reduceLeDiff, Nat.reduceLT, Nat.reduceBEq, reduceCtorEq, reduceIte, c2, hx4, lt_t hx4, lt_p hx4, nat_in (lt_n hx4) hlhx4, c9, hx11, lt_t hx11, lt_p hx11, nat_in (lt_n hx11) hlhx11, c15, g14_0, g14_4, g14_13, g14_14, g14_15, g14_23, g14_24, g14_25, og14_0]
            refine swp_for h (fun i _ st => IV [(0, .p false [.c (.sl 75 4 (List.map eRule rules_0))]), (4, .bp 0 0), (6, .bp 1 0), (7, .p false [.c (.mp .str .bool (List.map eSB v81))]), (13, .p false [.c (.sl 75 4 (List.map eRule rules_0))]), (14, .p false [.c (.int .i64 ((rules_0.length : Nat) : Int))]), (15, .p false [.c (.int .i64 ((i59 : Nat) : Int))]), (23, .p false [.c (.sl 120 5 (List.map eCond x60.cond))]), (24, .p false [.c (.int .i64 ((x60.cond.length : Nat) : Int))]), (25, .p false [.c (.int .i64 ((i79 : Nat) : Int))]), (38, .p false [.row 2]), (39, .p false [.c (.int .i64 ((v82.length : Nat) : Int))]), (40, .p false [.c (.int .i64 ((i : Nat) : Int))])] [.box 75 [.c (.str x60.name), .c (.int .i64 x60.priority), .c (.sl 120 5 (List.map eCond x60.cond)), .c (.sl 128 3 (List.map eAction x60.thn))], .box 120 [.c (.int .i64 x80.kind), .c (.str x80.pattern.rel), .c (.sl 9 1 (List.map eStr x80.pattern.args)), .c (.str x80.left), .c (.str x80.right)], .row 9 1 (List.map eStr v82) 2] st) [] [0, 49, 241] (by decide) ?_ ?_ ?_
            · simp only [go_sem, Int.reduceLT, Int.reduceLE, Int.reduceBEq, Int.reduceBNe, Nat.reduceBNe, Nat.reduceAdd, Nat.reduceMul, Nat.reduceEqDiff, Nat.reduceLeDiff, Nat.reduceLT, Nat.reduceBEq, reduceCtorEq, reduceIte, IV, sts_cons, sts_nil, obs_cons, obs_nil, c2, hx4, lt_t hx4, lt_p hx4, nat_in (lt_n hx4) hlhx4, c9, hx11, lt_t hx11, lt_p hx11, nat_in (lt_n hx11) hlhx11, c15, g14_0, g14_4, g14_13, g14_14, g14_15, g14_23, g14_24, g14_25, og14_0]
            · rintro i86 x87 ⟨⟩ ⟨sl, ob, n⟩ y18 hx19 hI20 hW21 h hy18
              simp only [IV, sts_cons, sts_nil, obs_cons, obs_nil, and_true, true_and, Nat.reduceAdd, str_len] at hI20
              obtain ⟨⟨g22_0, g22_4, g22_6, g22_7, g22_13, g22_14, g22_15, g22_23, g22_24, g22_25, g22_38, g22_39, g22_40⟩, og22_0, og22_1, og22_2, hn⟩ := hI20
              subst hn
              have hlhx19 := WF.rowL hW21 og22_2
              try simp only [go_sem, Int.reduceLT, Int.reduceLE, Int.reduceBEq, Int.reduceBNe, Nat.reduceBNe, Nat.reduceAdd, Nat.reduceMul, Nat.reduceEqDiff, Nat.reduceLeDiff, Nat.reduceLT, Nat.reduceBEq, reduceCtorEq, reduceIte, c2, hx4, lt_t hx4, lt_p hx4, nat_in (lt_n hx4) hlhx4, c9, hx11, lt_t hx11, lt_p hx11, nat_in (lt_n hx11) hlhx11, c15, hx19, lt_t hx19, lt_p hx19, nat_in (lt_n hx19) hlhx19, g22_0, g22_4, g22_6, g22_7, g22_13, g22_14, g22_15, g22_23, g22_24, g22_25, g22_38, g22_39, g22_40, og22_0, og22_1, og22_2]
              refine ite_K h (fun c23 h => ?_) (fun c23 h => ?_)
              · replace h := inr_K h hy18
                replace h := inr_K h hy10
                replace h := inr_K h hy3
                obtain rfl := Option.some.inj h
                try simp only [go_sem, Int.reduceLT, Int.reduceLE, Int.reduceBEq, Int.reduceBNe, Nat.reduceBNe, Nat.reduceAdd, Nat.reduceMul, Nat.reduceEqDiff, Nat.reduceLeDiff, Nat.reduceLT, Nat.reduceBEq, reduceCtorEq, reduceIte, c2, hx4, lt_t hx4, lt_p hx4, nat_in (lt_n hx4) hlhx4, c9, hx11, lt_t hx11, lt_p hx11, nat_in (lt_n hx11) hlhx11, c15, hx19, lt_t hx19, lt_p hx19, nat_in (lt_n hx19) hlhx19, c23, g22_0, g22_4, g22_6, g22_7, g22_13, g22_14, g22_15, g22_23, g22_24, g22_25, g22_38, g22_39, g22_40, og22_0, og22_1, og22_2]
              · try simp only [go_sem, Int.reduceLT, Int.reduceLE, Int.reduceBEq, Int.reduceBNe, Nat.reduceBNe, Nat.reduceAdd, Nat.reduceMul, Nat.reduceEqDiff, Nat.reduceLeDiff, Nat.reduceLT, Nat.reduceBEq, reduceCtorEq, reduceIte, c2, hx4, lt_t hx4, lt_p hx4, nat_in (lt_n hx4) hlhx4, c9, hx11, lt_t hx11, lt_p hx11, nat_in (lt_n hx11) hlhx11, c15, hx19, lt_t hx19, lt_p hx19, nat_in (lt_n hx19) hlhx19, c23, g22_0, g22_4, g22_6, g22_7, g22_13, g22_14, g22_15, g22_23, g22_24, g22_25, g22_38, g22_39, g22_40, og22_0, og22_1, og22_2]
                refine ite_K h (fun c24 h => ?_) (fun c24 h => ?_)
                · replace h := inr_K h hy18
                  replace h := inr_K h hy10
                  replace h := inr_K h hy3
                  obtain rfl := Option.some.inj h
                  try simp only [go_sem, Int.reduceLT, Int.reduceLE, Int.reduceBEq, Int.reduceBNe, Nat.reduceBNe, Nat.reduceAdd, Nat.reduceMul, Nat.reduceEqDiff, Nat.reduceLeDiff, Nat.reduceLT, Nat.reduceBEq, reduceCtorEq, reduceIte, c2, hx4, lt_t hx4, lt_p hx4, nat_in (lt_n hx4) hlhx4, c9, hx11, lt_t hx11, lt_p hx11, nat_in (lt_n hx11) hlhx11, c15, hx19, lt_t hx19, lt_p hx19, nat_in (lt_n hx19) hlhx19, c23, c24, g22_0, g22_4, g22_6, g22_7, g22_13, g22_14, g22_15, g22_23, g22_24, g22_25, g22_38, g22_39, g22_40, og22_0, og22_1, og22_2]
                · try simp only [go_sem, Int.reduceLT, Int.reduceLE, Int.reduceBEq, Int.reduceBNe, Nat.reduceBNe, Nat.reduceAdd, Nat.reduceMul, Nat.reduceEqDiff, Nat.reduceLeDiff, Nat.reduceLT, Nat.reduceBEq, reduceCtorEq, reduceIte, c2, hx4, lt_t hx4, lt_p hx4, nat_in (lt_n hx4) hlhx4, c9, hx11, lt_t hx11, lt_p hx11, nat_in (lt_n hx11) hlhx11, c15, hx19, lt_t hx19, lt_p hx19, nat_in (lt_n hx19) hlhx19, c23, c24, g22_0, g22_4, g22_6, g22_7, g22_13, g22_14, g22_15, g22_23, g22_24, g22_25, g22_38, g22_39, g22_40, og22_0, og22_1, og22_2]
                  refine ⟨_, [], [0, 1, 2], (Option.some.inj h).symm, by decide, ?_⟩
                  try simp only [go_sem, Int.reduceLT, Int.reduceLE, Int.reduceBEq, Int.reduceBNe, Nat.reduceBNe, Nat.reduceAdd, Nat.reduceMul, Nat.reduceEqDiff, Nat.reduceLeDiff, Nat.reduceLT, Nat.reduceBEq, reduceCtorEq, reduceIte, c2, hx4, lt_t hx4, lt_p hx4, nat_in (lt_n hx4) hlhx4, c9, hx11, lt_t hx11, lt_p hx11, nat_in (lt_n hx11) hlhx11, c15, hx19, lt_t hx19, lt_p hx19, nat_in (lt_n hx19) hlhx19, c23, c24, g22_0, g22_4, g22_6, g22_7, g22_13, g22_14, g22_15, g22_23, g22_24, g22_25, g22_38, g22_39, g22_40, og22_0, og22_1, og22_2, IV, sts_cons, sts_nil, obs_cons, obs_nil]
            · rintro ⟨⟩ ⟨sl, ob, n⟩ hI25 hW26 h
              simp only [IV, sts_cons, sts_nil, obs_cons, obs_nil, and_true, true_and, Nat.reduceAdd, str_len] at hI25
              obtain ⟨⟨g27_0, g27_4, g27_6, g27_7, g27_13, g27_14, g27_15, g27_23, g27_24, g27_25, g27_38, g27_39, g27_40⟩, og27_0, og27_1, og27_2, hn⟩ := hI25
              subst hn
              try simp only [go_sem, Int.reduceLT, Int.reduceLE, Int.reduceBEq, Int.reduceBNe, Nat.reduceBNe, Nat.reduceAdd, Nat.reduceMul, Nat.reduceEqDiff, Nat.reduceLeDiff, Nat.reduceLT, Nat.reduceBEq, reduceCtorEq, reduceIte, c2, hx4, lt_t hx4, lt_p hx4, nat_in (lt_n hx4) hlhx4, c9, hx11, lt_t hx11, lt_p hx11, nat_in (lt_n hx11) hlhx11, c15, lt_f (v82.length), g27_0, g27_4, g27_6, g27_7, g27_13, g27_14, g27_15, g27_23, g27_24, g27_25, g27_38, g27_39, g27_40, og27_0, og27_1, og27_2]
              refine ⟨_, [], [0], (Option.some.inj h).symm, by decide, ?_⟩
              try simp only [go_sem, Int.reduceLT, Int.reduceLE, Int.reduceBEq, Int.reduceBNe, Nat.reduceBNe, Nat.reduceAdd, Nat.reduceMul, Nat.reduceEqDiff, Nat.reduceLeDiff, Nat.reduceLT, Nat.reduceBEq, reduceCtorEq, reduceIte, c2, hx4, lt_t hx4, lt_p hx4, nat_in (lt_n hx4) hlhx4, c9, hx11, lt_t hx11, lt_p hx11, nat_in (lt_n hx11) hlhx11, c15, lt_f (v82.length), g27_0, g27_4, g27_6, g27_7, g27_13, g27_14, g27_15, g27_23, g27_24, g27_25, g27_38, g27_39, g27_40, og27_0, og27_1, og27_2, IV, sts_cons, sts_nil, obs_cons, obs_nil]
        · rintro ⟨⟩ ⟨sl, ob, n⟩ hI28 hW29 h
          simp only [IV, sts_cons, sts_nil, obs_cons, obs_nil, and_true, true_and, Nat.reduceAdd, str_len] at hI28
          obtain ⟨⟨g30_0, g30_4, g30_13, g30_14, g30_15, g30_23, g30_24, g30_25⟩, og30_0, hn⟩ := hI28
          subst hn
          try simp only [go_sem, Int.reduceLT, Int.reduceLE, Int.reduceBEq, Int.reduceBNe, Nat.reduceBNe, Nat.reduceAdd, Nat.reduceMul, Nat.reduceEqDiff, Nat.reduceLeDiff, Nat.reduceLT, Nat.reduceBEq, reduceCtorEq, reduceIte, c2, hx4, lt_t hx4, lt_p hx4, nat_in (lt_n hx4) hlhx4, c9, lt_f (x60.cond.length), g30_0, g30_4, g30_13, g30_14, g30_15, g30_23, g30_24, g30_25, og30_0]
          refine ⟨_, [], [], (Option.some.inj h).symm, by decide, ?_⟩
          try simp only [go_sem, Int.reduceLT, Int.reduceLE, Int.reduceBEq, Int.reduceBNe, Nat.reduceBNe, Nat.reduceAdd, Nat.reduceMul, Nat.reduceEqDiff, Nat.reduceLeDiff, Nat.reduceLT, Nat.reduceBEq, reduceCtorEq, reduceIte, c2, hx4, lt_t hx4, lt_p hx4, nat_in (lt_n hx4) hlhx4, c9, lt_f (x60.cond.length), g30_0, g30_4, g30_13, g30_14, g30_15, g30_23, g30_24, g30_25, og30_0, IV, sts_cons, sts_nil, obs_cons, obs_nil]
      · replace h := inr_K h hy3
        obtain rfl := Option.some.inj h
        try simp only [go_sem, Int.reduceLT, Int.reduceLE, Int.reduceBEq, Int.reduceBNe, Nat.reduceBNe, Nat.reduceAdd, Nat.reduceMul, Nat.reduceEqDiff, Nat.reduceLeDiff, Nat.reduceLT, Nat.reduceBEq, reduceCtorEq, reduceIte, c2, hx4, lt_t hx4, lt_p hx4, nat_in (lt_n hx4) hlhx4, c9, g7_0, g7_13, g7_14, g7_15]
    · rintro ⟨⟩ ⟨sl, ob, n⟩ hI31 hW32 h
      simp only [IV, sts_cons, sts_nil, obs_cons, obs_nil, and_true, true_and, Nat.reduceAdd, str_len] at hI31
      obtain ⟨⟨g33_0, g33_13, g33_14, g33_15⟩, hn⟩ := hI31
      subst hn
      obtain rfl := Option.some.inj h
      try simp only [go_sem, Int.reduceLT, Int.reduceLE, Int.reduceBEq, Int.reduceBNe, Nat.reduceBNe, Nat.reduceAdd, Nat.reduceMul, Nat.reduceEqDiff, Nat.reduceLeDiff, Nat.reduceLT, Nat.reduceBEq, reduceCtorEq, reduceIte, c2, lt_f (rules_0.length), g33_0, g33_13, g33_14, g33_15]
  · obtain rfl := Option.some.inj h
    try simp only [go_sem, Int.reduceLT, Int.reduceLE, Int.reduceBEq, Int.reduceBNe, Nat.reduceBNe, Nat.reduceAdd, Nat.reduceMul, Nat.reduceEqDiff, Nat.reduceLeDiff, Nat.reduceLT, Nat.reduceBEq, reduceCtorEq, reduceIte, c2]
end Go.Proofs.Ytccbhhglghboaaa

namespace Go.Proofs.Ytccbhhglghboaaa
open Go.Proofs.Try
set_option linter.unusedSimpArgs false
set_option linter.unusedVariables false
set_option maxRecDepth 1000000
set_option maxHeartbeats 4000000
theorem s_AreLogical_ok {append_0 : (List RuleD)} {r : Bool} (h : s_AreLogical append_0 = some r) : Sound Try.prog J0 50 [(false, [.sl 75 4 (List.map eRule append_0)])] [(false, [(false, .bool r)])] := by
  refine fnk Try.func50 (by kernel_rfl) rfl (by kernel_rfl) (by kernel_rfl) ?_
  unfold s_AreLogical at h
  simp only [fnS, f50, argSt, go_sem, Int.reduceLT, Int.reduceLE, Int.reduceBEq, Int.reduceBNe, Nat.reduceBNe, Nat.reduceAdd, Nat.reduceMul, Nat.reduceEqDiff, Nat.reduceLeDiff, Nat.reduceLT, Nat.reduceBEq, reduceCtorEq, reduceIte]
  refine swp_for h (fun i _ st => IV [(0, .p false [.c (.sl 75 4 (List.map eRule append_0))]), (3, .p false [.c (.int .i64 ((i : Nat) : Int))])] [] st) [] [] (by decide) ?_ ?_ ?_
  · simp only [go_sem, Int.reduceLT, Int.reduceLE, Int.reduceBEq, Int.reduceBNe, Nat.reduceBNe, Nat.reduceAdd, Nat.reduceMul, Nat.reduceEqDiff, Nat.reduceLeDiff, Nat.reduceLT, Nat.reduceBEq, reduceCtorEq, reduceIte, IV, sts_cons, sts_nil, obs_cons, obs_nil]
  · rintro i67 x68 ⟨⟩ ⟨sl, ob, n⟩ y1 hx2 hI3 hW4 h hy1
    simp only [IV, sts_cons, sts_nil, obs_cons, obs_nil, and_true, true_and, Nat.reduceAdd, str_len] at hI3
    obtain ⟨⟨g5_0, g5_3⟩, hn⟩ := hI3
    subst hn
    have hlhx2 := WF.slotL hW4 g5_0 (j := 0) rfl
    try simp only [go_sem, Int.reduceLT, Int.reduceLE, Int.reduceBEq, Int.reduceBNe, Nat.reduceBNe, Nat.reduceAdd, Nat.reduceMul, Nat.reduceEqDiff, Nat.reduceLeDiff, Nat.reduceLT, Nat.reduceBEq, reduceCtorEq, reduceIte, hx2, lt_t hx2, lt_p hx2, nat_in (lt_n hx2) hlhx2, g5_0, g5_3]
    obtain ⟨v69, e6, h⟩ := bind_K h
    refine call_K (by first | exact s_IsLogical_ok e6 | simpa only [go_sem, Int.reduceLT, Int.reduceLE, Int.reduceBEq, Int.reduceBNe, Nat.reduceBNe, Nat.reduceAdd, Nat.reduceMul, Nat.reduceEqDiff, Nat.reduceLeDiff, Nat.reduceLT, Nat.reduceBEq, reduceCtorEq, reduceIte, hx2, lt_t hx2, lt_p hx2, nat_in (lt_n hx2) hlhx2, g5_0, g5_3] using s_IsLogical_ok e6) ?_
    try simp only [go_sem, Int.reduceLT, Int.reduceLE, Int.reduceBEq, Int.reduceBNe, Nat.reduceBNe, Nat.reduceAdd, Nat.reduceMul, Nat.reduceEqDiff, Nat.reduceLeDiff, Nat.reduceLT, Nat.reduceBEq, reduceCtorEq, reduceIte, hx2, lt_t hx2, lt_p hx2, nat_in (lt_n hx2) hlhx2, g5_0, g5_3]
    refine ite_K h (fun c7 h => ?_) (fun c7 h => ?_)
    · try simp only [go_sem, Int.reduceLT, Int.reduceLE, Int.reduceBEq, Int.reduceBNe, Nat.reduceBNe, Nat.reduceAdd, Nat.reduceMul, Nat.reduceEqDiff, Nat.reduceLeDiff, Nat.reduceLT, Nat.reduceBEq, reduceCtorEq, reduceIte, hx2, lt_t hx2, lt_p hx2, nat_in (lt_n hx2) hlhx2, c7, g5_0, g5_3]
      obtain ⟨v70, e8, h⟩ := bind_K h
      refine call_K (by first | exact s_WritesOf_ok e8 | simpa only [go_sem, Int.reduceLT, Int.reduceLE, Int.reduceBEq, Int.reduceBNe, Nat.reduceBNe, Nat.reduceAdd, Nat.reduceMul, Nat.reduceEqDiff, Nat.reduceLeDiff, Nat.reduceLT, Nat.reduceBEq, reduceCtorEq, reduceIte, hx2, lt_t hx2, lt_p hx2, nat_in (lt_n hx2) hlhx2, c7, g5_0, g5_3] using s_WritesOf_ok e8) ?_
      try simp only [go_sem, Int.reduceLT, Int.reduceLE, Int.reduceBEq, Int.reduceBNe, Nat.reduceBNe, Nat.reduceAdd, Nat.reduceMul, Nat.reduceEqDiff, Nat.reduceLeDiff, Nat.reduceLT, Nat.reduceBEq, reduceCtorEq, reduceIte, hx2, lt_t hx2, lt_p hx2, nat_in (lt_n hx2) hlhx2, c7, g5_0, g5_3]
      refine swp_for h (fun i _ st => IV [(0, .p false [.c (.sl 75 4 (List.map eRule append_0))]), (3, .p false [.c (.int .i64 ((i67 : Nat) : Int))]), (4, .p false [.row 0]), (5, .p false [.c (.int .i64 ((i : Nat) : Int))])] [.row 9 1 (List.map eStr v70) 2] st) [] [224] (by decide) ?_ ?_ ?_
      · simp only [go_sem, Int.reduceLT, Int.reduceLE, Int.reduceBEq, Int.reduceBNe, Nat.reduceBNe, Nat.reduceAdd, Nat.reduceMul, Nat.reduceEqDiff, Nat.reduceLeDiff, Nat.reduceLT, Nat.reduceBEq, reduceCtorEq, reduceIte, IV, sts_cons, sts_nil, obs_cons, obs_nil, hx2, lt_t hx2, lt_p hx2, nat_in (lt_n hx2) hlhx2, c7, g5_0, g5_3]
      · rintro i90 x91 ⟨⟩ ⟨sl, ob, n⟩ y9 hx10 hI11 hW12 h hy9
        simp only [IV, sts_cons, sts_nil, obs_cons, obs_nil, and_true, true_and, Nat.reduceAdd, str_len] at hI11
        obtain ⟨⟨g13_0, g13_3, g13_4, g13_5⟩, og13_0, hn⟩ := hI11
        subst hn
        have hlhx10 := WF.elL (WF.slotD hW12 g13_0 (j := 0) rfl) hx2 (j := 2) rfl
        try simp only [go_sem, Int.reduceLT, Int.reduceLE, Int.reduceBEq, Int.reduceBNe, Nat.reduceBNe, Nat.reduceAdd, Nat.reduceMul, Nat.reduceEqDiff, Nat.reduceLeDiff, Nat.reduceLT, Nat.reduceBEq, reduceCtorEq, reduceIte, hx2, lt_t hx2, lt_p hx2, nat_in (lt_n hx2) hlhx2, c7, hx10, lt_t hx10, lt_p hx10, nat_in (lt_n hx10) hlhx10, g13_0, g13_3, g13_4, g13_5, og13_0]
        refine swp_for h (fun i _ st => IV [(0, .p false [.c (.sl 75 4 (List.map eRule append_0))]), (3, .p false [.c (.int .i64 ((i67 : Nat) : Int))]), (4, .p false [.row 0]), (5, .p false [.c (.int .i64 ((i90 : Nat) : Int))]), (6, .bp 1 0), (7, .p false [.c (.int .i64 ((i : Nat) : Int))])] [.row 9 1 (List.map eStr v70) 2, .box 120 [.c (.int .i64 x91.kind), .c (.str x91.pattern.rel), .c (.sl 9 1 (List.map eStr x91.pattern.args)), .c (.str x91.left), .c (.str x91.right)]] st) [] [0, 257] (by decide) ?_ ?_ ?_
        · simp only [go_sem, Int.reduceLT, Int.reduceLE, Int.reduceBEq, Int.reduceBNe, Nat.reduceBNe, Nat.reduceAdd, Nat.reduceMul, Nat.reduceEqDiff, Nat.reduceLeDiff, Nat.reduceLT, Nat.reduceBEq, reduceCtorEq, reduceIte, IV, sts_cons, sts_nil, obs_cons, obs_nil, hx2, lt_t hx2, lt_p hx2, nat_in (lt_n hx2) hlhx2, c7, hx10, lt_t hx10, lt_p hx10, nat_in (lt_n hx10) hlhx10, g13_0, g13_3, g13_4, g13_5, og13_0]
        · rintro i97 x98 ⟨⟩ ⟨sl, ob, n⟩ y14 hx15 hI16 hW17 h hy14
          simp only [IV, sts_cons, sts_nil, obs_cons, obs_nil, and_true, true_and, Nat.reduceAdd, str_len] at hI16
          obtain ⟨⟨g18_0, g18_3, g18_4, g18_5, g18_6, g18_7⟩, og18_0, og18_1, hn⟩ := hI16
          subst hn
          have hlhx15 := WF.rowL hW17 og18_0
          try simp only [go_sem, Int.reduceLT, Int.reduceLE, Int.reduceBEq, Int.reduceBNe, Nat.reduceBNe, Nat.reduceAdd, Nat.reduceMul, Nat.reduceEqDiff, Nat.reduceLeDiff, Nat.reduceLT, Nat.reduceBEq, reduceCtorEq, reduceIte, hx2, lt_t hx2, lt_p hx2, nat_in (lt_n hx2) hlhx2, c7, hx10, lt_t hx10, lt_p hx10, nat_in (lt_n hx10) hlhx10, hx15, lt_t hx15, lt_p hx15, nat_in (lt_n hx15) hlhx15, g18_0, g18_3, g18_4, g18_5, g18_6, g18_7, og18_0, og18_1]
          refine ite_K h (fun c19 h => ?_) (fun c19 h => ?_)
          · try simp only [go_sem, Int.reduceLT, Int.reduceLE, Int.reduceBEq, Int.reduceBNe, Nat.reduceBNe, Nat.reduceAdd, Nat.reduceMul, Nat.reduceEqDiff, Nat.reduceLeDiff, Nat.reduceLT, Nat.reduceBEq, reduceCtorEq, reduceIte, hx2, lt_t hx2, lt_p hx2, nat_in (lt_n hx2) hlhx2, c7, hx10, lt_t hx10, lt_p hx10, nat_in (lt_n hx10) hlhx10, hx15, lt_t hx15, lt_p hx15, nat_in (lt_n hx15) hlhx15, c19, g18_0, g18_3, g18_4, g18_5, g18_6, g18_7, og18_0, og18_1]
            refine ite_K h (fun c20 h => ?_) (fun c20 h => ?_)
            · replace h := inr_K h hy14
              replace h := inr_K h hy9
              replace h := inr_K h hy1
              obtain rfl := Option.some.inj h
              try simp only [go_sem, Int.reduceLT, Int.reduceLE, Int.reduceBEq, Int.reduceBNe, Nat.reduceBNe, Nat.reduceAdd, Nat.reduceMul, Nat.reduceEqDiff, Nat.reduceLeDiff, Nat.reduceLT, Nat.reduceBEq, reduceCtorEq, reduceIte, hx2, lt_t hx2, lt_p hx2, nat_in (lt_n hx2) hlhx2, c7, hx10, lt_t hx10, lt_p hx10, nat_in (lt_n hx10) hlhx10, hx15, lt_t hx15, lt_p hx15, nat_in (lt_n hx15) hlhx15, c19, c20, g18_0, g18_3, g18_4, g18_5, g18_6, g18_7, og18_0, og18_1]
            · try simp only [go_sem, Int.reduceLT, Int.reduceLE, Int.reduceBEq, Int.reduceBNe, Nat.reduceBNe, Nat.reduceAdd, Nat.reduceMul, Nat.reduceEqDiff, Nat.reduceLeDiff, Nat.reduceLT, Nat.reduceBEq, reduceCtorEq, reduceIte, hx2, lt_t hx2, lt_p hx2, nat_in (lt_n hx2) hlhx2, c7, hx10, lt_t hx10, lt_p hx10, nat_in (lt_n hx10) hlhx10, hx15, lt_t hx15, lt_p hx15, nat_in (lt_n hx15) hlhx15, c19, c20, g18_0, g18_3, g18_4, g18_5, g18_6, g18_7, og18_0, og18_1]
              obtain ⟨v99, e21, h⟩ := bind_K h
              refine call_K (by first | exact s_RelDepends_ok e21 | simpa only [go_sem, Int.reduceLT, Int.reduceLE, Int.reduceBEq, Int.reduceBNe, Nat.reduceBNe, Nat.reduceAdd, Nat.reduceMul, Nat.reduceEqDiff, Nat.reduceLeDiff, Nat.reduceLT, Nat.reduceBEq, reduceCtorEq, reduceIte, hx2, lt_t hx2, lt_p hx2, nat_in (lt_n hx2) hlhx2, c7, hx10, lt_t hx10, lt_p hx10, nat_in (lt_n hx10) hlhx10, hx15, lt_t hx15, lt_p hx15, nat_in (lt_n hx15) hlhx15, c19, c20, g18_0, g18_3, g18_4, g18_5, g18_6, g18_7, og18_0, og18_1] using s_RelDepends_ok e21) ?_
              try simp only [go_sem, Int.reduceLT, Int.reduceLE, Int.reduceBEq, Int.reduceBNe, Nat.reduceBNe, Nat.reduceAdd, Nat.reduceMul, Nat.reduceEqDiff, Nat.reduceLeDiff, Nat.reduceLT, Nat.reduceBEq, reduceCtorEq, reduceIte, hx2, lt_t hx2, lt_p hx2, nat_in (lt_n hx2) hlhx2, c7, hx10, lt_t hx10, lt_p hx10, nat_in (lt_n hx10) hlhx10, hx15, lt_t hx15, lt_p hx15, nat_in (lt_n hx15) hlhx15, c19, c20, g18_0, g18_3, g18_4, g18_5, g18_6, g18_7, og18_0, og18_1]
              refine ite_K h (fun c22 h => ?_) (fun c22 h => ?_)
              · replace h := inr_K h hy14
                replace h := inr_K h hy9
                replace h := inr_K h hy1
                obtain rfl := Option.some.inj h
                try simp only [go_sem, Int.reduceLT, Int.reduceLE, Int.reduceBEq, Int.reduceBNe, Nat.reduceBNe, Nat.reduceAdd, Nat.reduceMul, Nat.reduceEqDiff, Nat.reduceLeDiff, Nat.reduceLT, Nat.reduceBEq, reduceCtorEq, reduceIte, hx2, lt_t hx2, lt_p hx2, nat_in (lt_n hx2) hlhx2, c7, hx10, lt_t hx10, lt_p hx10, nat_in (lt_n hx10) hlhx10, hx15, lt_t hx15, lt_p hx15, nat_in (lt_n hx15) hlhx15, c19, c20, c22, g18_0, g18_3, g18_4, g18_5, g18_6, g18_7, og18_0, og18_1]
              · try simp only [go_sem, Int.reduceLT, Int.reduceLE, Int.reduceBEq, Int.reduceBNe, Nat.reduceBNe, Nat.reduceAdd, Nat.reduceMul, Nat.reduceEqDiff, Nat.reduceLeDiff, Nat.reduceLT, Nat.reduceBEq, reduceCtorEq, reduceIte, hx2, lt_t hx2, lt_p hx2, nat_in (lt_n hx2) hlhx2, c7, hx10, lt_t hx10, lt_p hx10, nat_in (lt_n hx10) hlhx10, hx15, lt_t hx15, lt_p hx15, nat_in (lt_n hx15) hlhx15, c19, c20, c22, g18_0, g18_3, g18_4, g18_5, g18_6, g18_7, og18_0, og18_1]
                refine ⟨_, [], [0, 1], (Option.some.inj h).symm, by decide, ?_⟩
                try simp only [go_sem, Int.reduceLT, Int.reduceLE, Int.reduceBEq, Int.reduceBNe, Nat.reduceBNe, Nat.reduceAdd, Nat.reduceMul, Nat.reduceEqDiff, Nat.reduceLeDiff, Nat.reduceLT, Nat.reduceBEq, reduceCtorEq, reduceIte, hx2, lt_t hx2, lt_p hx2, nat_in (lt_n hx2) hlhx2, c7, hx10, lt_t hx10, lt_p hx10, nat_in (lt_n hx10) hlhx10, hx15, lt_t hx15, lt_p hx15, nat_in (lt_n hx15) hlhx15, c19, c20, c22, g18_0, g18_3, g18_4, g18_5, g18_6, g18_7, og18_0, og18_1, IV, sts_cons, sts_nil, obs_cons, obs_nil]
          · replace h := inr_K h hy14
            try simp only [go_sem, Int.reduceLT, Int.reduceLE, Int.reduceBEq, Int.reduceBNe, Nat.reduceBNe, Nat.reduceAdd, Nat.reduceMul, Nat.reduceEqDiff, Nat.reduceLeDiff, Nat.reduceLT, Nat.reduceBEq, reduceCtorEq, reduceIte, hx2, lt_t hx2, lt_p hx2, nat_in (lt_n hx2) hlhx2, c7, hx10, lt_t hx10, lt_p hx10, nat_in (lt_n hx10) hlhx10, hx15, lt_t hx15, lt_p hx15, nat_in (lt_n hx15) hlhx15, c19, g18_0, g18_3, g18_4, g18_5, g18_6, g18_7, og18_0, og18_1]
            refine ⟨_, [], [0], (Option.some.inj h).symm, by decide, ?_⟩
            try simp only [go_sem, Int.reduceLT, Int.reduceLE, Int.reduceBEq, Int.reduceBNe, Nat.reduceBNe, Nat.reduceAdd, Nat.reduceMul, Nat.reduceEqDiff, Nat.reduceLeDiff, Nat.reduceLT, Nat.reduceBEq, reduceCtorEq, reduceIte, hx2, lt_t hx2, lt_p hx2, nat_in (lt_n hx2) hlhx2, c7, hx10, lt_t hx10, lt_p hx10, nat_in (lt_n hx10) hlhx10, hx15, lt_t hx15, lt_p hx15, nat_in (lt_n hx15) hlhx15, c19, g18_0, g18_3, g18_4, g18_5, g18_6, g18_7, og18_0, og18_1, IV, sts_cons, sts_nil, obs_cons, obs_nil]
        · rintro ⟨⟩ ⟨sl, ob, n⟩ hI23 hW24 h
          simp only [IV, sts_cons, sts_nil, obs_cons, obs_nil, and_true, true_and, Nat.reduceAdd, str_len] at hI23
          obtain ⟨⟨g25_0, g25_3, g25_4, g25_5, g25_6, g25_7⟩, og25_0, og25_1, hn⟩ := hI23
          subst hn
          try simp only [go_sem, Int.reduceLT, Int.reduceLE, Int.reduceBEq, Int.reduceBNe, Nat.reduceBNe, Nat.reduceAdd, Nat.reduceMul, Nat.reduceEqDiff, Nat.reduceLeDiff, Nat.reduceLT, Nat.reduceBEq, reduceCtorEq, reduceIte, hx2, lt_t hx2, lt_p hx2, nat_in (lt_n hx2) hlhx2, c7, hx10, lt_t hx10, lt_p hx10, nat_in (lt_n hx10) hlhx10, lt_f (v70.length), g25_0, g25_3, g25_4, g25_5, g25_6, g25_7, og25_0, og25_1]
          refine ⟨_, [], [0], (Option.some.inj h).symm, by decide, ?_⟩
          try simp only [go_sem, Int.reduceLT, Int.reduceLE, Int.reduceBEq, Int.reduceBNe, Nat.reduceBNe, Nat.reduceAdd, Nat.reduceMul, Nat.reduceEqDiff, Nat.reduceLeDiff, Nat.reduceLT, Nat.reduceBEq, reduceCtorEq, reduceIte, hx2, lt_t hx2, lt_p hx2, nat_in (lt_n hx2) hlhx2, c7, hx10, lt_t hx10, lt_p hx10, nat_in (lt_n hx10) hlhx10, lt_f (v70.length), g25_0, g25_3, g25_4, g25_5, g25_6, g25_7, og25_0, og25_1, IV, sts_cons, sts_nil, obs_cons, obs_nil]
      · rintro ⟨⟩ ⟨sl, ob, n⟩ hI26 hW27 h
        simp only [IV, sts_cons, sts_nil, obs_cons, obs_nil, and_true, true_and, Nat.reduceAdd, str_len] at hI26
        obtain ⟨⟨g28_0, g28_3, g28_4, g28_5⟩, og28_0, hn⟩ := hI26
        subst hn
        try simp only [go_sem, Int.reduceLT, Int.reduceLE, Int.reduceBEq, Int.reduceBNe, Nat.reduceBNe, Nat.reduceAdd, Nat.reduceMul, Nat.reduceEqDiff, Nat.reduceLeDiff, Nat.reduceLT, Nat.reduceBEq, reduceCtorEq, reduceIte, hx2, lt_t hx2, lt_p hx2, nat_in (lt_n hx2) hlhx2, c7, lt_f (x68.cond.length), g28_0, g28_3, g28_4, g28_5, og28_0]
        refine ⟨_, [], [], (Option.some.inj h).symm, by decide, ?_⟩
        try simp only [go_sem, Int.reduceLT, Int.reduceLE, Int.reduceBEq, Int.reduceBNe, Nat.reduceBNe, Nat.reduceAdd, Nat.reduceMul, Nat.reduceEqDiff, Nat.reduceLeDiff, Nat.reduceLT, Nat.reduceBEq, reduceCtorEq, reduceIte, hx2, lt_t hx2, lt_p hx2, nat_in (lt_n hx2) hlhx2, c7, lt_f (x68.cond.length), g28_0, g28_3, g28_4, g28_5, og28_0, IV, sts_cons, sts_nil, obs_cons, obs_nil]
    · replace h := inr_K h hy1
      obtain rfl := Option.some.inj h
      try simp only [go_sem, Int.reduceLT, Int.reduceLE, Int.reduceBEq, Int.reduceBNe, Nat.reduceBNe, Nat.reduceAdd, Nat.reduceMul, Nat.reduceEqDiff, Nat.reduceLeDiff, Nat.reduceLT, Nat.reduceBEq, reduceCtorEq, reduceIte, hx2, lt_t hx2, lt_p hx2, nat_in (lt_n hx2) hlhx2, c7, g5_0, g5_3]
  · rintro ⟨⟩ ⟨sl, ob, n⟩ hI29 hW30 h
    simp only [IV, sts_cons, sts_nil, obs_cons, obs_nil, and_true, true_and, Nat.reduceAdd, str_len] at hI29
    obtain ⟨⟨g31_0, g31_3⟩, hn⟩ := hI29
    subst hn
    try simp only [go_sem, Int.reduceLT, Int.reduceLE, Int.reduceBEq, Int.reduceBNe, Nat.reduceBNe, Nat.reduceAdd, Nat.reduceMul, Nat.reduceEqDiff, Nat.reduceLeDiff, Nat.reduceLT, Nat.reduceBEq, reduceCtorEq, reduceIte, lt_f (append_0.length), g31_0, g31_3]
    obtain ⟨v100, e32, h⟩ := bind_K h
    refine call_K (by first | exact s_AreRules_ok e32 | simpa only [go_sem, Int.reduceLT, Int.reduceLE, Int.reduceBEq, Int.reduceBNe, Nat.reduceBNe, Nat.reduceAdd, Nat.reduceMul, Nat.reduceEqDiff, Nat.reduceLeDiff, Nat.reduceLT, Nat.reduceBEq, reduceCtorEq, reduceIte, lt_f (append_0.length), g31_0, g31_3] using s_AreRules_ok e32) ?_
    obtain rfl := Option.some.inj h
    try simp only [go_sem, Int.reduceLT, Int.reduceLE, Int.reduceBEq, Int.reduceBNe, Nat.reduceBNe, Nat.reduceAdd, Nat.reduceMul, Nat.reduceEqDiff, Nat.reduceLeDiff, Nat.reduceLT, Nat.reduceBEq, reduceCtorEq, reduceIte, lt_f (append_0.length), g31_0, g31_3]
end Go.Proofs.Ytccbhhglghboaaa

namespace Go.Proofs.Ytccbhhglghboaaa
open Go.RowKit
/-- a codec and trees say the same -/
structure Enc {α : Type} (c : Codec α) (f : α → List CT) : Prop where
  to : ∀ {w : World} {cs : List Value} {x : α} {L : List Nat}, c.rep w cs x L → RCs w (f x) cs L
  of : ∀ {w : World} {cs : List Value} {x : α} {L : List Nat}, RCs w (f x) cs L → c.rep w cs x L
section
variable {α : Type} {c : Codec α} {f : α → List CT} {w : World}
theorem Enc.reps (h : Enc c f) : ∀ {ds : List α} {xs : List Value} {L : List Nat}, c.reps w xs ds L → REs w c.size (ds.map f) xs L
  | [], _, _, h1 => h1
  | _ :: _, _, _, ⟨c1, c2, L1, L2, h1, h2, h3, h4⟩ => ⟨c1, c2, L1, L2, h1, h2, ⟨h.to h3, c.len h3⟩, h.reps h4⟩
theorem Enc.reps_of (h : Enc c f) : ∀ {ds : List α} {xs : List Value} {L : List Nat}, REs w c.size (ds.map f) xs L → c.reps w xs ds L
  | [], _, _, h1 => h1
  | _ :: _, _, _, ⟨c1, c2, L1, L2, h1, h2, h3, h4⟩ => ⟨c1, c2, L1, L2, h1, h2, h.of h3.1, h.reps_of h4⟩
theorem Enc.sl (h : Enc c f) (e : Nat) {v : Value} {ds : List α} {L : List Nat} : (sliceC c).rep w [v] ds L ↔ RC w (.sl e c.size (ds.map f)) v L := by
  constructor
  · rintro ⟨A, cap, hv, h1, h2, xs, L0, L1, hL, h3, h4⟩
    obtain rfl : v = _ := by simpa using hv
    exact ⟨A, cap, xs, L0, L1, by simp, by simpa using h1, h2, hL, c.pos, by simpa using h3, h.reps h4⟩
  · rintro ⟨A, cap, xs, L0, L1, hv, h1, h2, hL, h0, h3, h4⟩
    exact ⟨A, cap, by simpa using hv, by simpa using h1, h2, xs, L0, L1, hL, by simpa using h3, h.reps_of h4⟩
theorem RCs.solo {x : CT} {v : Value} {L : List Nat} (h : RC w x v L) : RCs w [x] [v] L := ⟨v, [], L, [], rfl, by simp, h, rfl, rfl⟩
theorem RCs.more {x : CT} {v : Value} {L M : List Nat} {r : List CT} {cs : List Value} (h : RC w x v L) (k : RCs w r cs M) : RCs w (x :: r) (v :: cs) (L ++ M) := ⟨v, cs, L, M, rfl, rfl, h, k⟩
theorem Enc.slice (h : Enc c f) (e : Nat) : Enc (sliceC c) (fun l => [.sl e c.size (l.map f)]) where
  to := fun {w cs x L} hr => by
    obtain ⟨A, cap, rfl, h1⟩ := id hr
    exact RCs.solo ((h.sl e).1 hr)
  of := fun {w cs x L} hr => by
    obtain ⟨v, cs', L1, L2, rfl, rfl, h1, rfl, rfl⟩ := hr
    rw [List.append_nil]
    exact (h.sl e).2 h1
end
theorem encInt : Enc intC eInt where
  to := fun ⟨h1, h2⟩ => by subst h1; subst h2; exact RCs.solo ⟨rfl, rfl⟩
  of := fun ⟨v, cs', L1, L2, h1, h2, h3, h4, h5⟩ => by
    obtain ⟨rfl, rfl⟩ := h3
    subst h4; subst h5; exact ⟨h1, h2⟩
theorem encByte : Enc byteC eByte where
  to := fun ⟨h1, h2⟩ => by subst h1; subst h2; exact RCs.solo ⟨rfl, rfl⟩
  of := fun ⟨v, cs', L1, L2, h1, h2, h3, h4, h5⟩ => by
    obtain ⟨rfl, rfl⟩ := h3
    subst h4; subst h5; exact ⟨h1, h2⟩
theorem encBool : Enc boolC eBool where
  to := fun ⟨h1, h2⟩ => by subst h1; subst h2; exact RCs.solo ⟨rfl, rfl⟩
  of := fun ⟨v, cs', L1, L2, h1, h2, h3, h4, h5⟩ => by
    obtain ⟨rfl, rfl⟩ := h3
    subst h4; subst h5; exact ⟨h1, h2⟩
theorem encStr : Enc strC eStr where
  to := fun ⟨h1, h2, h3⟩ => by subst h1; subst h2; exact RCs.solo ⟨rfl, rfl, h3⟩
  of := fun ⟨v, cs', L1, L2, h1, h2, h3, h4, h5⟩ => by
    obtain ⟨rfl, rfl, t⟩ := h3
    subst h4; subst h5; exact ⟨h1, h2, t⟩
/-- an argument; nothing is written to in the meantime -/
def Arg0 (w : World) : Bool × List CT → Value → Prop := ArgR w fun _ => False
theorem arg_sl {α : Type} {c : Codec α} {f : α → List CT} (h : Enc c f) (e : Nat) {w : World} {v : Value} {ds : List α} {L : List Nat} (hr : (sliceC c).rep w [v] ds L) : Arg0 w (false, [.sl e c.size (ds.map f)]) v := .inr ⟨rfl, _, L, rfl, (h.sl e).1 hr, fun _ _ h => h⟩
theorem arg_int (w : World) (n : Int) : Arg0 w (false, [.int .i64 n]) (.int .i64 n) := .inr ⟨rfl, _, [], rfl, ⟨rfl, rfl⟩, fun _ _ h => h⟩
theorem arg_bool (w : World) (b : Bool) : Arg0 w (false, [.bool b]) (.bool b) := .inr ⟨rfl, _, [], rfl, ⟨rfl, rfl⟩, fun _ _ h => h⟩
theorem arg_str (w : World) (s : ByteArray) (h : s.size ≤ 9223372036854775807) : Arg0 w (false, [.str s]) (.string s) := .inr ⟨rfl, _, [], rfl, ⟨rfl, rfl, h⟩, fun _ _ h => h⟩
theorem arg_agg {α : Type} {c : Codec α} {f : α → List CT} (h : Enc c f) {w : World} {vs : List Value} {x : α} {L : List Nat} (hr : c.rep w vs x L) : Arg0 w (true, f x) (.agg vs.toArray) := .inl ⟨rfl, vs, L, rfl, h.to hr, fun _ _ h => h⟩
section
variable {w w' : World} {v : Value} {e : Ending}
theorem res_one {B : Nat} {n : Nat → Prop} {x : RT} (h : ResR w B n [x] v) : ∃ F, OP w B n x v F ∧ Own w B F := by
  obtain ⟨vs, F, ⟨u, vs', F1, F2, rfl, rfl, h1, rfl, rfl⟩, h2, rfl⟩ := h
  rw [List.append_nil] at h2
  exact ⟨F1, by simpa using h1, h2⟩
theorem res_sl {α : Type} {c : Codec α} {f : α → List CT} (h : Enc c f) {t : Nat} {ds : List α} {n : Nat → Prop} (hr : ResR w' w.heap.size n [(false, [(false, .sl t c.size (ds.map f))])] v) (hb : Below w.heap.size w w') : AccC c t w v ds w' := by
  obtain ⟨F, h1, h2⟩ := res_one hr
  rcases h1 with ⟨h1, _⟩ | ⟨_, ct, h1, h3⟩
  · simp at h1
  · obtain rfl : _ = ct := by simpa using h1
    obtain ⟨_, cs, L, h4, h5, rfl, _⟩ := h3
    exact ⟨⟨cs, L, by simpa using h4, h.reps_of h5, h2⟩, hb⟩
theorem res_int {n : Int} {B : Nat} {m : Nat → Prop} (hr : ResR w B m [(false, [(false, .int .i64 n)])] v) : v = .int .i64 n := by
  obtain ⟨F, h1, h2⟩ := res_one hr
  rcases h1 with ⟨h1, _⟩ | ⟨_, ct, h1, h3⟩
  · simp at h1
  · obtain rfl : _ = ct := by simpa using h1
    exact h3.1.1
theorem res_bool {b : Bool} {B : Nat} {m : Nat → Prop} (hr : ResR w B m [(false, [(false, .bool b)])] v) : v = .bool b := by
  obtain ⟨F, h1, h2⟩ := res_one hr
  rcases h1 with ⟨h1, _⟩ | ⟨_, ct, h1, h3⟩
  · simp at h1
  · obtain rfl : _ = ct := by simpa using h1
    exact h3.1.1
theorem res_str {s : ByteArray} {B : Nat} {m : Nat → Prop} (hr : ResR w B m [(false, [(false, .str s)])] v) : v = .string s := by
  obtain ⟨F, h1, h2⟩ := res_one hr
  rcases h1 with ⟨h1, _⟩ | ⟨_, ct, h1, h3⟩
  · simp at h1
  · obtain rfl : _ = ct := by simpa using h1
    exact h3.1.1
/-- a slice that is only lent: what it leads to lies in the world -/
theorem res_lent {α : Type} {c : Codec α} {f : α → List CT} (h : Enc c f) {t B : Nat} {ds : List α} {n : Nat → Prop} (hr : ResR w B n [(false, [(true, .sl t c.size (ds.map f))])] v) : ∃ L, (sliceC c).rep w [v] ds L := by
  obtain ⟨F, h1, h2⟩ := res_one hr
  rcases h1 with ⟨h1, _⟩ | ⟨_, ct, h1, h3⟩
  · simp at h1
  · obtain rfl : _ = ct := by simpa using h1
    obtain ⟨_, L, h4, _⟩ := h3
    exact ⟨L, (h.sl t).2 h4⟩
end
section
variable {P : Program} {J : World → Prop} {f : FuncId} {args : List (Bool × List CT)} {res : List RT}
theorem Sound.calls (h : Sound P J f args res) {w : World} {vs : List Value} (hj : J w) (ha : All2 (Arg0 w) args vs) : Calls P f vs.toArray w fun e w' => ∃ v n, e = .returned v ∧ ResR w' w.heap.size n res v ∧ Below w.heap.size w w' :=
  (h.2 w (fun _ => False) vs hj (fun _ h => h.elim) ha).mono fun _ _ ⟨v, n, h1, h2, _, h3⟩ => ⟨v, n, h1, h2, h3⟩
/-- a slice as the result -/
theorem Sound.givesS {α : Type} {c : Codec α} {g : α → List CT} {t : Nat} {ds : List α} (h : Sound P J f args [(false, [(false, .sl t c.size (ds.map g))])]) (hg : Enc c g) {w : World} {vs : List Value} (hj : J w) (ha : All2 (Arg0 w) args vs) : Calls P f vs.toArray w (GivesS c t w ds) :=
  (h.calls hj ha).mono fun _ _ ⟨v, _, h1, h2, h3⟩ => ⟨v, h1, res_sl hg h2 h3⟩
theorem Sound.givesB {b : Bool} (h : Sound P J f args [(false, [(false, .bool b)])]) {w : World} {vs : List Value} (hj : J w) (ha : All2 (Arg0 w) args vs) : Calls P f vs.toArray w fun e w' => e = .returned (.bool b) ∧ Below w.heap.size w w' :=
  (h.calls hj ha).mono fun _ _ ⟨v, _, h1, h2, h3⟩ => ⟨by rw [h1, res_bool h2], h3⟩
theorem Sound.givesI {b : Int} (h : Sound P J f args [(false, [(false, .int .i64 b)])]) {w : World} {vs : List Value} (hj : J w) (ha : All2 (Arg0 w) args vs) : Calls P f vs.toArray w fun e w' => e = .returned (.int .i64 b) ∧ Below w.heap.size w w' :=
  (h.calls hj ha).mono fun _ _ ⟨v, _, h1, h2, h3⟩ => ⟨by rw [h1, res_int h2], h3⟩
theorem Sound.givesT {b : ByteArray} (h : Sound P J f args [(false, [(false, .str b)])]) {w : World} {vs : List Value} (hj : J w) (ha : All2 (Arg0 w) args vs) : Calls P f vs.toArray w fun e w' => e = .returned (.string b) ∧ Below w.heap.size w w' :=
  (h.calls hj ha).mono fun _ _ ⟨v, _, h1, h2, h3⟩ => ⟨by rw [h1, res_str h2], h3⟩
end
end Go.Proofs.Ytccbhhglghboaaa

namespace Go.Proofs.Ytccbhhglghboaaa
theorem encCond : Enc cCond eCond where
  to := fun {w cs x L} h => by
    obtain ⟨A1, c1, L1, rfl, rfl, t0, t1, t2, n1, m1, s1⟩ := h
    have hh : RCs w (eCond x) _ _ := RCs.more ⟨rfl, rfl⟩ (RCs.more ⟨rfl, rfl, t0⟩ (RCs.more ((encStr.sl 9).1 ⟨A1, c1, rfl, n1, m1, s1⟩) (RCs.more ⟨rfl, rfl, t1⟩ (RCs.solo ⟨rfl, rfl, t2⟩))))
    simpa only [List.nil_append, List.append_nil, List.append_assoc] using hh
  of := fun {w cs x L} h => by
    obtain ⟨v0, r0, K0, M0, rfl, rfl, h0, v1, r1, K1, M1, rfl, rfl, h1, v2, r2, K2, M2, rfl, rfl, h2, v3, r3, K3, M3, rfl, rfl, h3, v4, r4, K4, M4, rfl, rfl, h4, rfl, rfl⟩ := h
    obtain ⟨rfl, rfl⟩ := h0
    obtain ⟨rfl, rfl, t0⟩ := h1
    obtain ⟨A1, c1, e1, n1, m1, s1⟩ := (encStr.sl 9).2 h2
    cases e1
    obtain ⟨rfl, rfl, t1⟩ := h3
    obtain ⟨rfl, rfl, t2⟩ := h4
    exact ⟨A1, c1, _, rfl, by simp only [List.nil_append, List.append_nil, List.append_assoc], t0, t1, t2, n1, m1, s1⟩
theorem encAction : Enc cAction eAction where
  to := fun {w cs x L} h => by
    obtain ⟨A1, c1, L1, rfl, rfl, t0, n1, m1, s1⟩ := h
    have hh : RCs w (eAction x) _ _ := RCs.more ⟨rfl, rfl⟩ (RCs.more ⟨rfl, rfl, t0⟩ (RCs.solo ((encStr.sl 9).1 ⟨A1, c1, rfl, n1, m1, s1⟩)))
    simpa only [List.nil_append, List.append_nil, List.append_assoc] using hh
  of := fun {w cs x L} h => by
    obtain ⟨v0, r0, K0, M0, rfl, rfl, h0, v1, r1, K1, M1, rfl, rfl, h1, v2, r2, K2, M2, rfl, rfl, h2, rfl, rfl⟩ := h
    obtain ⟨rfl, rfl⟩ := h0
    obtain ⟨rfl, rfl, t0⟩ := h1
    obtain ⟨A1, c1, e1, n1, m1, s1⟩ := (encStr.sl 9).2 h2
    cases e1
    exact ⟨A1, c1, _, rfl, by simp only [List.nil_append, List.append_nil, List.append_assoc], t0, n1, m1, s1⟩
theorem encRule : Enc cRule eRule where
  to := fun {w cs x L} h => by
    obtain ⟨A1, c1, L1, A2, c2, L2, rfl, rfl, t0, n1, m1, s1, n2, m2, s2⟩ := h
    have hh : RCs w (eRule x) _ _ := RCs.more ⟨rfl, rfl, t0⟩ (RCs.more ⟨rfl, rfl⟩ (RCs.more ((encCond.sl 120).1 ⟨A1, c1, rfl, n1, m1, s1⟩) (RCs.solo ((encAction.sl 128).1 ⟨A2, c2, rfl, n2, m2, s2⟩))))
    simpa only [List.nil_append, List.append_nil, List.append_assoc] using hh
  of := fun {w cs x L} h => by
    obtain ⟨v0, r0, K0, M0, rfl, rfl, h0, v1, r1, K1, M1, rfl, rfl, h1, v2, r2, K2, M2, rfl, rfl, h2, v3, r3, K3, M3, rfl, rfl, h3, rfl, rfl⟩ := h
    obtain ⟨rfl, rfl, t0⟩ := h0
    obtain ⟨rfl, rfl⟩ := h1
    obtain ⟨A1, c1, e1, n1, m1, s1⟩ := (encCond.sl 120).2 h2
    cases e1
    obtain ⟨A2, c2, e2, n2, m2, s2⟩ := (encAction.sl 128).2 h3
    cases e2
    exact ⟨A1, c1, _, A2, c2, _, rfl, by simp only [List.nil_append, List.append_nil, List.append_assoc], t0, n1, m1, s1, n2, m2, s2⟩
end Go.Proofs.Ytccbhhglghboaaa

namespace Go.Proofs.Ytccbhhglghboaaa
open Go.RowKit

set_option maxHeartbeats 400000 in
theorem szStringS_any (A : Option Addr) (n c : Nat) (ds : List ByteArray) (L : List Nat) (left : Int) (w : World) (hn : n = ds.length) (hm : n ≤ 9223372036854775807) (h0 : 0 ≤ left) (h1 : left ≤ 1048576) (h : Sli strC w A ds L) :
    Calls Try.prog 156 #[.slice A n c, .int .i64 left] w (SzPost (costStrs ds) left w) := by
  have H := Lib.hid h
  have HN := Lib.hid hn
  clear h hn
  by_cases hlen : (n : Int) ≤ left
  · go_enter Try.func156, Try.ntmps156
    go_wp2
    go_loop [1, 5] (fun q i => ∃ (k : Nat) (l : Int), k ≤ n ∧ i = .int .i64 k ∧ q = .int .i64 l ∧ 0 ≤ l ∧ l ≤ left ∧ Hid (szR ((ds.drop k).map ByteArray.size).sum l = szR (costStrs ds) left)) (fun _ i => n - (intOf i).toNat)
    case atStart => exact ⟨0, left - n, Nat.zero_le _, rfl, rfl, by omega, by omega, Lib.hid (by
        have e := HN.out
        exact szR_step _ _ _ _ (by omega) (by simp [costStrs]; omega))⟩
    case round =>
      obtain ⟨k, l, hk, rfl, rfl, hl0, hl1, HE⟩ := hrel
      by_cases hlt : k < n
      · obtain ⟨b, off, cs, Lk, rfl, _, _, hrep, hc⟩ := H.out.at_ (show k < ds.length by have := HN.out; omega)
        obtain ⟨rfl, _, hss⟩ := str_rep hrep
        have hc0 := hc 0 _ rfl
        clear hc hrep
        have hd : Hid (ds.drop k = ds[k]'(by have := HN.out; omega) :: ds.drop (k + 1)) := List.drop_eq_getElem_cons _
        generalize ds[k]'(by have := HN.out; omega) = s at hc0 hd hss
        simp only [show strC.size = 1 from rfl, Nat.mul_one, Nat.add_zero] at hc0
        by_cases hs : (s.size : Int) ≤ l
        · go_wp2
          go_round
          case rel => exact ⟨k + 1, l - s.size, by omega, by go_num, rfl, by omega, by omega, Lib.hid (by rw [← HE.out, hd.out]; exact szR_step _ _ _ _ (by omega) (by simp))⟩
          case measure => simp [intOf]; omega
        · go_wp2
          go_ret
          exact ⟨ret_i (by rw [← HE.out, hd.out, szR_neg (by simp; omega)]), Below.refl _ _⟩
      · go_wp2
        go_ret
        exact ⟨ret_i (by rw [← HE.out, List.drop_of_length_le (by have := HN.out; omega)]; simp [szR, hl0]), Below.refl _ _⟩
  · go_enter Try.func156, Try.ntmps156
    go_wp2
    go_ret
    exact ⟨ret_i (by rw [szR_neg (by have := HN.out; simp [costStrs]; omega)]), Below.refl _ _⟩

set_option maxHeartbeats 800000 in
theorem szPattern_any (cs : List Value) (x : PatternD) (L : List Nat) (left : Int) (w : World) (h0 : 0 ≤ left) (h1 : left ≤ 1048576) (h : cPattern.rep w cs x L) :
    Calls Try.prog 127 #[.agg cs.toArray, .int .i64 left] w (SzPost (costPattern x) left w) := by
  obtain ⟨A1, c1, L1, rfl, _hL, t0, n1, m1, s1⟩ := h
  unfold maxLen at m1
  have S1 := Lib.hid s1
  clear s1
  have B0 : Hid (Below w.heap.size w (w.alloc (.cells #[.string x.rel, .slice A1 x.args.length c1] 114))) := (Below.refl _ _).alloc (Nat.le_refl _) _
  have K0 : Hid (Blk (w.alloc (.cells #[.string x.rel, .slice A1 x.args.length c1] 114)) w.heap.size 114 #[.string x.rel, .slice A1 x.args.length c1]) := Blk.new _ _ _
  go_enter Try.func127, Try.ntmps127
  by_cases k1 : (x.rel.size : Int) ≤ left
  rotate_left
  · go_wp2_with fail
    go_ret
    exact ⟨ret_i (by rw [szR_neg (by simp only [costPattern]; omega)]), B0.out⟩
  go_wp2_with fail
  refine (szStringS_any A1 _ c1 x.args L1 _ _ rfl (by omega) (by omega) (by omega) (S1.out.below B0.out)).mono ?_
  rintro e w1 ⟨rfl, hb1⟩
  have B1 := Lib.hid (B0.out.trans (hb1.mono B0.out.size))
  have K1 := Lib.hid (K0.out.later hb1)
  have f0 := K1.out.at (i := 0) rfl
  have f1 := K1.out.at (i := 1) rfl
  clear hb1
  by_cases k2 : ((costStrs x.args : Nat) : Int) ≤ left - x.rel.size
  rotate_left
  · rw [szR_neg k2]
    go_wp2_with fail
    go_ret
    exact ⟨ret_i (by rw [szR_neg (by simp only [costPattern]; omega)]), B1.out⟩
  rw [szR_pos k2]
  go_wp2_with fail
  go_ret
  exact ⟨ret_i (by rw [szR_pos (by simp only [costPattern]; omega)] <;> simp only [costPattern] <;> omega), B1.out⟩

set_option maxHeartbeats 800000 in
theorem szCond_any (cs : List Value) (x : CondD) (L : List Nat) (left : Int) (w : World) (h0 : 0 ≤ left) (h1 : left ≤ 1048576) (h : cCond.rep w cs x L) :
    Calls Try.prog 77 #[.agg cs.toArray, .int .i64 left] w (SzPost (costCond x) left w) := by
  obtain ⟨A1, c1, L1, rfl, _hL, t0, t1, t2, n1, m1, s1⟩ := h
  unfold maxLen at m1
  have S1 := Lib.hid s1
  clear s1
  have B0 : Hid (Below w.heap.size w (w.alloc (.cells #[.int .i64 x.kind, .string x.pattern.rel, .slice A1 x.pattern.args.length c1, .string x.left, .string x.right] 116))) := (Below.refl _ _).alloc (Nat.le_refl _) _
  have K0 : Hid (Blk (w.alloc (.cells #[.int .i64 x.kind, .string x.pattern.rel, .slice A1 x.pattern.args.length c1, .string x.left, .string x.right] 116)) w.heap.size 116 #[.int .i64 x.kind, .string x.pattern.rel, .slice A1 x.pattern.args.length c1, .string x.left, .string x.right]) := Blk.new _ _ _
  go_enter Try.func77, Try.ntmps77
  go_wp2_with fail
  refine (szPattern_any [.string x.pattern.rel, .slice A1 x.pattern.args.length c1] x.pattern _ _ _ (by omega) (by omega) ⟨A1, c1, L1, rfl, rfl, t0, n1, (by unfold maxLen; omega), S1.out.below B0.out⟩).mono ?_
  rintro e w1 ⟨rfl, hb1⟩
  have B1 := Lib.hid (B0.out.trans (hb1.mono B0.out.size))
  have K1 := Lib.hid (K0.out.later hb1)
  have f0 := K1.out.at (i := 0) rfl
  have f1 := K1.out.at (i := 1) rfl
  have f2 := K1.out.at (i := 2) rfl
  have f3 := K1.out.at (i := 3) rfl
  have f4 := K1.out.at (i := 4) rfl
  clear hb1
  by_cases k1 : ((costPattern x.pattern : Nat) : Int) ≤ left
  rotate_left
  · rw [szR_neg k1]
    go_wp2_with fail
    go_ret
    exact ⟨ret_i (by rw [szR_neg (by simp only [costCond]; omega)]), B1.out⟩
  rw [szR_pos k1]
  by_cases k2 : (x.left.size : Int) ≤ left - (costPattern x.pattern : Nat)
  rotate_left
  · go_wp2_with fail
    go_ret
    exact ⟨ret_i (by rw [szR_neg (by simp only [costCond]; omega)]), B1.out⟩
  by_cases k3 : (x.right.size : Int) ≤ left - (costPattern x.pattern : Nat) - x.left.size
  rotate_left
  · go_wp2_with fail
    go_ret
    exact ⟨ret_i (by rw [szR_neg (by simp only [costCond]; omega)]), B1.out⟩
  go_wp2_with fail
  go_ret
  exact ⟨ret_i (by rw [szR_pos (by simp only [costCond]; omega)] <;> simp only [costCond] <;> omega), B1.out⟩

set_option maxHeartbeats 800000 in
theorem szCondS_any (A : Option Addr) (n c : Nat) (ds : List CondD) (L : List Nat) (left : Int) (w : World) (hn : n = ds.length) (hm : n ≤ 9223372036854775807) (h0 : 0 ≤ left) (h1 : left ≤ 1048576) (h : Sli cCond w A ds L) :
    Calls Try.prog 34 #[.slice A n c, .int .i64 left] w (SzPost (costCondS ds) left w) := by
  have H := Lib.hid h
  have HN := Lib.hid hn
  clear h hn
  by_cases hlen : (n : Int) ≤ left
  · go_enter Try.func34, Try.ntmps34
    go_wp2
    go_loopw [1, 5] (fun q i wr => ∃ (k : Nat) (l : Int), k ≤ n ∧ i = .int .i64 k ∧ q = .int .i64 l ∧ 0 ≤ l ∧ l ≤ left ∧ Hid (Below w.heap.size w wr) ∧ Hid (szR ((ds.drop k).map costCond).sum l = szR (costCondS ds) left)) (fun _ i _ => n - (intOf i).toNat)
    case atStart => exact ⟨0, left - n, Nat.zero_le _, rfl, rfl, by omega, by omega, Below.refl _ _, Lib.hid (by
        have e := HN.out
        exact szR_step _ _ _ _ (by omega) (by simp only [costCondS, List.drop_zero]; omega))⟩
    case round =>
      obtain ⟨k, l, hk, rfl, rfl, hl0, hl1, HB, HE⟩ := hrel
      by_cases hlt : k < n
      · have hkl : k < ds.length := by have := HN.out; omega
        obtain ⟨b, off, cs, Lk, rfl, hbL, hLk, hrep, hc⟩ := H.out.at_ hkl
        have hbl : b < w.heap.size := H.out.lt b hbL
        have HR := Lib.hid (cCond.keep hrep (keep_below HB.out (fun y m => H.out.lt y (hLk y m))))
        obtain ⟨A1, c1, rfl⟩ := cCond_cells hrep
        have q0 : wr.cell? ⟨b, off + k * 5, none⟩ = _ := (HB.out.cell (p := ⟨b, off + (k * 5 + 0), none⟩) hbl).trans (hc 0 _ rfl)
        have q1 : wr.cell? ⟨b, off + k * 5 + 1, none⟩ = _ := (HB.out.cell (p := ⟨b, off + (k * 5 + 1), none⟩) hbl).trans (hc 1 _ rfl)
        have q2 : wr.cell? ⟨b, off + k * 5 + 2, none⟩ = _ := (HB.out.cell (p := ⟨b, off + (k * 5 + 2), none⟩) hbl).trans (hc 2 _ rfl)
        have q3 : wr.cell? ⟨b, off + k * 5 + 3, none⟩ = _ := (HB.out.cell (p := ⟨b, off + (k * 5 + 3), none⟩) hbl).trans (hc 3 _ rfl)
        have q4 : wr.cell? ⟨b, off + k * 5 + 4, none⟩ = _ := (HB.out.cell (p := ⟨b, off + (k * 5 + 4), none⟩) hbl).trans (hc 4 _ rfl)
        have hd : Hid (ds.drop k = ds[k] :: ds.drop (k + 1)) := List.drop_eq_getElem_cons _
        generalize ds[k] = x at *
        clear hc hrep
        by_cases hs : (costCond x : Int) ≤ l
        · go_wp2_with (go_at_call 77; refine (szCond_any _ x Lk _ _ (by omega) (by omega) HR.out).mono ?_; rintro e w1 ⟨rfl, hb1⟩; rw [szR_pos hs]; have HB1 := Lib.hid (HB.out.trans (hb1.mono HB.out.size)); clear hb1)
          go_roundw
          case rel => exact ⟨k + 1, l - costCond x, by omega, by go_num, rfl, by omega, by omega, HB1.out, Lib.hid (by rw [← HE.out, hd.out]; exact szR_step _ _ _ _ (by omega) (by simp))⟩
          case measure => simp [intOf]; omega
        · go_wp2_with (go_at_call 77; refine (szCond_any _ x Lk _ _ (by omega) (by omega) HR.out).mono ?_; rintro e w1 ⟨rfl, hb1⟩; rw [szR_neg hs]; have HB1 := Lib.hid (HB.out.trans (hb1.mono HB.out.size)); clear hb1)
          go_ret
          exact ⟨ret_i (by rw [← HE.out, hd.out, szR_neg (by simp; omega)]), HB1.out⟩
      · go_wp2
        go_ret
        exact ⟨ret_i (by rw [← HE.out, List.drop_of_length_le (by have := HN.out; omega)]; simp [szR, hl0]), HB.out⟩
  · go_enter Try.func34, Try.ntmps34
    go_wp2
    go_ret
    exact ⟨ret_i (by rw [szR_neg (by have := HN.out; simp only [costCondS]; omega)]), Below.refl _ _⟩

set_option maxHeartbeats 800000 in
theorem szAction_any (cs : List Value) (x : ActionD) (L : List Nat) (left : Int) (w : World) (h0 : 0 ≤ left) (h1 : left ≤ 1048576) (h : cAction.rep w cs x L) :
    Calls Try.prog 146 #[.agg cs.toArray, .int .i64 left] w (SzPost (costAction x) left w) := by
  obtain ⟨A1, c1, L1, rfl, _hL, t0, n1, m1, s1⟩ := h
  unfold maxLen at m1
  have S1 := Lib.hid s1
  clear s1
  have B0 : Hid (Below w.heap.size w (w.alloc (.cells #[.int .i64 x.kind, .string x.pattern.rel, .slice A1 x.pattern.args.length c1] 166))) := (Below.refl _ _).alloc (Nat.le_refl _) _
  have K0 : Hid (Blk (w.alloc (.cells #[.int .i64 x.kind, .string x.pattern.rel, .slice A1 x.pattern.args.length c1] 166)) w.heap.size 166 #[.int .i64 x.kind, .string x.pattern.rel, .slice A1 x.pattern.args.length c1]) := Blk.new _ _ _
  go_enter Try.func146, Try.ntmps146
  go_wp2_with fail
  refine (szPattern_any [.string x.pattern.rel, .slice A1 x.pattern.args.length c1] x.pattern _ _ _ (by omega) (by omega) ⟨A1, c1, L1, rfl, rfl, t0, n1, (by unfold maxLen; omega), S1.out.below B0.out⟩).mono ?_
  rintro e w1 ⟨rfl, hb1⟩
  have B1 := Lib.hid (B0.out.trans (hb1.mono B0.out.size))
  have K1 := Lib.hid (K0.out.later hb1)
  have f0 := K1.out.at (i := 0) rfl
  have f1 := K1.out.at (i := 1) rfl
  have f2 := K1.out.at (i := 2) rfl
  clear hb1
  by_cases k1 : ((costPattern x.pattern : Nat) : Int) ≤ left
  rotate_left
  · rw [szR_neg k1]
    go_wp2_with fail
    go_ret
    exact ⟨ret_i (by rw [szR_neg (by simp only [costAction]; omega)]), B1.out⟩
  rw [szR_pos k1]
  go_wp2_with fail
  go_ret
  exact ⟨ret_i (by rw [szR_pos (by simp only [costAction]; omega)] <;> simp only [costAction] <;> omega), B1.out⟩

set_option maxHeartbeats 800000 in
theorem szActionS_any (A : Option Addr) (n c : Nat) (ds : List ActionD) (L : List Nat) (left : Int) (w : World) (hn : n = ds.length) (hm : n ≤ 9223372036854775807) (h0 : 0 ≤ left) (h1 : left ≤ 1048576) (h : Sli cAction w A ds L) :
    Calls Try.prog 86 #[.slice A n c, .int .i64 left] w (SzPost (costActionS ds) left w) := by
  have H := Lib.hid h
  have HN := Lib.hid hn
  clear h hn
  by_cases hlen : (n : Int) ≤ left
  · go_enter Try.func86, Try.ntmps86
    go_wp2
    go_loopw [1, 5] (fun q i wr => ∃ (k : Nat) (l : Int), k ≤ n ∧ i = .int .i64 k ∧ q = .int .i64 l ∧ 0 ≤ l ∧ l ≤ left ∧ Hid (Below w.heap.size w wr) ∧ Hid (szR ((ds.drop k).map costAction).sum l = szR (costActionS ds) left)) (fun _ i _ => n - (intOf i).toNat)
    case atStart => exact ⟨0, left - n, Nat.zero_le _, rfl, rfl, by omega, by omega, Below.refl _ _, Lib.hid (by
        have e := HN.out
        exact szR_step _ _ _ _ (by omega) (by simp only [costActionS, List.drop_zero]; omega))⟩
    case round =>
      obtain ⟨k, l, hk, rfl, rfl, hl0, hl1, HB, HE⟩ := hrel
      by_cases hlt : k < n
      · have hkl : k < ds.length := by have := HN.out; omega
        obtain ⟨b, off, cs, Lk, rfl, hbL, hLk, hrep, hc⟩ := H.out.at_ hkl
        have hbl : b < w.heap.size := H.out.lt b hbL
        have HR := Lib.hid (cAction.keep hrep (keep_below HB.out (fun y m => H.out.lt y (hLk y m))))
        obtain ⟨A1, c1, rfl⟩ := cAction_cells hrep
        have q0 : wr.cell? ⟨b, off + k * 3, none⟩ = _ := (HB.out.cell (p := ⟨b, off + (k * 3 + 0), none⟩) hbl).trans (hc 0 _ rfl)
        have q1 : wr.cell? ⟨b, off + k * 3 + 1, none⟩ = _ := (HB.out.cell (p := ⟨b, off + (k * 3 + 1), none⟩) hbl).trans (hc 1 _ rfl)
        have q2 : wr.cell? ⟨b, off + k * 3 + 2, none⟩ = _ := (HB.out.cell (p := ⟨b, off + (k * 3 + 2), none⟩) hbl).trans (hc 2 _ rfl)
        have hd : Hid (ds.drop k = ds[k] :: ds.drop (k + 1)) := List.drop_eq_getElem_cons _
        generalize ds[k] = x at *
        clear hc hrep
        by_cases hs : (costAction x : Int) ≤ l
        · go_wp2_with (go_at_call 146; refine (szAction_any _ x Lk _ _ (by omega) (by omega) HR.out).mono ?_; rintro e w1 ⟨rfl, hb1⟩; rw [szR_pos hs]; have HB1 := Lib.hid (HB.out.trans (hb1.mono HB.out.size)); clear hb1)
          go_roundw
          case rel => exact ⟨k + 1, l - costAction x, by omega, by go_num, rfl, by omega, by omega, HB1.out, Lib.hid (by rw [← HE.out, hd.out]; exact szR_step _ _ _ _ (by omega) (by simp))⟩
          case measure => simp [intOf]; omega
        · go_wp2_with (go_at_call 146; refine (szAction_any _ x Lk _ _ (by omega) (by omega) HR.out).mono ?_; rintro e w1 ⟨rfl, hb1⟩; rw [szR_neg hs]; have HB1 := Lib.hid (HB.out.trans (hb1.mono HB.out.size)); clear hb1)
          go_ret
          exact ⟨ret_i (by rw [← HE.out, hd.out, szR_neg (by simp; omega)]), HB1.out⟩
      · go_wp2
        go_ret
        exact ⟨ret_i (by rw [← HE.out, List.drop_of_length_le (by have := HN.out; omega)]; simp [szR, hl0]), HB.out⟩
  · go_enter Try.func86, Try.ntmps86
    go_wp2
    go_ret
    exact ⟨ret_i (by rw [szR_neg (by have := HN.out; simp only [costActionS]; omega)]), Below.refl _ _⟩

set_option maxHeartbeats 800000 in
theorem szRule_any (cs : List Value) (x : RuleD) (L : List Nat) (left : Int) (w : World) (h0 : 0 ≤ left) (h1 : left ≤ 1048576) (h : cRule.rep w cs x L) :
    Calls Try.prog 41 #[.agg cs.toArray, .int .i64 left] w (SzPost (costRule x) left w) := by
  obtain ⟨A1, c1, L1, A2, c2, L2, rfl, _hL, t0, n1, m1, s1, n2, m2, s2⟩ := h
  unfold maxLen at m1 m2
  have S1 := Lib.hid s1
  clear s1
  have S2 := Lib.hid s2
  clear s2
  have B0 : Hid (Below w.heap.size w (w.alloc (.cells #[.string x.name, .int .i64 x.priority, .slice A1 x.cond.length c1, .slice A2 x.thn.length c2] 70))) := (Below.refl _ _).alloc (Nat.le_refl _) _
  have K0 : Hid (Blk (w.alloc (.cells #[.string x.name, .int .i64 x.priority, .slice A1 x.cond.length c1, .slice A2 x.thn.length c2] 70)) w.heap.size 70 #[.string x.name, .int .i64 x.priority, .slice A1 x.cond.length c1, .slice A2 x.thn.length c2]) := Blk.new _ _ _
  go_enter Try.func41, Try.ntmps41
  by_cases k1 : (x.name.size : Int) ≤ left
  rotate_left
  · go_wp2_with fail
    go_ret
    exact ⟨ret_i (by rw [szR_neg (by simp only [costRule]; omega)]), B0.out⟩
  go_wp2_with fail
  refine (szCondS_any A1 _ c1 x.cond L1 _ _ rfl (by omega) (by omega) (by omega) (S1.out.below B0.out)).mono ?_
  rintro e w1 ⟨rfl, hb1⟩
  have B1 := Lib.hid (B0.out.trans (hb1.mono B0.out.size))
  have K1 := Lib.hid (K0.out.later hb1)
  have f0 := K1.out.at (i := 0) rfl
  have f1 := K1.out.at (i := 1) rfl
  have f2 := K1.out.at (i := 2) rfl
  have f3 := K1.out.at (i := 3) rfl
  clear hb1
  by_cases k2 : ((costCondS x.cond : Nat) : Int) ≤ left - x.name.size
  rotate_left
  · rw [szR_neg k2]
    go_wp2_with fail
    go_ret
    exact ⟨ret_i (by rw [szR_neg (by simp only [costRule]; omega)]), B1.out⟩
  rw [szR_pos k2]
  go_wp2_with fail
  refine (szActionS_any A2 _ c2 x.thn L2 _ _ rfl (by omega) (by omega) (by omega) (S2.out.below B1.out)).mono ?_
  rintro e w2 ⟨rfl, hb2⟩
  have B2 := Lib.hid (B1.out.trans (hb2.mono B1.out.size))
  have K2 := Lib.hid (K1.out.later hb2)
  clear f0 f1 f2 f3
  have f0 := K2.out.at (i := 0) rfl
  have f1 := K2.out.at (i := 1) rfl
  have f2 := K2.out.at (i := 2) rfl
  have f3 := K2.out.at (i := 3) rfl
  clear hb2
  by_cases k3 : ((costActionS x.thn : Nat) : Int) ≤ left - x.name.size - (costCondS x.cond : Nat)
  rotate_left
  · rw [szR_neg k3]
    go_wp2_with fail
    go_ret
    exact ⟨ret_i (by rw [szR_neg (by simp only [costRule]; omega)]), B2.out⟩
  rw [szR_pos k3]
  go_wp2_with fail
  go_ret
  exact ⟨ret_i (by rw [szR_pos (by simp only [costRule]; omega)] <;> simp only [costRule] <;> omega), B2.out⟩

set_option maxHeartbeats 800000 in
theorem szRuleS_any (A : Option Addr) (n c : Nat) (ds : List RuleD) (L : List Nat) (left : Int) (w : World) (hn : n = ds.length) (hm : n ≤ 9223372036854775807) (h0 : 0 ≤ left) (h1 : left ≤ 1048576) (h : Sli cRule w A ds L) :
    Calls Try.prog 20 #[.slice A n c, .int .i64 left] w (SzPost (costRuleS ds) left w) := by
  have H := Lib.hid h
  have HN := Lib.hid hn
  clear h hn
  by_cases hlen : (n : Int) ≤ left
  · go_enter Try.func20, Try.ntmps20
    go_wp2
    go_loopw [1, 5] (fun q i wr => ∃ (k : Nat) (l : Int), k ≤ n ∧ i = .int .i64 k ∧ q = .int .i64 l ∧ 0 ≤ l ∧ l ≤ left ∧ Hid (Below w.heap.size w wr) ∧ Hid (szR ((ds.drop k).map costRule).sum l = szR (costRuleS ds) left)) (fun _ i _ => n - (intOf i).toNat)
    case atStart => exact ⟨0, left - n, Nat.zero_le _, rfl, rfl, by omega, by omega, Below.refl _ _, Lib.hid (by
        have e := HN.out
        exact szR_step _ _ _ _ (by omega) (by simp only [costRuleS, List.drop_zero]; omega))⟩
    case round =>
      obtain ⟨k, l, hk, rfl, rfl, hl0, hl1, HB, HE⟩ := hrel
      by_cases hlt : k < n
      · have hkl : k < ds.length := by have := HN.out; omega
        obtain ⟨b, off, cs, Lk, rfl, hbL, hLk, hrep, hc⟩ := H.out.at_ hkl
        have hbl : b < w.heap.size := H.out.lt b hbL
        have HR := Lib.hid (cRule.keep hrep (keep_below HB.out (fun y m => H.out.lt y (hLk y m))))
        obtain ⟨A1, c1, A2, c2, rfl⟩ := cRule_cells hrep
        have q0 : wr.cell? ⟨b, off + k * 4, none⟩ = _ := (HB.out.cell (p := ⟨b, off + (k * 4 + 0), none⟩) hbl).trans (hc 0 _ rfl)
        have q1 : wr.cell? ⟨b, off + k * 4 + 1, none⟩ = _ := (HB.out.cell (p := ⟨b, off + (k * 4 + 1), none⟩) hbl).trans (hc 1 _ rfl)
        have q2 : wr.cell? ⟨b, off + k * 4 + 2, none⟩ = _ := (HB.out.cell (p := ⟨b, off + (k * 4 + 2), none⟩) hbl).trans (hc 2 _ rfl)
        have q3 : wr.cell? ⟨b, off + k * 4 + 3, none⟩ = _ := (HB.out.cell (p := ⟨b, off + (k * 4 + 3), none⟩) hbl).trans (hc 3 _ rfl)
        have hd : Hid (ds.drop k = ds[k] :: ds.drop (k + 1)) := List.drop_eq_getElem_cons _
        generalize ds[k] = x at *
        clear hc hrep
        by_cases hs : (costRule x : Int) ≤ l
        · go_wp2_with (go_at_call 41; refine (szRule_any _ x Lk _ _ (by omega) (by omega) HR.out).mono ?_; rintro e w1 ⟨rfl, hb1⟩; rw [szR_pos hs]; have HB1 := Lib.hid (HB.out.trans (hb1.mono HB.out.size)); clear hb1)
          go_roundw
          case rel => exact ⟨k + 1, l - costRule x, by omega, by go_num, rfl, by omega, by omega, HB1.out, Lib.hid (by rw [← HE.out, hd.out]; exact szR_step _ _ _ _ (by omega) (by simp))⟩
          case measure => simp [intOf]; omega
        · go_wp2_with (go_at_call 41; refine (szRule_any _ x Lk _ _ (by omega) (by omega) HR.out).mono ?_; rintro e w1 ⟨rfl, hb1⟩; rw [szR_neg hs]; have HB1 := Lib.hid (HB.out.trans (hb1.mono HB.out.size)); clear hb1)
          go_ret
          exact ⟨ret_i (by rw [← HE.out, hd.out, szR_neg (by simp; omega)]), HB1.out⟩
      · go_wp2
        go_ret
        exact ⟨ret_i (by rw [← HE.out, List.drop_of_length_le (by have := HN.out; omega)]; simp [szR, hl0]), HB.out⟩
  · go_enter Try.func20, Try.ntmps20
    go_wp2
    go_ret
    exact ⟨ret_i (by rw [szR_neg (by have := HN.out; simp only [costRuleS]; omega)]), Below.refl _ _⟩

end Go.Proofs.Ytccbhhglghboaaa

namespace Go.Proofs.Ytccbhhglghboaaa
open Go.RowKit

theorem Try.infoString_ : (Try.prog.info? 9).map (fun i => (i.zero, i.size, i.bytes)) = some (some (.string ⟨#[]⟩), 1, 16) := by kernel_rfl
set_option maxHeartbeats 1600000 in
theorem toStringS_any (A : Option Addr) (n c : Nat) (ds : List ByteArray) (L : List Nat) (w : World) (hn : n = ds.length) (hm : ds.length ≤ 1099511627776) (h : Sli strC w A ds L) :
    Calls Try.prog 157 #[.slice A n c] w (GivesS strC 9 w ds) := by
  obtain ⟨i0, hi, hz0, hz1, hz2⟩ := info_parts Try.infoString_
  rw [← hn] at hm
  have H := Lib.hid h
  have HN := Lib.hid hn
  clear h hn
  go_enter Try.func157, Try.ntmps157
  go_wp2_with (at_make; refine wpList_make_full _ rfl _ _ 24 rfl w.heap.size 9 i0 _ 1 Try.underlying24 hi hz0 hz1 .i64 .i64 _ _ n rfl rfl rfl rfl (by rw [hz2]; omega) (by unfold maxLen; omega) (Nat.le_refl _) ?_; intro w1 hown hg)
  have hb : Below w.heap.size w w1 := (Below.refl _ _).grown hg (Nat.le_refl _) (by simp)
  have HF0 : Hid (Filling strC 9 w n ds 0 w1) := Filling.start hown hb
  clear hown hg hb
  go_wp2
  go_loopw [4] (fun i wr => ∃ (k : Nat), k ≤ n ∧ i = .int .i64 k ∧ Hid (Filling strC 9 w n ds k wr)) (fun i _ => n - (intOf i).toNat)
  case atStart => exact ⟨0, Nat.zero_le _, rfl, HF0⟩
  case round =>
    obtain ⟨k, hk, rfl, HF⟩ := hrel
    by_cases hlt : k < n
    · have hkl : k < ds.length := by have := HN.out; omega
      obtain ⟨b, off, cs, Lk, rfl, hbL, hLk, hrep, hc⟩ := H.out.at_ hkl
      have hbl : b < w.heap.size := H.out.lt b hbL
      have hrep0 := hrep
      obtain ⟨rfl, _, hss⟩ := hrep0
      have q0 := (HF.out.below.cell (p := ⟨b, off + (k * strC.size + 0), none⟩) hbl).trans (hc 0 _ rfl)
      have HS := Lib.hid (HF.out.store (w2 := wr) (x := ds[k]) (M := []) hlt HN.out (fun _ => rfl) (Below.refl _ _) ⟨⟨rfl, rfl, hss⟩, Own.nil _ _⟩)
      obtain ⟨d0, e0⟩ := HF.out.cell hlt (j := 0) (by decide)
      have z0 := HF.out.frozen k
      simp only [show strC.size = 1 from rfl, Nat.mul_one, Nat.add_zero] at q0 HS e0
      generalize ds[k] = x at *
      clear hc hrep
      go_wp2_with fail
      go_roundw
      case rel => exact ⟨k + 1, by omega, by go_num, HS.out⟩
      case measure => simp [intOf]; omega
    · obtain rfl : k = n := by omega
      go_wp2
      go_ret
      exact ⟨_, rfl, HF.out.done HN.out⟩

set_option maxHeartbeats 1600000 in
theorem toPattern_any (cs : List Value) (x : PatternD) (L : List Nat) (w : World) (hz : costPattern x ≤ 1048576) (h : cPattern.rep w cs x L) :
    Calls Try.prog 136 #[.agg cs.toArray] w (Gives cPattern w x) := by
  obtain ⟨A1, c1, L1, rfl, _hL, t0, n1, m1, s1⟩ := h
  unfold maxLen at m1
  have S1 := Lib.hid s1
  clear s1
  simp only [costPattern] at hz
  go_enter Try.func136, Try.ntmps136
  go_wp2_with fail
  refine (toStringS_any A1 _ c1 x.args L1 _ rfl (by simp only [costStrs] at hz; omega) (S1.out.below (by repeat (first | refine Below.setCell ?_ (by dsimp only; omega) _ | refine Below.alloc ?_ (by first | (simp; done) | (simp; omega) | omega) _ | exact Below.refl _ _)))).mono ?_
  rintro e w1 ⟨v1, rfl, a1⟩
  obtain ⟨vA1, vc1, rfl⟩ := a1.shape
  have hb1 := a1.below
  obtain ⟨M1, g1⟩ := a1.got
  clear a1
  have G1 := Lib.hid (g1.mono (show w.heap.size + 3 ≤ _ by simp))
  have lt1 := Lib.hid g1.lt
  clear g1
  have B1 : Hid (Below w.heap.size w w1) := Below.trans (by repeat (first | refine Below.setCell ?_ (by dsimp only; omega) _ | refine Below.alloc ?_ (by first | (simp; done) | (simp; omega) | omega) _ | exact Below.refl _ _)) (hb1.mono (by first | (simp; done) | (simp; omega) | omega))
  have K0 : Hid (Blk w1 w.heap.size 114 #[.string x.rel, .slice A1 x.args.length c1]) := Blk.later (Blk.alloc (Blk.alloc (Blk.new _ _ _) _) _) hb1
  have K1 : Hid (Blk w1 (w.heap.size + 1) 118 #[.string ⟨#[]⟩, .slice none 0 0]) := Blk.later (Blk.alloc (Blk.new_at (by simp)) _) hb1
  have K2 : Hid (Blk w1 (w.heap.size + 1 + 1) 118 #[.string x.rel, .slice none 0 0]) := Blk.later (Blk.new_at (by simp)) hb1
  have f0 := K0.out.at (i := 0) rfl
  have r0 := K1.out.at (i := 0) rfl
  have o0 := K2.out.at (i := 0) rfl
  have rz0 := K1.out.frozen 0
  have oz0 := K2.out.frozen 0
  have f1 := K0.out.at (i := 1) rfl
  have r1 := K1.out.at (i := 1) rfl
  have o1 := K2.out.at (i := 1) rfl
  have rz1 := K1.out.frozen 1
  have oz1 := K2.out.frozen 1
  have hz1 : w.heap.size + 2 < w1.heap.size := by have := hb1.size; simp at this; omega
  clear hb1
  go_wp2_with fail
  refine bodyPost_ret (v := .agg #[.string x.rel, .slice vA1 x.args.length vc1]) (by simp [results, Try.results136, go_sem, r0, r1]) rfl ?_
  obtain ⟨nn1, mm1, ss1⟩ := sliceC_out G1.out.rep
  exact gives_of (wr := w1) (M1) ⟨⟨vA1, vc1, M1, rfl, rfl, t0, nn1, mm1, ss1⟩, by have o := G1.out.own; simpa only [List.append_assoc] using o⟩ (by intro b hb; repeat rw [Below.heap_setCell _ _ _ _ (by dsimp only; omega)]) (by repeat (first | refine Below.setCell ?_ (by dsimp only; omega) _ | refine Below.alloc ?_ (by first | (simp; done) | (simp; omega) | omega) _ | exact B1.out))

set_option maxHeartbeats 1600000 in
theorem toCond_any (cs : List Value) (x : CondD) (L : List Nat) (w : World) (hz : costCond x ≤ 1048576) (h : cCond.rep w cs x L) :
    Calls Try.prog 80 #[.agg cs.toArray] w (Gives cCond w x) := by
  obtain ⟨A1, c1, L1, rfl, _hL, t0, t1, t2, n1, m1, s1⟩ := h
  unfold maxLen at m1
  have S1 := Lib.hid s1
  clear s1
  simp only [costCond] at hz
  go_enter Try.func80, Try.ntmps80
  go_wp2_with fail
  refine (toPattern_any [.string x.pattern.rel, .slice A1 x.pattern.args.length c1] x.pattern _ _ (by omega) ⟨A1, c1, L1, rfl, rfl, t0, n1, (by unfold maxLen; omega), S1.out.below (by repeat (first | refine Below.setCell ?_ (by dsimp only; omega) _ | refine Below.alloc ?_ (by first | (simp; done) | (simp; omega) | omega) _ | exact Below.refl _ _))⟩).mono ?_
  rintro e w1 ⟨cs1, M1, rfl, g1, hb1⟩
  obtain ⟨vA1, vc1, rfl⟩ := cPattern_cells g1.rep
  have G1 := Lib.hid (g1.mono (show w.heap.size + 3 ≤ _ by simp))
  have lt1 := Lib.hid g1.lt
  clear g1
  have B1 : Hid (Below w.heap.size w w1) := Below.trans (by repeat (first | refine Below.setCell ?_ (by dsimp only; omega) _ | refine Below.alloc ?_ (by first | (simp; done) | (simp; omega) | omega) _ | exact Below.refl _ _)) (hb1.mono (by first | (simp; done) | (simp; omega) | omega))
  have K0 : Hid (Blk w1 w.heap.size 116 #[.int .i64 x.kind, .string x.pattern.rel, .slice A1 x.pattern.args.length c1, .string x.left, .string x.right]) := Blk.later (Blk.alloc (Blk.alloc (Blk.new _ _ _) _) _) hb1
  have K1 : Hid (Blk w1 (w.heap.size + 1) 120 #[.int .i64 0, .string ⟨#[]⟩, .slice none 0 0, .string ⟨#[]⟩, .string ⟨#[]⟩]) := Blk.later (Blk.alloc (Blk.new_at (by simp)) _) hb1
  have K2 : Hid (Blk w1 (w.heap.size + 1 + 1) 120 #[.int .i64 x.kind, .string ⟨#[]⟩, .slice none 0 0, .string ⟨#[]⟩, .string ⟨#[]⟩]) := Blk.later (Blk.new_at (by simp)) hb1
  have f0 := K0.out.at (i := 0) rfl
  have r0 := K1.out.at (i := 0) rfl
  have o0 := K2.out.at (i := 0) rfl
  have rz0 := K1.out.frozen 0
  have oz0 := K2.out.frozen 0
  have f1 := K0.out.at (i := 1) rfl
  have r1 := K1.out.at (i := 1) rfl
  have o1 := K2.out.at (i := 1) rfl
  have rz1 := K1.out.frozen 1
  have oz1 := K2.out.frozen 1
  have f2 := K0.out.at (i := 2) rfl
  have r2 := K1.out.at (i := 2) rfl
  have o2 := K2.out.at (i := 2) rfl
  have rz2 := K1.out.frozen 2
  have oz2 := K2.out.frozen 2
  have f3 := K0.out.at (i := 3) rfl
  have r3 := K1.out.at (i := 3) rfl
  have o3 := K2.out.at (i := 3) rfl
  have rz3 := K1.out.frozen 3
  have oz3 := K2.out.frozen 3
  have f4 := K0.out.at (i := 4) rfl
  have r4 := K1.out.at (i := 4) rfl
  have o4 := K2.out.at (i := 4) rfl
  have rz4 := K1.out.frozen 4
  have oz4 := K2.out.frozen 4
  have hz1 : w.heap.size + 2 < w1.heap.size := by have := hb1.size; simp at this; omega
  clear hb1
  go_wp2_with fail
  refine bodyPost_ret (v := .agg #[.int .i64 x.kind, .string x.pattern.rel, .slice vA1 x.pattern.args.length vc1, .string x.left, .string x.right]) (by simp [results, Try.results80, go_sem, r0, r1, r2, r3, r4]) rfl ?_
  obtain ⟨_, _, N1, hcs1, hL1, _, nn1, mm1, ss1⟩ := G1.out.rep
  cases hcs1
  subst hL1
  exact gives_of (wr := w1) (M1) ⟨⟨vA1, vc1, M1, rfl, rfl, t0, t1, t2, nn1, mm1, ss1⟩, by have o := G1.out.own; simpa only [List.append_assoc] using o⟩ (by intro b hb; repeat rw [Below.heap_setCell _ _ _ _ (by dsimp only; omega)]) (by repeat (first | refine Below.setCell ?_ (by dsimp only; omega) _ | refine Below.alloc ?_ (by first | (simp; done) | (simp; omega) | omega) _ | exact B1.out))

theorem Try.infoCond : (Try.prog.info? 120).map (fun i => (i.zero, i.size, i.bytes)) = some (some (.agg #[.int .i64 0, .string ⟨#[]⟩, .slice none 0 0, .string ⟨#[]⟩, .string ⟨#[]⟩]), 5, 80) := by kernel_rfl
set_option maxHeartbeats 1600000 in
theorem toCondS_any (A : Option Addr) (n c : Nat) (ds : List CondD) (L : List Nat) (w : World) (hn : n = ds.length) (hz : costCondS ds ≤ 1048576) (h : Sli cCond w A ds L) :
    Calls Try.prog 36 #[.slice A n c] w (GivesS cCond 120 w ds) := by
  obtain ⟨i0, hi, hz0, hz1, hz2⟩ := info_parts Try.infoCond
  have H := Lib.hid h
  have HN := Lib.hid hn
  have hm : n ≤ 1048576 := by simp only [costCondS] at hz; omega
  have HZ := Lib.hid hz
  clear h hn hz
  go_enter Try.func36, Try.ntmps36
  go_wp2_with (at_make; refine wpList_make_full _ rfl _ _ 62 rfl w.heap.size 120 i0 _ 5 Try.underlying62 hi hz0 hz1 .i64 .i64 _ _ n rfl rfl rfl rfl (by rw [hz2]; omega) (by unfold maxLen; omega) (Nat.le_refl _) ?_; intro w1 hown hg)
  have hb : Below w.heap.size w w1 := (Below.refl _ _).grown hg (Nat.le_refl _) (by simp)
  have HF0 : Hid (Filling cCond 120 w n ds 0 w1) := Filling.start hown hb
  clear hown hg hb
  go_wp2
  go_loopw [4] (fun i wr => ∃ (k : Nat), k ≤ n ∧ i = .int .i64 k ∧ Hid (Filling cCond 120 w n ds k wr)) (fun i _ => n - (intOf i).toNat)
  case atStart => exact ⟨0, Nat.zero_le _, rfl, HF0⟩
  case round =>
    obtain ⟨k, hk, rfl, HF⟩ := hrel
    by_cases hlt : k < n
    · have hkl : k < ds.length := by have := HN.out; omega
      obtain ⟨b, off, cs, Lk, rfl, hbL, hLk, hrep, hc⟩ := H.out.at_ hkl
      have hbl : b < w.heap.size := H.out.lt b hbL
      have HR := Lib.hid (cCond.keep hrep (keep_below HF.out.below (fun y m => H.out.lt y (hLk y m))))
      obtain ⟨A1, c1, rfl⟩ := cCond_cells hrep
      have q0 : wr.cell? ⟨b, off + k * 5, none⟩ = _ := (HF.out.below.cell (p := ⟨b, off + (k * 5 + 0), none⟩) hbl).trans (hc 0 _ rfl)
      have q1 : wr.cell? ⟨b, off + k * 5 + 1, none⟩ = _ := (HF.out.below.cell (p := ⟨b, off + (k * 5 + 1), none⟩) hbl).trans (hc 1 _ rfl)
      have q2 : wr.cell? ⟨b, off + k * 5 + 2, none⟩ = _ := (HF.out.below.cell (p := ⟨b, off + (k * 5 + 2), none⟩) hbl).trans (hc 2 _ rfl)
      have q3 : wr.cell? ⟨b, off + k * 5 + 3, none⟩ = _ := (HF.out.below.cell (p := ⟨b, off + (k * 5 + 3), none⟩) hbl).trans (hc 3 _ rfl)
      have q4 : wr.cell? ⟨b, off + k * 5 + 4, none⟩ = _ := (HF.out.below.cell (p := ⟨b, off + (k * 5 + 4), none⟩) hbl).trans (hc 4 _ rfl)
      have hcx : Hid (costCond ds[k] ≤ 1048576) := cost_le costCond ds k hkl (by have := HZ.out; simp only [costCondS] at this; omega)
      obtain ⟨x, hx⟩ : ∃ x, x = ds[k] := ⟨_, rfl⟩
      have HX := Lib.hid hx
      rw [← hx] at HR q0 q1 q2 q3 q4 hcx
      clear hc hrep hx
      go_wp2_with fail
      refine (toCond_any _ x Lk _ hcx.out HR.out).mono ?_
      rintro e w2 ⟨cs2, M2, rfl, g2, hb2⟩
      have HF2 := Lib.hid (HF.out.later hb2)
      have HS := Lib.hid (HF.out.store hlt HN.out (fun _ => HX.out) hb2 g2)
      obtain ⟨vA1, vc1, rfl⟩ := cCond_cells g2.rep
      clear g2 hb2
      obtain ⟨d0, e0⟩ : ∃ d, w2.cell? ⟨w.heap.size, k * 5, none⟩ = some d := HF2.out.cell hlt (j := 0) (by decide)
      have z0 := HF2.out.frozen (k * 5)
      obtain ⟨d1, e1⟩ : ∃ d, w2.cell? ⟨w.heap.size, k * 5 + 1, none⟩ = some d := HF2.out.cell hlt (j := 1) (by decide)
      have z1 := HF2.out.frozen (k * 5 + 1)
      obtain ⟨d2, e2⟩ : ∃ d, w2.cell? ⟨w.heap.size, k * 5 + 2, none⟩ = some d := HF2.out.cell hlt (j := 2) (by decide)
      have z2 := HF2.out.frozen (k * 5 + 2)
      obtain ⟨d3, e3⟩ : ∃ d, w2.cell? ⟨w.heap.size, k * 5 + 3, none⟩ = some d := HF2.out.cell hlt (j := 3) (by decide)
      have z3 := HF2.out.frozen (k * 5 + 3)
      obtain ⟨d4, e4⟩ : ∃ d, w2.cell? ⟨w.heap.size, k * 5 + 4, none⟩ = some d := HF2.out.cell hlt (j := 4) (by decide)
      have z4 := HF2.out.frozen (k * 5 + 4)
      go_wp2_with fail
      go_roundw
      case rel => exact ⟨k + 1, by omega, by go_num, HS.out⟩
      case measure => simp [intOf]; omega
    · obtain rfl : k = n := by omega
      go_wp2
      go_ret
      exact ⟨_, rfl, HF.out.done HN.out⟩

set_option maxHeartbeats 1600000 in
theorem toAction_any (cs : List Value) (x : ActionD) (L : List Nat) (w : World) (hz : costAction x ≤ 1048576) (h : cAction.rep w cs x L) :
    Calls Try.prog 148 #[.agg cs.toArray] w (Gives cAction w x) := by
  obtain ⟨A1, c1, L1, rfl, _hL, t0, n1, m1, s1⟩ := h
  unfold maxLen at m1
  have S1 := Lib.hid s1
  clear s1
  simp only [costAction] at hz
  go_enter Try.func148, Try.ntmps148
  go_wp2_with fail
  refine (toPattern_any [.string x.pattern.rel, .slice A1 x.pattern.args.length c1] x.pattern _ _ (by omega) ⟨A1, c1, L1, rfl, rfl, t0, n1, (by unfold maxLen; omega), S1.out.below (by repeat (first | refine Below.setCell ?_ (by dsimp only; omega) _ | refine Below.alloc ?_ (by first | (simp; done) | (simp; omega) | omega) _ | exact Below.refl _ _))⟩).mono ?_
  rintro e w1 ⟨cs1, M1, rfl, g1, hb1⟩
  obtain ⟨vA1, vc1, rfl⟩ := cPattern_cells g1.rep
  have G1 := Lib.hid (g1.mono (show w.heap.size + 3 ≤ _ by simp))
  have lt1 := Lib.hid g1.lt
  clear g1
  have B1 : Hid (Below w.heap.size w w1) := Below.trans (by repeat (first | refine Below.setCell ?_ (by dsimp only; omega) _ | refine Below.alloc ?_ (by first | (simp; done) | (simp; omega) | omega) _ | exact Below.refl _ _)) (hb1.mono (by first | (simp; done) | (simp; omega) | omega))
  have K0 : Hid (Blk w1 w.heap.size 166 #[.int .i64 x.kind, .string x.pattern.rel, .slice A1 x.pattern.args.length c1]) := Blk.later (Blk.alloc (Blk.alloc (Blk.new _ _ _) _) _) hb1
  have K1 : Hid (Blk w1 (w.heap.size + 1) 128 #[.int .i64 0, .string ⟨#[]⟩, .slice none 0 0]) := Blk.later (Blk.alloc (Blk.new_at (by simp)) _) hb1
  have K2 : Hid (Blk w1 (w.heap.size + 1 + 1) 128 #[.int .i64 x.kind, .string ⟨#[]⟩, .slice none 0 0]) := Blk.later (Blk.new_at (by simp)) hb1
  have f0 := K0.out.at (i := 0) rfl
  have r0 := K1.out.at (i := 0) rfl
  have o0 := K2.out.at (i := 0) rfl
  have rz0 := K1.out.frozen 0
  have oz0 := K2.out.frozen 0
  have f1 := K0.out.at (i := 1) rfl
  have r1 := K1.out.at (i := 1) rfl
  have o1 := K2.out.at (i := 1) rfl
  have rz1 := K1.out.frozen 1
  have oz1 := K2.out.frozen 1
  have f2 := K0.out.at (i := 2) rfl
  have r2 := K1.out.at (i := 2) rfl
  have o2 := K2.out.at (i := 2) rfl
  have rz2 := K1.out.frozen 2
  have oz2 := K2.out.frozen 2
  have hz1 : w.heap.size + 2 < w1.heap.size := by have := hb1.size; simp at this; omega
  clear hb1
  go_wp2_with fail
  refine bodyPost_ret (v := .agg #[.int .i64 x.kind, .string x.pattern.rel, .slice vA1 x.pattern.args.length vc1]) (by simp [results, Try.results148, go_sem, r0, r1, r2]) rfl ?_
  obtain ⟨_, _, N1, hcs1, hL1, _, nn1, mm1, ss1⟩ := G1.out.rep
  cases hcs1
  subst hL1
  exact gives_of (wr := w1) (M1) ⟨⟨vA1, vc1, M1, rfl, rfl, t0, nn1, mm1, ss1⟩, by have o := G1.out.own; simpa only [List.append_assoc] using o⟩ (by intro b hb; repeat rw [Below.heap_setCell _ _ _ _ (by dsimp only; omega)]) (by repeat (first | refine Below.setCell ?_ (by dsimp only; omega) _ | refine Below.alloc ?_ (by first | (simp; done) | (simp; omega) | omega) _ | exact B1.out))

theorem Try.infoAction : (Try.prog.info? 128).map (fun i => (i.zero, i.size, i.bytes)) = some (some (.agg #[.int .i64 0, .string ⟨#[]⟩, .slice none 0 0]), 3, 48) := by kernel_rfl
set_option maxHeartbeats 1600000 in
theorem toActionS_any (A : Option Addr) (n c : Nat) (ds : List ActionD) (L : List Nat) (w : World) (hn : n = ds.length) (hz : costActionS ds ≤ 1048576) (h : Sli cAction w A ds L) :
    Calls Try.prog 90 #[.slice A n c] w (GivesS cAction 128 w ds) := by
  obtain ⟨i0, hi, hz0, hz1, hz2⟩ := info_parts Try.infoAction
  have H := Lib.hid h
  have HN := Lib.hid hn
  have hm : n ≤ 1048576 := by simp only [costActionS] at hz; omega
  have HZ := Lib.hid hz
  clear h hn hz
  go_enter Try.func90, Try.ntmps90
  go_wp2_with (at_make; refine wpList_make_full _ rfl _ _ 73 rfl w.heap.size 128 i0 _ 3 Try.underlying73 hi hz0 hz1 .i64 .i64 _ _ n rfl rfl rfl rfl (by rw [hz2]; omega) (by unfold maxLen; omega) (Nat.le_refl _) ?_; intro w1 hown hg)
  have hb : Below w.heap.size w w1 := (Below.refl _ _).grown hg (Nat.le_refl _) (by simp)
  have HF0 : Hid (Filling cAction 128 w n ds 0 w1) := Filling.start hown hb
  clear hown hg hb
  go_wp2
  go_loopw [4] (fun i wr => ∃ (k : Nat), k ≤ n ∧ i = .int .i64 k ∧ Hid (Filling cAction 128 w n ds k wr)) (fun i _ => n - (intOf i).toNat)
  case atStart => exact ⟨0, Nat.zero_le _, rfl, HF0⟩
  case round =>
    obtain ⟨k, hk, rfl, HF⟩ := hrel
    by_cases hlt : k < n
    · have hkl : k < ds.length := by have := HN.out; omega
      obtain ⟨b, off, cs, Lk, rfl, hbL, hLk, hrep, hc⟩ := H.out.at_ hkl
      have hbl : b < w.heap.size := H.out.lt b hbL
      have HR := Lib.hid (cAction.keep hrep (keep_below HF.out.below (fun y m => H.out.lt y (hLk y m))))
      obtain ⟨A1, c1, rfl⟩ := cAction_cells hrep
      have q0 : wr.cell? ⟨b, off + k * 3, none⟩ = _ := (HF.out.below.cell (p := ⟨b, off + (k * 3 + 0), none⟩) hbl).trans (hc 0 _ rfl)
      have q1 : wr.cell? ⟨b, off + k * 3 + 1, none⟩ = _ := (HF.out.below.cell (p := ⟨b, off + (k * 3 + 1), none⟩) hbl).trans (hc 1 _ rfl)
      have q2 : wr.cell? ⟨b, off + k * 3 + 2, none⟩ = _ := (HF.out.below.cell (p := ⟨b, off + (k * 3 + 2), none⟩) hbl).trans (hc 2 _ rfl)
      have hcx : Hid (costAction ds[k] ≤ 1048576) := cost_le costAction ds k hkl (by have := HZ.out; simp only [costActionS] at this; omega)
      obtain ⟨x, hx⟩ : ∃ x, x = ds[k] := ⟨_, rfl⟩
      have HX := Lib.hid hx
      rw [← hx] at HR q0 q1 q2 hcx
      clear hc hrep hx
      go_wp2_with fail
      refine (toAction_any _ x Lk _ hcx.out HR.out).mono ?_
      rintro e w2 ⟨cs2, M2, rfl, g2, hb2⟩
      have HF2 := Lib.hid (HF.out.later hb2)
      have HS := Lib.hid (HF.out.store hlt HN.out (fun _ => HX.out) hb2 g2)
      obtain ⟨vA1, vc1, rfl⟩ := cAction_cells g2.rep
      clear g2 hb2
      obtain ⟨d0, e0⟩ : ∃ d, w2.cell? ⟨w.heap.size, k * 3, none⟩ = some d := HF2.out.cell hlt (j := 0) (by decide)
      have z0 := HF2.out.frozen (k * 3)
      obtain ⟨d1, e1⟩ : ∃ d, w2.cell? ⟨w.heap.size, k * 3 + 1, none⟩ = some d := HF2.out.cell hlt (j := 1) (by decide)
      have z1 := HF2.out.frozen (k * 3 + 1)
      obtain ⟨d2, e2⟩ : ∃ d, w2.cell? ⟨w.heap.size, k * 3 + 2, none⟩ = some d := HF2.out.cell hlt (j := 2) (by decide)
      have z2 := HF2.out.frozen (k * 3 + 2)
      go_wp2_with fail
      go_roundw
      case rel => exact ⟨k + 1, by omega, by go_num, HS.out⟩
      case measure => simp [intOf]; omega
    · obtain rfl : k = n := by omega
      go_wp2
      go_ret
      exact ⟨_, rfl, HF.out.done HN.out⟩

set_option maxHeartbeats 1600000 in
theorem toRule_any (cs : List Value) (x : RuleD) (L : List Nat) (w : World) (hz : costRule x ≤ 1048576) (h : cRule.rep w cs x L) :
    Calls Try.prog 43 #[.agg cs.toArray] w (Gives cRule w x) := by
  obtain ⟨A1, c1, L1, A2, c2, L2, rfl, _hL, t0, n1, m1, s1, n2, m2, s2⟩ := h
  unfold maxLen at m1 m2
  have S1 := Lib.hid s1
  clear s1
  have S2 := Lib.hid s2
  clear s2
  simp only [costRule] at hz
  go_enter Try.func43, Try.ntmps43
  go_wp2_with fail
  refine (toCondS_any A1 _ c1 x.cond L1 _ rfl (by omega) (S1.out.below (by repeat (first | refine Below.setCell ?_ (by dsimp only; omega) _ | refine Below.alloc ?_ (by first | (simp; done) | (simp; omega) | omega) _ | exact Below.refl _ _)))).mono ?_
  rintro e w1 ⟨v1, rfl, a1⟩
  obtain ⟨vA1, vc1, rfl⟩ := a1.shape
  have hb1 := a1.below
  obtain ⟨M1, g1⟩ := a1.got
  clear a1
  have G1 := Lib.hid (g1.mono (show w.heap.size + 3 ≤ _ by simp))
  have lt1 := Lib.hid g1.lt
  clear g1
  have B1 : Hid (Below w.heap.size w w1) := Below.trans (by repeat (first | refine Below.setCell ?_ (by dsimp only; omega) _ | refine Below.alloc ?_ (by first | (simp; done) | (simp; omega) | omega) _ | exact Below.refl _ _)) (hb1.mono (by first | (simp; done) | (simp; omega) | omega))
  have K0 : Hid (Blk w1 w.heap.size 70 #[.string x.name, .int .i64 x.priority, .slice A1 x.cond.length c1, .slice A2 x.thn.length c2]) := Blk.later (Blk.alloc (Blk.alloc (Blk.new _ _ _) _) _) hb1
  have K1 : Hid (Blk w1 (w.heap.size + 1) 75 #[.string ⟨#[]⟩, .int .i64 0, .slice none 0 0, .slice none 0 0]) := Blk.later (Blk.alloc (Blk.new_at (by simp)) _) hb1
  have K2 : Hid (Blk w1 (w.heap.size + 1 + 1) 75 #[.string x.name, .int .i64 x.priority, .slice none 0 0, .slice none 0 0]) := Blk.later (Blk.new_at (by simp)) hb1
  have f0 := K0.out.at (i := 0) rfl
  have r0 := K1.out.at (i := 0) rfl
  have o0 := K2.out.at (i := 0) rfl
  have rz0 := K1.out.frozen 0
  have oz0 := K2.out.frozen 0
  have f1 := K0.out.at (i := 1) rfl
  have r1 := K1.out.at (i := 1) rfl
  have o1 := K2.out.at (i := 1) rfl
  have rz1 := K1.out.frozen 1
  have oz1 := K2.out.frozen 1
  have f2 := K0.out.at (i := 2) rfl
  have r2 := K1.out.at (i := 2) rfl
  have o2 := K2.out.at (i := 2) rfl
  have rz2 := K1.out.frozen 2
  have oz2 := K2.out.frozen 2
  have f3 := K0.out.at (i := 3) rfl
  have r3 := K1.out.at (i := 3) rfl
  have o3 := K2.out.at (i := 3) rfl
  have rz3 := K1.out.frozen 3
  have oz3 := K2.out.frozen 3
  have hz1 : w.heap.size + 2 < w1.heap.size := by have := hb1.size; simp at this; omega
  clear hb1
  go_wp2_with fail
  refine (toActionS_any A2 _ c2 x.thn L2 _ rfl (by omega) (S2.out.below (by repeat (first | refine Below.setCell ?_ (by dsimp only; omega) _ | refine Below.alloc ?_ (by first | (simp; done) | (simp; omega) | omega) _ | exact B1.out)))).mono ?_
  rintro e w2 ⟨v2, rfl, a2⟩
  obtain ⟨vA2, vc2, rfl⟩ := a2.shape
  have hb2 := a2.below
  obtain ⟨M2, g2⟩ := a2.got
  clear a2
  have G2 := Lib.hid (g2.mono (show w1.heap.size ≤ _ by simp))
  have lt2 := Lib.hid g2.lt
  clear g2
  have B2 : Hid (Below w.heap.size w w2) := Below.trans (by repeat (first | refine Below.setCell ?_ (by dsimp only; omega) _ | refine Below.alloc ?_ (by first | (simp; done) | (simp; omega) | omega) _ | exact B1.out)) (hb2.mono (by first | (simp; done) | (simp; omega) | omega))
  have G1 : Hid (Got (sliceC cCond) (w.heap.size + 3) [.slice vA1 x.cond.length vc1] x.cond M1 w2) := Got.later (by repeat (first | refine Got.setCell ?_ (by dsimp only; omega) _ | exact G1.out)) hb2
  have K0 := Lib.hid (Blk.later (Blk.far K0.out (by dsimp only; omega) _) hb2)
  have K1 := Lib.hid (Blk.later (Blk.far K1.out (by dsimp only; omega) _) hb2)
  have K2 := Lib.hid (Blk.later (Blk.set_ K2.out 2 _) hb2)
  clear f0 r0 o0 rz0 oz0 f1 r1 o1 rz1 oz1 f2 r2 o2 rz2 oz2 f3 r3 o3 rz3 oz3
  have f0 := K0.out.at (i := 0) rfl
  have r0 := K1.out.at (i := 0) rfl
  have o0 := K2.out.at (i := 0) rfl
  have rz0 := K1.out.frozen 0
  have oz0 := K2.out.frozen 0
  have f1 := K0.out.at (i := 1) rfl
  have r1 := K1.out.at (i := 1) rfl
  have o1 := K2.out.at (i := 1) rfl
  have rz1 := K1.out.frozen 1
  have oz1 := K2.out.frozen 1
  have f2 := K0.out.at (i := 2) rfl
  have r2 := K1.out.at (i := 2) rfl
  have o2 := K2.out.at (i := 2) rfl
  have rz2 := K1.out.frozen 2
  have oz2 := K2.out.frozen 2
  have f3 := K0.out.at (i := 3) rfl
  have r3 := K1.out.at (i := 3) rfl
  have o3 := K2.out.at (i := 3) rfl
  have rz3 := K1.out.frozen 3
  have oz3 := K2.out.frozen 3
  have hz2 : w.heap.size + 2 < w2.heap.size := by have := hb2.size; simp at this; omega
  have hy2 : w1.heap.size ≤ w2.heap.size := by have := hb2.size; simp at this; omega
  clear hb2
  go_wp2_with fail
  refine bodyPost_ret (v := .agg #[.string x.name, .int .i64 x.priority, .slice vA1 x.cond.length vc1, .slice vA2 x.thn.length vc2]) (by simp [results, Try.results43, go_sem, r0, r1, r2, r3]) rfl ?_
  obtain ⟨nn1, mm1, ss1⟩ := sliceC_out G1.out.rep
  obtain ⟨nn2, mm2, ss2⟩ := sliceC_out G2.out.rep
  exact gives_of (wr := w2) (M1 ++ M2) ⟨⟨vA1, vc1, M1, vA2, vc2, M2, rfl, rfl, t0, nn1, mm1, ss1, nn2, mm2, ss2⟩, by have o := (Own.append G1.out.own G2.out.own (by omega) lt1.out); simpa only [List.append_assoc] using o⟩ (by intro b hb; repeat rw [Below.heap_setCell _ _ _ _ (by dsimp only; omega)]) (by repeat (first | refine Below.setCell ?_ (by dsimp only; omega) _ | refine Below.alloc ?_ (by first | (simp; done) | (simp; omega) | omega) _ | exact B2.out))

theorem Try.infoRule : (Try.prog.info? 75).map (fun i => (i.zero, i.size, i.bytes)) = some (some (.agg #[.string ⟨#[]⟩, .int .i64 0, .slice none 0 0, .slice none 0 0]), 4, 72) := by kernel_rfl
set_option maxHeartbeats 1600000 in
theorem toRuleS_any (A : Option Addr) (n c : Nat) (ds : List RuleD) (L : List Nat) (w : World) (hn : n = ds.length) (hz : costRuleS ds ≤ 1048576) (h : Sli cRule w A ds L) :
    Calls Try.prog 22 #[.slice A n c] w (GivesS cRule 75 w ds) := by
  obtain ⟨i0, hi, hz0, hz1, hz2⟩ := info_parts Try.infoRule
  have H := Lib.hid h
  have HN := Lib.hid hn
  have hm : n ≤ 1048576 := by simp only [costRuleS] at hz; omega
  have HZ := Lib.hid hz
  clear h hn hz
  go_enter Try.func22, Try.ntmps22
  go_wp2_with (at_make; refine wpList_make_full _ rfl _ _ 36 rfl w.heap.size 75 i0 _ 4 Try.underlying36 hi hz0 hz1 .i64 .i64 _ _ n rfl rfl rfl rfl (by rw [hz2]; omega) (by unfold maxLen; omega) (Nat.le_refl _) ?_; intro w1 hown hg)
  have hb : Below w.heap.size w w1 := (Below.refl _ _).grown hg (Nat.le_refl _) (by simp)
  have HF0 : Hid (Filling cRule 75 w n ds 0 w1) := Filling.start hown hb
  clear hown hg hb
  go_wp2
  go_loopw [4] (fun i wr => ∃ (k : Nat), k ≤ n ∧ i = .int .i64 k ∧ Hid (Filling cRule 75 w n ds k wr)) (fun i _ => n - (intOf i).toNat)
  case atStart => exact ⟨0, Nat.zero_le _, rfl, HF0⟩
  case round =>
    obtain ⟨k, hk, rfl, HF⟩ := hrel
    by_cases hlt : k < n
    · have hkl : k < ds.length := by have := HN.out; omega
      obtain ⟨b, off, cs, Lk, rfl, hbL, hLk, hrep, hc⟩ := H.out.at_ hkl
      have hbl : b < w.heap.size := H.out.lt b hbL
      have HR := Lib.hid (cRule.keep hrep (keep_below HF.out.below (fun y m => H.out.lt y (hLk y m))))
      obtain ⟨A1, c1, A2, c2, rfl⟩ := cRule_cells hrep
      have q0 : wr.cell? ⟨b, off + k * 4, none⟩ = _ := (HF.out.below.cell (p := ⟨b, off + (k * 4 + 0), none⟩) hbl).trans (hc 0 _ rfl)
      have q1 : wr.cell? ⟨b, off + k * 4 + 1, none⟩ = _ := (HF.out.below.cell (p := ⟨b, off + (k * 4 + 1), none⟩) hbl).trans (hc 1 _ rfl)
      have q2 : wr.cell? ⟨b, off + k * 4 + 2, none⟩ = _ := (HF.out.below.cell (p := ⟨b, off + (k * 4 + 2), none⟩) hbl).trans (hc 2 _ rfl)
      have q3 : wr.cell? ⟨b, off + k * 4 + 3, none⟩ = _ := (HF.out.below.cell (p := ⟨b, off + (k * 4 + 3), none⟩) hbl).trans (hc 3 _ rfl)
      have hcx : Hid (costRule ds[k] ≤ 1048576) := cost_le costRule ds k hkl (by have := HZ.out; simp only [costRuleS] at this; omega)
      obtain ⟨x, hx⟩ : ∃ x, x = ds[k] := ⟨_, rfl⟩
      have HX := Lib.hid hx
      rw [← hx] at HR q0 q1 q2 q3 hcx
      clear hc hrep hx
      go_wp2_with fail
      refine (toRule_any _ x Lk _ hcx.out HR.out).mono ?_
      rintro e w2 ⟨cs2, M2, rfl, g2, hb2⟩
      have HF2 := Lib.hid (HF.out.later hb2)
      have HS := Lib.hid (HF.out.store hlt HN.out (fun _ => HX.out) hb2 g2)
      obtain ⟨vA1, vc1, vA2, vc2, rfl⟩ := cRule_cells g2.rep
      clear g2 hb2
      obtain ⟨d0, e0⟩ : ∃ d, w2.cell? ⟨w.heap.size, k * 4, none⟩ = some d := HF2.out.cell hlt (j := 0) (by decide)
      have z0 := HF2.out.frozen (k * 4)
      obtain ⟨d1, e1⟩ : ∃ d, w2.cell? ⟨w.heap.size, k * 4 + 1, none⟩ = some d := HF2.out.cell hlt (j := 1) (by decide)
      have z1 := HF2.out.frozen (k * 4 + 1)
      obtain ⟨d2, e2⟩ : ∃ d, w2.cell? ⟨w.heap.size, k * 4 + 2, none⟩ = some d := HF2.out.cell hlt (j := 2) (by decide)
      have z2 := HF2.out.frozen (k * 4 + 2)
      obtain ⟨d3, e3⟩ : ∃ d, w2.cell? ⟨w.heap.size, k * 4 + 3, none⟩ = some d := HF2.out.cell hlt (j := 3) (by decide)
      have z3 := HF2.out.frozen (k * 4 + 3)
      go_wp2_with fail
      go_roundw
      case rel => exact ⟨k + 1, by omega, by go_num, HS.out⟩
      case measure => simp [intOf]; omega
    · obtain rfl : k = n := by omega
      go_wp2
      go_ret
      exact ⟨_, rfl, HF.out.done HN.out⟩

end Go.Proofs.Ytccbhhglghboaaa

namespace Go.Proofs.Ytccbhhglghboaaa
open Go.RowKit

def TruePost (w : World) (e : Ending) (w' : World) : Prop := e = .returned (.bool true) ∧ Below w.heap.size w w'

set_option maxHeartbeats 1600000 in
theorem eqStringS_any (A B : Option Addr) (n c d : Nat) (ds : List ByteArray) (L M : List Nat) (w : World) (hn : n = ds.length) (hm : n ≤ 9223372036854775807) (h1 : Sli strC w A ds L) (h2 : Sli strC w B ds M) :
    Calls Try.prog 15 #[.slice A n c, .slice B n d] w (TruePost w) := by
  have H1 := Lib.hid h1
  have H2 := Lib.hid h2
  have HN := Lib.hid hn
  clear h1 h2 hn
  have hne : ((n : Int) != n) = false := by simp
  go_enter Try.func15, Try.ntmps15
  go_wp2
  go_loopw [5] (fun i wr => ∃ (k : Nat), k ≤ n ∧ i = .int .i64 k ∧ Hid (∃ q, wr = w.drewN q)) (fun i _ => n - (intOf i).toNat)
  case atStart => exact ⟨0, Nat.zero_le _, rfl, 0, rfl⟩
  case round =>
    obtain ⟨k, hk, rfl, hq⟩ := hrel
    obtain ⟨q, rfl⟩ := hq.out
    by_cases hlt : k < n
    · have hkl : k < ds.length := by have := HN.out; omega
      obtain ⟨b, off, cs, Lk, rfl, _, _, hrep, hc⟩ := H1.out.at_ hkl
      obtain ⟨b', off', cs', Mk, rfl, _, _, hrep', hc'⟩ := H2.out.at_ hkl
      generalize ds[k] = x at *
      obtain ⟨rfl, _, _⟩ := hrep
      obtain ⟨rfl, _, _⟩ := hrep'
      have q0 := hc 0 _ rfl
      have p0 := hc' 0 _ rfl
      simp only [show strC.size = 1 from rfl, Nat.mul_one, Nat.add_zero] at q0 p0
      clear hc hc'
      have k0 : (0 : Int) ≤ k := by omega
      have k1 : (k : Int) < n := by omega
      go_wp2_with fail
      go_quiet (fail)
      go_wp2_with fail
      go_roundw
      case rel => exact ⟨k + 1, by omega, by go_num, by first | exact drew_ex _ _ _ | exact drew_ex1 _ _⟩
      case measure => simp [intOf]; omega
    · go_wp2
      go_ret
      exact ⟨rfl, below_of_drewN _ _ _⟩

set_option maxHeartbeats 1600000 in
theorem eqPattern_any (cs ds : List Value) (x : PatternD) (L M : List Nat) (w : World) (h1 : cPattern.rep w cs x L) (h2 : cPattern.rep w ds x M) :
    Calls Try.prog 143 #[.agg cs.toArray, .agg ds.toArray] w (TruePost w) := by
  obtain ⟨aA1, ac1, aL1, rfl, _ahL, at0, an1, am1, as1⟩ := h1
  obtain ⟨bA1, bc1, bL1, rfl, _bhL, bt0, bn1, bm1, bs1⟩ := h2
  unfold maxLen at am1 bm1
  have SA1 := Lib.hid as1
  have SB1 := Lib.hid bs1
  clear as1 bs1
  go_enter Try.func143, Try.ntmps143
  go_wp2_with fail
  refine (eqStringS_any aA1 bA1 _ ac1 bc1 x.args aL1 bL1 _ rfl (by omega) (SA1.out.below (by repeat (first | refine Below.setCell ?_ (by dsimp only; omega) _ | refine Below.alloc ?_ (by first | (simp; done) | (simp; omega) | omega) _ | exact Below.refl _ _))) (SB1.out.below (by repeat (first | refine Below.setCell ?_ (by dsimp only; omega) _ | refine Below.alloc ?_ (by first | (simp; done) | (simp; omega) | omega) _ | exact Below.refl _ _)))).mono ?_
  rintro e w1 ⟨rfl, hb1⟩
  have B1 : Hid (Below w.heap.size w w1) := Below.trans (by repeat (first | refine Below.setCell ?_ (by dsimp only; omega) _ | refine Below.alloc ?_ (by first | (simp; done) | (simp; omega) | omega) _ | exact Below.refl _ _)) (hb1.mono (by first | (simp; done) | (simp; omega) | omega))
  have K0 : Hid (Blk w1 w.heap.size 118 #[.string x.rel, .slice aA1 x.args.length ac1]) := Blk.later (Blk.alloc (Blk.new _ _ _) _) hb1
  have K1 : Hid (Blk w1 (w.heap.size + 1) 118 #[.string x.rel, .slice bA1 x.args.length bc1]) := Blk.later (Blk.new_at (by simp)) hb1
  have f0 := K0.out.at (i := 0) rfl
  have r0 := K1.out.at (i := 0) rfl
  have f1 := K0.out.at (i := 1) rfl
  have r1 := K1.out.at (i := 1) rfl
  clear hb1
  have hz1 := B1.out.size
  go_wp2_with fail
  go_ret
  exact ⟨rfl, (by repeat (first | refine Below.setCell ?_ (by dsimp only; omega) _ | refine Below.alloc ?_ (by first | (simp; done) | (simp; omega) | omega) _ | exact B1.out))⟩

set_option maxHeartbeats 1600000 in
theorem eqCond_any (cs ds : List Value) (x : CondD) (L M : List Nat) (w : World) (h1 : cCond.rep w cs x L) (h2 : cCond.rep w ds x M) :
    Calls Try.prog 83 #[.agg cs.toArray, .agg ds.toArray] w (TruePost w) := by
  obtain ⟨aA1, ac1, aL1, rfl, _ahL, at0, at1, at2, an1, am1, as1⟩ := h1
  obtain ⟨bA1, bc1, bL1, rfl, _bhL, bt0, bt1, bt2, bn1, bm1, bs1⟩ := h2
  unfold maxLen at am1 bm1
  have SA1 := Lib.hid as1
  have SB1 := Lib.hid bs1
  clear as1 bs1
  go_enter Try.func83, Try.ntmps83
  go_wp2_with fail
  refine (eqPattern_any [.string x.pattern.rel, .slice aA1 x.pattern.args.length ac1] [.string x.pattern.rel, .slice bA1 x.pattern.args.length bc1] x.pattern _ _ _ ⟨aA1, ac1, aL1, rfl, rfl, at0, an1, (by unfold maxLen; omega), SA1.out.below (by repeat (first | refine Below.setCell ?_ (by dsimp only; omega) _ | refine Below.alloc ?_ (by first | (simp; done) | (simp; omega) | omega) _ | exact Below.refl _ _))⟩ ⟨bA1, bc1, bL1, rfl, rfl, bt0, bn1, (by unfold maxLen; omega), SB1.out.below (by repeat (first | refine Below.setCell ?_ (by dsimp only; omega) _ | refine Below.alloc ?_ (by first | (simp; done) | (simp; omega) | omega) _ | exact Below.refl _ _))⟩).mono ?_
  rintro e w1 ⟨rfl, hb1⟩
  have B1 : Hid (Below w.heap.size w w1) := Below.trans (by repeat (first | refine Below.setCell ?_ (by dsimp only; omega) _ | refine Below.alloc ?_ (by first | (simp; done) | (simp; omega) | omega) _ | exact Below.refl _ _)) (hb1.mono (by first | (simp; done) | (simp; omega) | omega))
  have K0 : Hid (Blk w1 w.heap.size 120 #[.int .i64 x.kind, .string x.pattern.rel, .slice aA1 x.pattern.args.length ac1, .string x.left, .string x.right]) := Blk.later (Blk.alloc (Blk.new _ _ _) _) hb1
  have K1 : Hid (Blk w1 (w.heap.size + 1) 120 #[.int .i64 x.kind, .string x.pattern.rel, .slice bA1 x.pattern.args.length bc1, .string x.left, .string x.right]) := Blk.later (Blk.new_at (by simp)) hb1
  have f0 := K0.out.at (i := 0) rfl
  have r0 := K1.out.at (i := 0) rfl
  have f1 := K0.out.at (i := 1) rfl
  have r1 := K1.out.at (i := 1) rfl
  have f2 := K0.out.at (i := 2) rfl
  have r2 := K1.out.at (i := 2) rfl
  have f3 := K0.out.at (i := 3) rfl
  have r3 := K1.out.at (i := 3) rfl
  have f4 := K0.out.at (i := 4) rfl
  have r4 := K1.out.at (i := 4) rfl
  clear hb1
  have hz1 := B1.out.size
  go_wp2_with fail
  go_ret
  exact ⟨rfl, (by repeat (first | refine Below.setCell ?_ (by dsimp only; omega) _ | refine Below.alloc ?_ (by first | (simp; done) | (simp; omega) | omega) _ | exact B1.out))⟩

set_option maxRecDepth 100000 in
set_option maxHeartbeats 1600000 in
theorem eqCondS_any (A B : Option Addr) (n c d : Nat) (ds : List CondD) (L M : List Nat) (w : World) (hn : n = ds.length) (hm : n ≤ 9223372036854775807) (h1 : Sli cCond w A ds L) (h2 : Sli cCond w B ds M) :
    Calls Try.prog 38 #[.slice A n c, .slice B n d] w (TruePost w) := by
  have H1 := Lib.hid h1
  have H2 := Lib.hid h2
  have HN := Lib.hid hn
  clear h1 h2 hn
  have hne : ((n : Int) != n) = false := by simp
  go_enter Try.func38, Try.ntmps38
  go_wp2
  go_loopw [5] (fun i wr => ∃ (k : Nat), k ≤ n ∧ i = .int .i64 k ∧ Hid (Below w.heap.size w wr)) (fun i _ => n - (intOf i).toNat)
  case atStart => exact ⟨0, Nat.zero_le _, rfl, Below.refl _ _⟩
  case round =>
    obtain ⟨k, hk, rfl, HB⟩ := hrel
    by_cases hlt : k < n
    · have hkl : k < ds.length := by have := HN.out; omega
      obtain ⟨b, off, cs, Lk, rfl, hbL, hLk, hrep, hc⟩ := H1.out.at_ hkl
      obtain ⟨b', off', cs', Mk, rfl, hbM, hMk, hrep', hc'⟩ := H2.out.at_ hkl
      have hbl : b < w.heap.size := H1.out.lt b hbL
      have hbl' : b' < w.heap.size := H2.out.lt b' hbM
      have HR := Lib.hid (cCond.keep hrep (keep_below HB.out (fun y m => H1.out.lt y (hLk y m))))
      have HR' := Lib.hid (cCond.keep hrep' (keep_below HB.out (fun y m => H2.out.lt y (hMk y m))))
      generalize ds[k] = x at *
      obtain ⟨aA1, ac1, rfl⟩ := cCond_cells hrep
      obtain ⟨bA1, bc1, rfl⟩ := cCond_cells hrep'
      have q0 : wr.cell? ⟨b, off + k * 5, none⟩ = _ := (HB.out.cell (p := ⟨b, off + (k * 5 + 0), none⟩) hbl).trans (hc 0 _ rfl)
      have p0 : wr.cell? ⟨b', off' + k * 5, none⟩ = _ := (HB.out.cell (p := ⟨b', off' + (k * 5 + 0), none⟩) hbl').trans (hc' 0 _ rfl)
      have q1 : wr.cell? ⟨b, off + k * 5 + 1, none⟩ = _ := (HB.out.cell (p := ⟨b, off + (k * 5 + 1), none⟩) hbl).trans (hc 1 _ rfl)
      have p1 : wr.cell? ⟨b', off' + k * 5 + 1, none⟩ = _ := (HB.out.cell (p := ⟨b', off' + (k * 5 + 1), none⟩) hbl').trans (hc' 1 _ rfl)
      have q2 : wr.cell? ⟨b, off + k * 5 + 2, none⟩ = _ := (HB.out.cell (p := ⟨b, off + (k * 5 + 2), none⟩) hbl).trans (hc 2 _ rfl)
      have p2 : wr.cell? ⟨b', off' + k * 5 + 2, none⟩ = _ := (HB.out.cell (p := ⟨b', off' + (k * 5 + 2), none⟩) hbl').trans (hc' 2 _ rfl)
      have q3 : wr.cell? ⟨b, off + k * 5 + 3, none⟩ = _ := (HB.out.cell (p := ⟨b, off + (k * 5 + 3), none⟩) hbl).trans (hc 3 _ rfl)
      have p3 : wr.cell? ⟨b', off' + k * 5 + 3, none⟩ = _ := (HB.out.cell (p := ⟨b', off' + (k * 5 + 3), none⟩) hbl').trans (hc' 3 _ rfl)
      have q4 : wr.cell? ⟨b, off + k * 5 + 4, none⟩ = _ := (HB.out.cell (p := ⟨b, off + (k * 5 + 4), none⟩) hbl).trans (hc 4 _ rfl)
      have p4 : wr.cell? ⟨b', off' + k * 5 + 4, none⟩ = _ := (HB.out.cell (p := ⟨b', off' + (k * 5 + 4), none⟩) hbl').trans (hc' 4 _ rfl)
      clear hc hc' hrep hrep'
      have k0 : (0 : Int) ≤ k := by omega
      have k1 : (k : Int) < n := by omega
      go_wp2_with fail
      go_still_tail 8, (by kernel_rfl)
      change wpList _ _ _ _ _ wr.drew
      go_wp2_with (go_at_call 83; (refine (eqCond_any _ _ x Lk Mk wr.drew (cCond.keep HR.out (fun _ _ => rfl)) (cCond.keep HR'.out (fun _ _ => rfl))).mono ?_; rintro e w1 ⟨rfl, hb1⟩; have HB1 := Lib.hid (HB.out.drew.trans (hb1.mono HB.out.size)); clear hb1))
      go_roundw
      case rel => exact ⟨k + 1, by omega, by go_num, HB1.out⟩
      case measure => simp [intOf]; omega
    · go_wp2
      go_ret
      exact ⟨rfl, HB.out⟩

set_option maxHeartbeats 1600000 in
theorem eqAction_any (cs ds : List Value) (x : ActionD) (L M : List Nat) (w : World) (h1 : cAction.rep w cs x L) (h2 : cAction.rep w ds x M) :
    Calls Try.prog 150 #[.agg cs.toArray, .agg ds.toArray] w (TruePost w) := by
  obtain ⟨aA1, ac1, aL1, rfl, _ahL, at0, an1, am1, as1⟩ := h1
  obtain ⟨bA1, bc1, bL1, rfl, _bhL, bt0, bn1, bm1, bs1⟩ := h2
  unfold maxLen at am1 bm1
  have SA1 := Lib.hid as1
  have SB1 := Lib.hid bs1
  clear as1 bs1
  go_enter Try.func150, Try.ntmps150
  go_wp2_with fail
  refine (eqPattern_any [.string x.pattern.rel, .slice aA1 x.pattern.args.length ac1] [.string x.pattern.rel, .slice bA1 x.pattern.args.length bc1] x.pattern _ _ _ ⟨aA1, ac1, aL1, rfl, rfl, at0, an1, (by unfold maxLen; omega), SA1.out.below (by repeat (first | refine Below.setCell ?_ (by dsimp only; omega) _ | refine Below.alloc ?_ (by first | (simp; done) | (simp; omega) | omega) _ | exact Below.refl _ _))⟩ ⟨bA1, bc1, bL1, rfl, rfl, bt0, bn1, (by unfold maxLen; omega), SB1.out.below (by repeat (first | refine Below.setCell ?_ (by dsimp only; omega) _ | refine Below.alloc ?_ (by first | (simp; done) | (simp; omega) | omega) _ | exact Below.refl _ _))⟩).mono ?_
  rintro e w1 ⟨rfl, hb1⟩
  have B1 : Hid (Below w.heap.size w w1) := Below.trans (by repeat (first | refine Below.setCell ?_ (by dsimp only; omega) _ | refine Below.alloc ?_ (by first | (simp; done) | (simp; omega) | omega) _ | exact Below.refl _ _)) (hb1.mono (by first | (simp; done) | (simp; omega) | omega))
  have K0 : Hid (Blk w1 w.heap.size 128 #[.int .i64 x.kind, .string x.pattern.rel, .slice aA1 x.pattern.args.length ac1]) := Blk.later (Blk.alloc (Blk.new _ _ _) _) hb1
  have K1 : Hid (Blk w1 (w.heap.size + 1) 128 #[.int .i64 x.kind, .string x.pattern.rel, .slice bA1 x.pattern.args.length bc1]) := Blk.later (Blk.new_at (by simp)) hb1
  have f0 := K0.out.at (i := 0) rfl
  have r0 := K1.out.at (i := 0) rfl
  have f1 := K0.out.at (i := 1) rfl
  have r1 := K1.out.at (i := 1) rfl
  have f2 := K0.out.at (i := 2) rfl
  have r2 := K1.out.at (i := 2) rfl
  clear hb1
  have hz1 := B1.out.size
  go_wp2_with fail
  go_ret
  exact ⟨rfl, (by repeat (first | refine Below.setCell ?_ (by dsimp only; omega) _ | refine Below.alloc ?_ (by first | (simp; done) | (simp; omega) | omega) _ | exact B1.out))⟩

set_option maxRecDepth 100000 in
set_option maxHeartbeats 1600000 in
theorem eqActionS_any (A B : Option Addr) (n c d : Nat) (ds : List ActionD) (L M : List Nat) (w : World) (hn : n = ds.length) (hm : n ≤ 9223372036854775807) (h1 : Sli cAction w A ds L) (h2 : Sli cAction w B ds M) :
    Calls Try.prog 95 #[.slice A n c, .slice B n d] w (TruePost w) := by
  have H1 := Lib.hid h1
  have H2 := Lib.hid h2
  have HN := Lib.hid hn
  clear h1 h2 hn
  have hne : ((n : Int) != n) = false := by simp
  go_enter Try.func95, Try.ntmps95
  go_wp2
  go_loopw [5] (fun i wr => ∃ (k : Nat), k ≤ n ∧ i = .int .i64 k ∧ Hid (Below w.heap.size w wr)) (fun i _ => n - (intOf i).toNat)
  case atStart => exact ⟨0, Nat.zero_le _, rfl, Below.refl _ _⟩
  case round =>
    obtain ⟨k, hk, rfl, HB⟩ := hrel
    by_cases hlt : k < n
    · have hkl : k < ds.length := by have := HN.out; omega
      obtain ⟨b, off, cs, Lk, rfl, hbL, hLk, hrep, hc⟩ := H1.out.at_ hkl
      obtain ⟨b', off', cs', Mk, rfl, hbM, hMk, hrep', hc'⟩ := H2.out.at_ hkl
      have hbl : b < w.heap.size := H1.out.lt b hbL
      have hbl' : b' < w.heap.size := H2.out.lt b' hbM
      have HR := Lib.hid (cAction.keep hrep (keep_below HB.out (fun y m => H1.out.lt y (hLk y m))))
      have HR' := Lib.hid (cAction.keep hrep' (keep_below HB.out (fun y m => H2.out.lt y (hMk y m))))
      generalize ds[k] = x at *
      obtain ⟨aA1, ac1, rfl⟩ := cAction_cells hrep
      obtain ⟨bA1, bc1, rfl⟩ := cAction_cells hrep'
      have q0 : wr.cell? ⟨b, off + k * 3, none⟩ = _ := (HB.out.cell (p := ⟨b, off + (k * 3 + 0), none⟩) hbl).trans (hc 0 _ rfl)
      have p0 : wr.cell? ⟨b', off' + k * 3, none⟩ = _ := (HB.out.cell (p := ⟨b', off' + (k * 3 + 0), none⟩) hbl').trans (hc' 0 _ rfl)
      have q1 : wr.cell? ⟨b, off + k * 3 + 1, none⟩ = _ := (HB.out.cell (p := ⟨b, off + (k * 3 + 1), none⟩) hbl).trans (hc 1 _ rfl)
      have p1 : wr.cell? ⟨b', off' + k * 3 + 1, none⟩ = _ := (HB.out.cell (p := ⟨b', off' + (k * 3 + 1), none⟩) hbl').trans (hc' 1 _ rfl)
      have q2 : wr.cell? ⟨b, off + k * 3 + 2, none⟩ = _ := (HB.out.cell (p := ⟨b, off + (k * 3 + 2), none⟩) hbl).trans (hc 2 _ rfl)
      have p2 : wr.cell? ⟨b', off' + k * 3 + 2, none⟩ = _ := (HB.out.cell (p := ⟨b', off' + (k * 3 + 2), none⟩) hbl').trans (hc' 2 _ rfl)
      clear hc hc' hrep hrep'
      have k0 : (0 : Int) ≤ k := by omega
      have k1 : (k : Int) < n := by omega
      go_wp2_with fail
      go_still_tail 8, (by kernel_rfl)
      change wpList _ _ _ _ _ wr.drew
      go_wp2_with (go_at_call 150; (refine (eqAction_any _ _ x Lk Mk wr.drew (cAction.keep HR.out (fun _ _ => rfl)) (cAction.keep HR'.out (fun _ _ => rfl))).mono ?_; rintro e w1 ⟨rfl, hb1⟩; have HB1 := Lib.hid (HB.out.drew.trans (hb1.mono HB.out.size)); clear hb1))
      go_roundw
      case rel => exact ⟨k + 1, by omega, by go_num, HB1.out⟩
      case measure => simp [intOf]; omega
    · go_wp2
      go_ret
      exact ⟨rfl, HB.out⟩

set_option maxHeartbeats 1600000 in
theorem eqRule_any (cs ds : List Value) (x : RuleD) (L M : List Nat) (w : World) (h1 : cRule.rep w cs x L) (h2 : cRule.rep w ds x M) :
    Calls Try.prog 45 #[.agg cs.toArray, .agg ds.toArray] w (TruePost w) := by
  obtain ⟨aA1, ac1, aL1, aA2, ac2, aL2, rfl, _ahL, at0, an1, am1, as1, an2, am2, as2⟩ := h1
  obtain ⟨bA1, bc1, bL1, bA2, bc2, bL2, rfl, _bhL, bt0, bn1, bm1, bs1, bn2, bm2, bs2⟩ := h2
  unfold maxLen at am1 bm1 am2 bm2
  have SA1 := Lib.hid as1
  have SB1 := Lib.hid bs1
  clear as1 bs1
  have SA2 := Lib.hid as2
  have SB2 := Lib.hid bs2
  clear as2 bs2
  go_enter Try.func45, Try.ntmps45
  go_wp2_with fail
  refine (eqCondS_any aA1 bA1 _ ac1 bc1 x.cond aL1 bL1 _ rfl (by omega) (SA1.out.below (by repeat (first | refine Below.setCell ?_ (by dsimp only; omega) _ | refine Below.alloc ?_ (by first | (simp; done) | (simp; omega) | omega) _ | exact Below.refl _ _))) (SB1.out.below (by repeat (first | refine Below.setCell ?_ (by dsimp only; omega) _ | refine Below.alloc ?_ (by first | (simp; done) | (simp; omega) | omega) _ | exact Below.refl _ _)))).mono ?_
  rintro e w1 ⟨rfl, hb1⟩
  have B1 : Hid (Below w.heap.size w w1) := Below.trans (by repeat (first | refine Below.setCell ?_ (by dsimp only; omega) _ | refine Below.alloc ?_ (by first | (simp; done) | (simp; omega) | omega) _ | exact Below.refl _ _)) (hb1.mono (by first | (simp; done) | (simp; omega) | omega))
  have K0 : Hid (Blk w1 w.heap.size 75 #[.string x.name, .int .i64 x.priority, .slice aA1 x.cond.length ac1, .slice aA2 x.thn.length ac2]) := Blk.later (Blk.alloc (Blk.new _ _ _) _) hb1
  have K1 : Hid (Blk w1 (w.heap.size + 1) 75 #[.string x.name, .int .i64 x.priority, .slice bA1 x.cond.length bc1, .slice bA2 x.thn.length bc2]) := Blk.later (Blk.new_at (by simp)) hb1
  have f0 := K0.out.at (i := 0) rfl
  have r0 := K1.out.at (i := 0) rfl
  have f1 := K0.out.at (i := 1) rfl
  have r1 := K1.out.at (i := 1) rfl
  have f2 := K0.out.at (i := 2) rfl
  have r2 := K1.out.at (i := 2) rfl
  have f3 := K0.out.at (i := 3) rfl
  have r3 := K1.out.at (i := 3) rfl
  clear hb1
  have hz1 := B1.out.size
  go_wp2_with fail
  refine (eqActionS_any aA2 bA2 _ ac2 bc2 x.thn aL2 bL2 _ rfl (by omega) (SA2.out.below (by repeat (first | refine Below.setCell ?_ (by dsimp only; omega) _ | refine Below.alloc ?_ (by first | (simp; done) | (simp; omega) | omega) _ | exact B1.out))) (SB2.out.below (by repeat (first | refine Below.setCell ?_ (by dsimp only; omega) _ | refine Below.alloc ?_ (by first | (simp; done) | (simp; omega) | omega) _ | exact B1.out)))).mono ?_
  rintro e w2 ⟨rfl, hb2⟩
  have B2 : Hid (Below w.heap.size w w2) := Below.trans (by repeat (first | refine Below.setCell ?_ (by dsimp only; omega) _ | refine Below.alloc ?_ (by first | (simp; done) | (simp; omega) | omega) _ | exact B1.out)) (hb2.mono (by first | (simp; done) | (simp; omega) | omega))
  have K0 := Lib.hid (K0.out.later hb2)
  have K1 := Lib.hid (K1.out.later hb2)
  clear f0 r0 f1 r1 f2 r2 f3 r3
  have f0 := K0.out.at (i := 0) rfl
  have r0 := K1.out.at (i := 0) rfl
  have f1 := K0.out.at (i := 1) rfl
  have r1 := K1.out.at (i := 1) rfl
  have f2 := K0.out.at (i := 2) rfl
  have r2 := K1.out.at (i := 2) rfl
  have f3 := K0.out.at (i := 3) rfl
  have r3 := K1.out.at (i := 3) rfl
  clear hb2
  have hz2 := B2.out.size
  go_wp2_with fail
  go_ret
  exact ⟨rfl, (by repeat (first | refine Below.setCell ?_ (by dsimp only; omega) _ | refine Below.alloc ?_ (by first | (simp; done) | (simp; omega) | omega) _ | exact B2.out))⟩

set_option maxRecDepth 100000 in
set_option maxHeartbeats 1600000 in
theorem eqRuleS_any (A B : Option Addr) (n c d : Nat) (ds : List RuleD) (L M : List Nat) (w : World) (hn : n = ds.length) (hm : n ≤ 9223372036854775807) (h1 : Sli cRule w A ds L) (h2 : Sli cRule w B ds M) :
    Calls Try.prog 24 #[.slice A n c, .slice B n d] w (TruePost w) := by
  have H1 := Lib.hid h1
  have H2 := Lib.hid h2
  have HN := Lib.hid hn
  clear h1 h2 hn
  have hne : ((n : Int) != n) = false := by simp
  go_enter Try.func24, Try.ntmps24
  go_wp2
  go_loopw [5] (fun i wr => ∃ (k : Nat), k ≤ n ∧ i = .int .i64 k ∧ Hid (Below w.heap.size w wr)) (fun i _ => n - (intOf i).toNat)
  case atStart => exact ⟨0, Nat.zero_le _, rfl, Below.refl _ _⟩
  case round =>
    obtain ⟨k, hk, rfl, HB⟩ := hrel
    by_cases hlt : k < n
    · have hkl : k < ds.length := by have := HN.out; omega
      obtain ⟨b, off, cs, Lk, rfl, hbL, hLk, hrep, hc⟩ := H1.out.at_ hkl
      obtain ⟨b', off', cs', Mk, rfl, hbM, hMk, hrep', hc'⟩ := H2.out.at_ hkl
      have hbl : b < w.heap.size := H1.out.lt b hbL
      have hbl' : b' < w.heap.size := H2.out.lt b' hbM
      have HR := Lib.hid (cRule.keep hrep (keep_below HB.out (fun y m => H1.out.lt y (hLk y m))))
      have HR' := Lib.hid (cRule.keep hrep' (keep_below HB.out (fun y m => H2.out.lt y (hMk y m))))
      generalize ds[k] = x at *
      obtain ⟨aA1, ac1, aA2, ac2, rfl⟩ := cRule_cells hrep
      obtain ⟨bA1, bc1, bA2, bc2, rfl⟩ := cRule_cells hrep'
      have q0 : wr.cell? ⟨b, off + k * 4, none⟩ = _ := (HB.out.cell (p := ⟨b, off + (k * 4 + 0), none⟩) hbl).trans (hc 0 _ rfl)
      have p0 : wr.cell? ⟨b', off' + k * 4, none⟩ = _ := (HB.out.cell (p := ⟨b', off' + (k * 4 + 0), none⟩) hbl').trans (hc' 0 _ rfl)
      have q1 : wr.cell? ⟨b, off + k * 4 + 1, none⟩ = _ := (HB.out.cell (p := ⟨b, off + (k * 4 + 1), none⟩) hbl).trans (hc 1 _ rfl)
      have p1 : wr.cell? ⟨b', off' + k * 4 + 1, none⟩ = _ := (HB.out.cell (p := ⟨b', off' + (k * 4 + 1), none⟩) hbl').trans (hc' 1 _ rfl)
      have q2 : wr.cell? ⟨b, off + k * 4 + 2, none⟩ = _ := (HB.out.cell (p := ⟨b, off + (k * 4 + 2), none⟩) hbl).trans (hc 2 _ rfl)
      have p2 : wr.cell? ⟨b', off' + k * 4 + 2, none⟩ = _ := (HB.out.cell (p := ⟨b', off' + (k * 4 + 2), none⟩) hbl').trans (hc' 2 _ rfl)
      have q3 : wr.cell? ⟨b, off + k * 4 + 3, none⟩ = _ := (HB.out.cell (p := ⟨b, off + (k * 4 + 3), none⟩) hbl).trans (hc 3 _ rfl)
      have p3 : wr.cell? ⟨b', off' + k * 4 + 3, none⟩ = _ := (HB.out.cell (p := ⟨b', off' + (k * 4 + 3), none⟩) hbl').trans (hc' 3 _ rfl)
      clear hc hc' hrep hrep'
      have k0 : (0 : Int) ≤ k := by omega
      have k1 : (k : Int) < n := by omega
      go_wp2_with fail
      go_still_tail 8, (by kernel_rfl)
      change wpList _ _ _ _ _ wr.drew
      go_wp2_with (go_at_call 45; (refine (eqRule_any _ _ x Lk Mk wr.drew (cRule.keep HR.out (fun _ _ => rfl)) (cRule.keep HR'.out (fun _ _ => rfl))).mono ?_; rintro e w1 ⟨rfl, hb1⟩; have HB1 := Lib.hid (HB.out.drew.trans (hb1.mono HB.out.size)); clear hb1))
      go_roundw
      case rel => exact ⟨k + 1, by omega, by go_num, HB1.out⟩
      case measure => simp [intOf]; omega
    · go_wp2
      go_ret
      exact ⟨rfl, HB.out⟩

end Go.Proofs.Ytccbhhglghboaaa

namespace Go.Proofs.Ytccbhhglghboaaa
open Go.RowKit Go.Deep

def Opens {α : Type} (P : Program) (t : TypeId) (c : Codec α) (wf : α → Prop) : Prop :=
  ∀ {H : Type} {enc : TypeId × Value → H} {w : World} {base : Nat} {spare : Nat → Bool} {held : Bool} {fuel : Nat} {cs : List Value} {x : DataW H × List MemPlace},
    DataW.trod enc P w base spare held fuel t cs = some x → ∃ d L, c.rep w cs d L ∧ wf d

def wfInt (n : Int) : Prop := -9223372036854775808 ≤ n ∧ n ≤ 9223372036854775807
theorem opens_int {P : Program} {t : TypeId} (ht : P.underlying t = some (.int .i64)) : Opens P t intC wfInt := by
  intro H enc w base spare held fuel cs x h
  obtain ⟨n, rfl, _, hw⟩ := DataW.trod_int ht h
  refine ⟨n, [], ⟨rfl, rfl⟩, ?_⟩
  simp [Lit.wf, IntKind.min, IntKind.max, IntKind.signed, IntKind.bits] at hw
  exact ⟨by omega, by omega⟩
theorem opens_string {P : Program} {t : TypeId} (ht : P.underlying t = some .string) : Opens P t strC (fun _ => True) := by
  intro H enc w base spare held fuel cs x h
  obtain ⟨s, rfl, _, hs⟩ := DataW.trod_string ht h
  exact ⟨s, [], ⟨rfl, rfl, by unfold maxLen at hs; omega⟩, trivial⟩
theorem opens_slice {α : Type} {c : Codec α} {wf : α → Prop} {P : Program} {t e : TypeId} (ht : P.underlying t = some (.slice e)) (hc : P.cellsOf e = c.size) (ho : Opens P e c wf) : Opens P t (sliceC c) (fun ds => ∀ d ∈ ds, wf d) := by
  intro H enc w base spare held fuel cs x h
  rcases open_slice ht h with ⟨rfl, _⟩ | ⟨a, len, cap, m, n, D, Pl, rfl, hb, hl, hm, hmm, _, hx⟩
  · exact ⟨[], [], ⟨none, 0, rfl, Nat.le_refl _, Nat.zero_le _, Sli.nil _ _⟩, by simp⟩
  · have hlm : len ≤ m := by rw [hmm]; split <;> omega
    have key : ∀ q, q ≤ len → ∃ (xs : List Value) (ds : List α) (L : List Nat), ds.length = q ∧ (∀ j u, xs[j]? = some u → w.cell? (a.add j) = some u) ∧ c.reps w xs ds L ∧ ∀ d ∈ ds, wf d := by
      intro q
      induction q with
      | zero => exact fun _ => ⟨[], [], [], rfl, by simp, ⟨rfl, rfl⟩, by simp⟩
      | succ q ih =>
        intro hq
        obtain ⟨xs, ds, L, hd, hcell, hr, hwf⟩ := ih (by omega)
        obtain ⟨cs', h1, h2⟩ := hx q (by omega)
        obtain ⟨d, Lq, hrep, hwd⟩ := ho h2
        obtain ⟨_, hlen, hat⟩ := World.cells?_some h1
        refine ⟨xs ++ cs', ds ++ [d], L ++ Lq, by simp [hd], fun j u hu => ?_, reps_append hr (reps_one_of hrep), ?_⟩
        · have hxl : xs.length = q * c.size := by rw [reps_len hr, hd]
          rw [List.getElem?_append] at hu
          split at hu
          · exact hcell j u hu
          · rename_i hj
            have hj2 := (List.getElem?_eq_some_iff.1 hu).1
            have := hat (j - xs.length) (by omega)
            rw [← hu, ← this, Go.Deep.add_add, hc, ← hxl]
            congr 2
            omega
        · intro y hy
          rcases List.mem_append.1 hy with hy | hy
          · exact hwf y hy
          · simp at hy; subst hy; exact hwd
    obtain ⟨xs, ds, L, hd, hcell, hr, hwf⟩ := key len (Nat.le_refl _)
    have hxl := reps_len hr
    rcases Nat.eq_zero_or_pos len with h0 | h0
    · have : ds = [] := List.eq_nil_of_length_eq_zero (by omega)
      subst this
      refine ⟨[], [], ⟨some a, cap, by simp at hd; rw [← hd]; rfl, by simp, hm, Sli.nil _ _⟩, by simp⟩
    · obtain ⟨b, off, sp⟩ := a
      have hp : 0 < xs.length := by rw [hxl, hd]; exact Nat.mul_pos h0 c.pos
      have hsp : sp = none := by
        have h1 := hcell 0 _ (List.getElem?_eq_getElem hp)
        have e : (⟨b, off, sp⟩ : Addr).add 0 = ⟨b, off, sp⟩ := by simp [Addr.add]
        rw [e] at h1
        cases sp with
        | none => rfl
        | some q =>
          simp only [World.cell?] at h1
          split at h1 <;> simp at h1
      subst hsp
      refine ⟨ds, [b] ++ L, ⟨some ⟨b, off, none⟩, cap, by rw [hd], by omega, hm, xs, [b], L, rfl, ⟨by rw [hxl], .inr ⟨by omega, b, off, rfl, rfl, fun j u hu => ?_⟩⟩, hr⟩, hwf⟩
      have := hcell j u hu
      rwa [add_lit0] at this

end Go.Proofs.Ytccbhhglghboaaa

namespace Go.Proofs.Ytccbhhglghboaaa
open Go.RowKit

theorem sAreLogical_std {aRules : List RuleD} {r : Bool} (hh : s_AreLogical aRules = some r) (w : World) (AaRules : Option Addr) (caRules : Nat) (LaRules : List Nat) (haRules : (sliceC cRule).rep w [.slice AaRules aRules.length caRules] aRules LaRules) :
    Calls Try.prog 50 #[.slice AaRules aRules.length caRules] w (fun e w' => e = .returned (.bool r) ∧ Below w.heap.size w w') :=
  Sound.givesB (s_AreLogical_ok hh) trivial (vs := [_]) ⟨arg_sl encRule _ haRules, trivial⟩

theorem iAreLogical_std {aRules : List RuleD} {r : Bool} (hh : i_AreLogical aRules = some r) (w : World) (AaRules : Option Addr) (caRules : Nat) (LaRules : List Nat) (haRules : (sliceC cRule).rep w [.slice AaRules aRules.length caRules] aRules LaRules) :
    Calls Try.prog 51 #[.slice AaRules aRules.length caRules] w (fun e w' => e = .returned (.bool r) ∧ Below w.heap.size w w') :=
  Sound.givesB (i_AreLogical_ok hh) trivial (vs := [_]) ⟨arg_sl encRule _ haRules, trivial⟩

set_option maxRecDepth 100000 in
set_option maxHeartbeats 8000000 in
theorem FnExactAreLogical_walk (w : World) (A_aRules : Option Addr) (c_aRules : Nat) (aRules : List RuleD) (L_aRules : List Nat) (ln_aRules : aRules.length ≤ 9223372036854775807) (h_aRules : Sli cRule w A_aRules aRules L_aRules) :
    Calls Try.prog 10 #[.slice A_aRules aRules.length c_aRules] w fun e w' => e = .returned (.bool true) ∧ Below w.heap.size w w' := by
  have H_aRules := Lib.hid h_aRules
  clear h_aRules
  go_enter Try.func10, Try.ntmps10
  go_wp2_with fail
  refine (szRuleS_any A_aRules _ c_aRules aRules L_aRules _ _ rfl ln_aRules (by omega) (by omega) (H_aRules.out.below (Below.refl w.heap.size w))).mono ?_
  rintro e w1 ⟨rfl, hb⟩
  have B1 := Lib.hid ((Below.refl w.heap.size w).trans (hb.mono (Below.refl w.heap.size w).size))
  have sz1 := hb.size
  clear hb
  by_cases cc_aRules : ((costRuleS aRules : Nat) : Int) ≤ 1048576
  rotate_left
  · rw [szR_neg cc_aRules]
    go_wp2
    go_ret
    exact ⟨rfl, B1.out⟩
  rw [szR_pos cc_aRules]
  have cz_aRules : costRuleS aRules ≤ 1048576 := by omega
  have cl_aRules : aRules.length ≤ 1048576 := by have := cz_aRules; simp only [costRuleS] at this; omega
  have nn_aRules : ¬ (1048576 - ((costRuleS aRules : Nat) : Int) < 0) := by omega
  obtain ⟨R0, hs0, hi0⟩ := AreLogical_plain aRules cz_aRules
  go_wp2_with fail
  refine (toRuleS_any A_aRules _ c_aRules aRules L_aRules _ rfl cz_aRules (H_aRules.out.below B1.out)).mono ?_
  rintro e w2 ⟨v, rfl, acc⟩
  obtain ⟨A_t1aRules, c_t1aRules, rfl⟩ := acc.shape
  have hb := acc.below
  obtain ⟨L_t1aRules, gt⟩ := acc.got
  have B2 := Lib.hid (B1.out.trans (hb.mono B1.out.size))
  have sz2 := hb.size
  clear B1
  have V_t1aRules := Lib.hid gt
  have ge_t1aRules := Lib.hid gt.own.ge
  have lt_t1aRules := Lib.hid gt.lt
  clear gt hb acc
  go_wp2_with fail
  refine (sAreLogical_std hs0 _ A_t1aRules c_t1aRules L_t1aRules V_t1aRules.out.rep).mono ?_
  rintro e w3 ⟨rfl, hb⟩
  have B3 := Lib.hid (B2.out.trans (hb.mono B2.out.size))
  have sz3 := hb.size
  have V_t1aRules := Lib.hid (V_t1aRules.out.later hb)
  clear B2
  clear hb
  clear V_t1aRules
  go_wp2_with fail
  refine (toRuleS_any A_aRules _ c_aRules aRules L_aRules _ rfl cz_aRules (H_aRules.out.below B3.out)).mono ?_
  rintro e w4 ⟨v, rfl, acc⟩
  obtain ⟨A_x0, c_x0, rfl⟩ := acc.shape
  have hb := acc.below
  obtain ⟨L_x0, gt⟩ := acc.got
  have B4 := Lib.hid (B3.out.trans (hb.mono B3.out.size))
  have sz4 := hb.size
  clear B3
  have V_x0 := Lib.hid gt
  have ge_x0 := Lib.hid gt.own.ge
  have lt_x0 := Lib.hid gt.lt
  clear gt hb acc
  go_wp2_with fail
  refine (iAreLogical_std hi0 _ A_x0 c_x0 L_x0 V_x0.out.rep).mono ?_
  rintro e w5 ⟨rfl, hb⟩
  have B5 := Lib.hid (B4.out.trans (hb.mono B4.out.size))
  have sz5 := hb.size
  have V_x0 := Lib.hid (V_x0.out.later hb)
  clear B4
  clear hb
  have hne : (R0 != R0) = false := by simp
  go_wp2_with fail
  refine (toRuleS_any A_aRules _ c_aRules aRules L_aRules _ rfl cz_aRules (H_aRules.out.below B5.out)).mono ?_
  rintro e w6 ⟨v, rfl, acc⟩
  obtain ⟨A_t5aRules, c_t5aRules, rfl⟩ := acc.shape
  have hb := acc.below
  obtain ⟨L_t5aRules, gt⟩ := acc.got
  have B6 := Lib.hid (B5.out.trans (hb.mono B5.out.size))
  have sz6 := hb.size
  have V_x0 := Lib.hid (V_x0.out.later hb)
  clear B5
  have V_t5aRules := Lib.hid gt
  have ge_t5aRules := Lib.hid gt.own.ge
  have lt_t5aRules := Lib.hid gt.lt
  clear gt hb acc
  go_wp2_with fail
  refine (eqRuleS_any A_x0 A_t5aRules _ c_x0 c_t5aRules _ L_x0 L_t5aRules _ rfl (by omega) (sliceC_out V_x0.out.rep).2.2 (sliceC_out V_t5aRules.out.rep).2.2).mono ?_
  rintro e w7 ⟨rfl, hb⟩
  have B7 := Lib.hid (B6.out.trans (hb.mono B6.out.size))
  have sz7 := hb.size
  have V_x0 := Lib.hid (V_x0.out.later hb)
  have V_t5aRules := Lib.hid (V_t5aRules.out.later hb)
  clear B6
  clear hb
  clear V_t5aRules
  go_wp2_with fail
  go_ret
  exact ⟨rfl, B7.out⟩

end Go.Proofs.Ytccbhhglghboaaa

namespace Go.Proofs.Ytccbhhglghboaaa
open Go.RowKit

def wfPattern (x : PatternD) : Prop := (fun _ => True) x.rel ∧ (fun ds => ∀ d ∈ ds, (fun _ => True) d) x.args
set_option maxRecDepth 100000 in
theorem opensPattern : Opens Try.prog 114 cPattern wfPattern := by
  intro H enc w base spare held fuel cs x h
  obtain ⟨xs, n, _, _, hlen, hxl, hf⟩ := DataW.trod_struct Try.underlying114 h
  have hl : cs.length = 2 := hlen.trans (by kernel_rfl)
  have hx : xs.length = 2 := hxl
  match cs, hl with
  | [a0, a1], _ =>
    have f0 : DataW.trod enc Try.prog w base spare held n 9 [a0] = some (xs[0]'(by omega)) := by
      have this : DataW.trod enc Try.prog w base spare held n 9 (List.take (Try.prog.cellsOf 9) (List.drop 0 [a0, a1])) = _ := (hf 0 _ rfl).trans (List.getElem?_eq_getElem (show 0 < xs.length by omega))
      rw [show Try.prog.cellsOf 9 = 1 by kernel_rfl] at this
      exact this
    have f1 : DataW.trod enc Try.prog w base spare held n 24 [a1] = some (xs[1]'(by omega)) := by
      have this : DataW.trod enc Try.prog w base spare held n 24 (List.take (Try.prog.cellsOf 24) (List.drop 1 [a0, a1])) = _ := (hf 1 _ rfl).trans (List.getElem?_eq_getElem (show 1 < xs.length by omega))
      rw [show Try.prog.cellsOf 24 = 1 by kernel_rfl] at this
      exact this
    obtain ⟨d0, M0, r0, w0⟩ := (opens_string Try.underlying9) f0
    obtain ⟨e0, _, t0⟩ := r0
    cases e0
    obtain ⟨d1, M1, r1, w1⟩ := (opens_slice Try.underlying24 (by kernel_rfl) (opens_string Try.underlying9)) f1
    obtain ⟨A1, c1, e1, n1, m1, s1⟩ := r1
    cases e1
    exact ⟨⟨d0, d1⟩, _, ⟨A1, c1, M1, rfl, rfl, t0, n1, m1, s1⟩, ⟨w0, w1⟩⟩

def wfCond (x : CondD) : Prop := wfInt x.kind ∧ wfPattern x.pattern ∧ (fun _ => True) x.left ∧ (fun _ => True) x.right
set_option maxRecDepth 100000 in
theorem opensCond : Opens Try.prog 116 cCond wfCond := by
  intro H enc w base spare held fuel cs x h
  obtain ⟨xs, n, _, _, hlen, hxl, hf⟩ := DataW.trod_struct Try.underlying116 h
  have hl : cs.length = 5 := hlen.trans (by kernel_rfl)
  have hx : xs.length = 4 := hxl
  match cs, hl with
  | [a0, a1, a2, a3, a4], _ =>
    have f0 : DataW.trod enc Try.prog w base spare held n 3 [a0] = some (xs[0]'(by omega)) := by
      have this : DataW.trod enc Try.prog w base spare held n 3 (List.take (Try.prog.cellsOf 3) (List.drop 0 [a0, a1, a2, a3, a4])) = _ := (hf 0 _ rfl).trans (List.getElem?_eq_getElem (show 0 < xs.length by omega))
      rw [show Try.prog.cellsOf 3 = 1 by kernel_rfl] at this
      exact this
    have f1 : DataW.trod enc Try.prog w base spare held n 114 [a1, a2] = some (xs[1]'(by omega)) := by
      have this : DataW.trod enc Try.prog w base spare held n 114 (List.take (Try.prog.cellsOf 114) (List.drop 1 [a0, a1, a2, a3, a4])) = _ := (hf 1 _ rfl).trans (List.getElem?_eq_getElem (show 1 < xs.length by omega))
      rw [show Try.prog.cellsOf 114 = 2 by kernel_rfl] at this
      exact this
    have f2 : DataW.trod enc Try.prog w base spare held n 9 [a3] = some (xs[2]'(by omega)) := by
      have this : DataW.trod enc Try.prog w base spare held n 9 (List.take (Try.prog.cellsOf 9) (List.drop 3 [a0, a1, a2, a3, a4])) = _ := (hf 2 _ rfl).trans (List.getElem?_eq_getElem (show 2 < xs.length by omega))
      rw [show Try.prog.cellsOf 9 = 1 by kernel_rfl] at this
      exact this
    have f3 : DataW.trod enc Try.prog w base spare held n 9 [a4] = some (xs[3]'(by omega)) := by
      have this : DataW.trod enc Try.prog w base spare held n 9 (List.take (Try.prog.cellsOf 9) (List.drop 4 [a0, a1, a2, a3, a4])) = _ := (hf 3 _ rfl).trans (List.getElem?_eq_getElem (show 3 < xs.length by omega))
      rw [show Try.prog.cellsOf 9 = 1 by kernel_rfl] at this
      exact this
    obtain ⟨d0, M0, r0, w0⟩ := (opens_int Try.underlying3) f0
    obtain ⟨e0, _⟩ := r0
    cases e0
    obtain ⟨d1, M1, r1, w1⟩ := opensPattern f1
    obtain ⟨A1, c1, N1, e1, g1, t0, n1, m1, s1⟩ := r1
    cases e1
    subst g1
    obtain ⟨d2, M2, r2, w2⟩ := (opens_string Try.underlying9) f2
    obtain ⟨e2, _, t1⟩ := r2
    cases e2
    obtain ⟨d3, M3, r3, w3⟩ := (opens_string Try.underlying9) f3
    obtain ⟨e3, _, t2⟩ := r3
    cases e3
    exact ⟨⟨d0, d1, d2, d3⟩, _, ⟨A1, c1, M1, rfl, rfl, t0, t1, t2, n1, m1, s1⟩, ⟨w0, w1, w2, w3⟩⟩

def wfAction (x : ActionD) : Prop := wfInt x.kind ∧ wfPattern x.pattern
set_option maxRecDepth 100000 in
theorem opensAction : Opens Try.prog 166 cAction wfAction := by
  intro H enc w base spare held fuel cs x h
  obtain ⟨xs, n, _, _, hlen, hxl, hf⟩ := DataW.trod_struct Try.underlying166 h
  have hl : cs.length = 3 := hlen.trans (by kernel_rfl)
  have hx : xs.length = 2 := hxl
  match cs, hl with
  | [a0, a1, a2], _ =>
    have f0 : DataW.trod enc Try.prog w base spare held n 3 [a0] = some (xs[0]'(by omega)) := by
      have this : DataW.trod enc Try.prog w base spare held n 3 (List.take (Try.prog.cellsOf 3) (List.drop 0 [a0, a1, a2])) = _ := (hf 0 _ rfl).trans (List.getElem?_eq_getElem (show 0 < xs.length by omega))
      rw [show Try.prog.cellsOf 3 = 1 by kernel_rfl] at this
      exact this
    have f1 : DataW.trod enc Try.prog w base spare held n 114 [a1, a2] = some (xs[1]'(by omega)) := by
      have this : DataW.trod enc Try.prog w base spare held n 114 (List.take (Try.prog.cellsOf 114) (List.drop 1 [a0, a1, a2])) = _ := (hf 1 _ rfl).trans (List.getElem?_eq_getElem (show 1 < xs.length by omega))
      rw [show Try.prog.cellsOf 114 = 2 by kernel_rfl] at this
      exact this
    obtain ⟨d0, M0, r0, w0⟩ := (opens_int Try.underlying3) f0
    obtain ⟨e0, _⟩ := r0
    cases e0
    obtain ⟨d1, M1, r1, w1⟩ := opensPattern f1
    obtain ⟨A1, c1, N1, e1, g1, t0, n1, m1, s1⟩ := r1
    cases e1
    subst g1
    exact ⟨⟨d0, d1⟩, _, ⟨A1, c1, M1, rfl, rfl, t0, n1, m1, s1⟩, ⟨w0, w1⟩⟩

def wfRule (x : RuleD) : Prop := (fun _ => True) x.name ∧ wfInt x.priority ∧ (fun ds => ∀ d ∈ ds, wfCond d) x.cond ∧ (fun ds => ∀ d ∈ ds, wfAction d) x.thn
set_option maxRecDepth 100000 in
theorem opensRule : Opens Try.prog 70 cRule wfRule := by
  intro H enc w base spare held fuel cs x h
  obtain ⟨xs, n, _, _, hlen, hxl, hf⟩ := DataW.trod_struct Try.underlying70 h
  have hl : cs.length = 4 := hlen.trans (by kernel_rfl)
  have hx : xs.length = 4 := hxl
  match cs, hl with
  | [a0, a1, a2, a3], _ =>
    have f0 : DataW.trod enc Try.prog w base spare held n 9 [a0] = some (xs[0]'(by omega)) := by
      have this : DataW.trod enc Try.prog w base spare held n 9 (List.take (Try.prog.cellsOf 9) (List.drop 0 [a0, a1, a2, a3])) = _ := (hf 0 _ rfl).trans (List.getElem?_eq_getElem (show 0 < xs.length by omega))
      rw [show Try.prog.cellsOf 9 = 1 by kernel_rfl] at this
      exact this
    have f1 : DataW.trod enc Try.prog w base spare held n 3 [a1] = some (xs[1]'(by omega)) := by
      have this : DataW.trod enc Try.prog w base spare held n 3 (List.take (Try.prog.cellsOf 3) (List.drop 1 [a0, a1, a2, a3])) = _ := (hf 1 _ rfl).trans (List.getElem?_eq_getElem (show 1 < xs.length by omega))
      rw [show Try.prog.cellsOf 3 = 1 by kernel_rfl] at this
      exact this
    have f2 : DataW.trod enc Try.prog w base spare held n 59 [a2] = some (xs[2]'(by omega)) := by
      have this : DataW.trod enc Try.prog w base spare held n 59 (List.take (Try.prog.cellsOf 59) (List.drop 2 [a0, a1, a2, a3])) = _ := (hf 2 _ rfl).trans (List.getElem?_eq_getElem (show 2 < xs.length by omega))
      rw [show Try.prog.cellsOf 59 = 1 by kernel_rfl] at this
      exact this
    have f3 : DataW.trod enc Try.prog w base spare held n 68 [a3] = some (xs[3]'(by omega)) := by
      have this : DataW.trod enc Try.prog w base spare held n 68 (List.take (Try.prog.cellsOf 68) (List.drop 3 [a0, a1, a2, a3])) = _ := (hf 3 _ rfl).trans (List.getElem?_eq_getElem (show 3 < xs.length by omega))
      rw [show Try.prog.cellsOf 68 = 1 by kernel_rfl] at this
      exact this
    obtain ⟨d0, M0, r0, w0⟩ := (opens_string Try.underlying9) f0
    obtain ⟨e0, _, t0⟩ := r0
    cases e0
    obtain ⟨d1, M1, r1, w1⟩ := (opens_int Try.underlying3) f1
    obtain ⟨e1, _⟩ := r1
    cases e1
    obtain ⟨d2, M2, r2, w2⟩ := (opens_slice Try.underlying59 (by kernel_rfl) opensCond) f2
    obtain ⟨A1, c1, e2, n1, m1, s1⟩ := r2
    cases e2
    obtain ⟨d3, M3, r3, w3⟩ := (opens_slice Try.underlying68 (by kernel_rfl) opensAction) f3
    obtain ⟨A2, c2, e3, n2, m2, s2⟩ := r3
    cases e3
    exact ⟨⟨d0, d1, d2, d3⟩, _, ⟨A1, c1, M2, A2, c2, M3, rfl, rfl, t0, n1, m1, s1, n2, m2, s2⟩, ⟨w0, w1, w2, w3⟩⟩

end Go.Proofs.Ytccbhhglghboaaa
