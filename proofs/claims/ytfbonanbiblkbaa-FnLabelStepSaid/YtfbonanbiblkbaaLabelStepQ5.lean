/- Texts of this proof, joined: Dp11, Dp2, Dp12, Dp13, Dp14, Dp16, Dp17, BStd, Open, LawFnLabelStep. What each holds is said at its theorems. -/
import Derived.Test.YtfbonanbiblkbaaLabelStepQ4
import Derived.Test.YtfbonanbiblkbaaLabelStepQ3
import Derived.Test.YtfbonanbiblkbaaLabelStepQ1
import Derived.Deep.Slices
import Derived.ChangeArms
import Derived.ProofKit
import Derived.Test.YtfbonanbiblkbaaLabelStepQ2
set_option linter.unusedSimpArgs false
set_option linter.unusedVariables false
namespace Go.Proofs.Ytfbonanbiblkbaa
open Go.Proofs.Try
set_option linter.unusedSimpArgs false
set_option linter.unusedVariables false
set_option maxRecDepth 1000000
set_option maxHeartbeats 4000000
theorem s_l13Draw_ok {c_0 : l1CurD} {r : (FrameD × l1CurD)} (h : s_l13Draw c_0 = some r) : SoundH Try.prog J0 JF0 43 (.box 75 (el1Cur c_0)) [] [(true, [(false, .int .i64 r.1.beliefs.nodes), (false, .sl 49 3 (List.map eReason r.1.beliefs.reasons)), (false, .sl 3 1 (List.map eInt r.1.assumed)), (false, .sl 3 1 (List.map eInt r.1.bad))])] (.box 75 (el1Cur r.2)) := by
  refine fnh Try.func43 (by kernel_rfl) rfl (by kernel_rfl) (by kernel_rfl) ?_
  unfold s_l13Draw at h
  simp only [fnH, f43, handSt, handSV, handOb, go_sem, Int.reduceLT, Int.reduceLE, Int.reduceBEq, Int.reduceBNe, Nat.reduceBNe, Nat.reduceAdd, Nat.reduceMul, Nat.reduceEqDiff, Nat.reduceLeDiff, Nat.reduceLT, Nat.reduceBEq, reduceCtorEq, reduceIte]
  obtain ⟨v1, e1, h⟩ := bind_K h
  refine hand_K (by first | exact s_l11Draw_ok e1 | simpa only [go_sem, Int.reduceLT, Int.reduceLE, Int.reduceBEq, Int.reduceBNe, Nat.reduceBNe, Nat.reduceAdd, Nat.reduceMul, Nat.reduceEqDiff, Nat.reduceLeDiff, Nat.reduceLT, Nat.reduceBEq, reduceCtorEq, reduceIte] using s_l11Draw_ok e1) ?_
  try simp only [go_sem, Int.reduceLT, Int.reduceLE, Int.reduceBEq, Int.reduceBNe, Nat.reduceBNe, Nat.reduceAdd, Nat.reduceMul, Nat.reduceEqDiff, Nat.reduceLeDiff, Nat.reduceLT, Nat.reduceBEq, reduceCtorEq, reduceIte]
  refine swp_iter h (fun s st => match s with | (f_3, f_4, f_5, row_9, i_6) => IV [(0, .bp 0 0), (2, .bp 1 0), (3, .bp 2 0), (4, .p false [.c (.int .i64 i_6)])] [.box 75 [.c (.sl 5 1 (List.map eByte f_3)), .c (.int .i64 f_4), .c (.int .i64 f_5)], .box 39 [.c (.int .i64 0), .nil 49 3, .nil 3 1, .nil 3 1], .box 39 [.c (.int .i64 v1.1.nodes), .row 3, .row 4, .nil 3 1], .row 49 3 (List.map eReason v1.1.reasons) 2, .row 3 1 (List.map eInt row_9) 2] st) [(true, 65, 2)] [0, 1, 65, 33, 113] (by decide) ?_ ?_
  · simp only [go_sem, Int.reduceLT, Int.reduceLE, Int.reduceBEq, Int.reduceBNe, Nat.reduceBNe, Nat.reduceAdd, Nat.reduceMul, Nat.reduceEqDiff, Nat.reduceLeDiff, Nat.reduceLT, Nat.reduceBEq, reduceCtorEq, reduceIte, IV, sts_cons, sts_nil, obs_cons, obs_nil]
  · rintro ⟨f_3, f_4, f_5, row_9, i_6⟩ ⟨sl, ob, n⟩ y2 hI3 hW4 h hy2
    simp only [IV, sts_cons, sts_nil, obs_cons, obs_nil, and_true, true_and, Nat.reduceAdd, str_len] at hI3
    obtain ⟨⟨g5_0, g5_2, g5_3, g5_4⟩, og5_0, og5_1, og5_2, og5_3, og5_4, hn⟩ := hI3
    subst hn
    try simp only [go_sem, Int.reduceLT, Int.reduceLE, Int.reduceBEq, Int.reduceBNe, Nat.reduceBNe, Nat.reduceAdd, Nat.reduceMul, Nat.reduceEqDiff, Nat.reduceLeDiff, Nat.reduceLT, Nat.reduceBEq, reduceCtorEq, reduceIte, g5_0, g5_2, g5_3, g5_4, og5_0, og5_1, og5_2, og5_3, og5_4]
    refine ite_K h (fun c6 h => ?_) (fun c6 h => ?_)
    · try simp only [go_sem, Int.reduceLT, Int.reduceLE, Int.reduceBEq, Int.reduceBNe, Nat.reduceBNe, Nat.reduceAdd, Nat.reduceMul, Nat.reduceEqDiff, Nat.reduceLeDiff, Nat.reduceLT, Nat.reduceBEq, reduceCtorEq, reduceIte, c6, g5_0, g5_2, g5_3, g5_4, og5_0, og5_1, og5_2, og5_3, og5_4]
      refine ite_K h (fun c7 h => ?_) (fun c7 h => ?_)
      · try simp only [go_sem, Int.reduceLT, Int.reduceLE, Int.reduceBEq, Int.reduceBNe, Nat.reduceBNe, Nat.reduceAdd, Nat.reduceMul, Nat.reduceEqDiff, Nat.reduceLeDiff, Nat.reduceLT, Nat.reduceBEq, reduceCtorEq, reduceIte, c6, c7, g5_0, g5_2, g5_3, g5_4, og5_0, og5_1, og5_2, og5_3, og5_4]
        obtain ⟨v10, e8, h⟩ := bind_K h
        refine hand_K (by first | exact s_l1Once_ok e8 | simpa only [go_sem, Int.reduceLT, Int.reduceLE, Int.reduceBEq, Int.reduceBNe, Nat.reduceBNe, Nat.reduceAdd, Nat.reduceMul, Nat.reduceEqDiff, Nat.reduceLeDiff, Nat.reduceLT, Nat.reduceBEq, reduceCtorEq, reduceIte, c6, c7, g5_0, g5_2, g5_3, g5_4, og5_0, og5_1, og5_2, og5_3, og5_4] using s_l1Once_ok e8) ?_
        try simp only [go_sem, Int.reduceLT, Int.reduceLE, Int.reduceBEq, Int.reduceBNe, Nat.reduceBNe, Nat.reduceAdd, Nat.reduceMul, Nat.reduceEqDiff, Nat.reduceLeDiff, Nat.reduceLT, Nat.reduceBEq, reduceCtorEq, reduceIte, c6, c7, g5_0, g5_2, g5_3, g5_4, og5_0, og5_1, og5_2, og5_3, og5_4]
        refine ite_K h (fun c9 h => ?_) (fun c9 h => ?_)
        · try simp only [go_sem, Int.reduceLT, Int.reduceLE, Int.reduceBEq, Int.reduceBNe, Nat.reduceBNe, Nat.reduceAdd, Nat.reduceMul, Nat.reduceEqDiff, Nat.reduceLeDiff, Nat.reduceLT, Nat.reduceBEq, reduceCtorEq, reduceIte, c6, c7, c9, g5_0, g5_2, g5_3, g5_4, og5_0, og5_1, og5_2, og5_3, og5_4]
          refine ⟨_, [], [0, 1, 2, 3, 4], (Option.some.inj h).symm, by decide, ?_⟩
          try simp only [go_sem, Int.reduceLT, Int.reduceLE, Int.reduceBEq, Int.reduceBNe, Nat.reduceBNe, Nat.reduceAdd, Nat.reduceMul, Nat.reduceEqDiff, Nat.reduceLeDiff, Nat.reduceLT, Nat.reduceBEq, reduceCtorEq, reduceIte, c6, c7, c9, g5_0, g5_2, g5_3, g5_4, og5_0, og5_1, og5_2, og5_3, og5_4, IV, sts_cons, sts_nil, obs_cons, obs_nil]
        · obtain ⟨p10, h⟩ := chk_K h
          try simp only [Nat.reduceLeDiff] at p10
          try simp only [go_sem, Int.reduceLT, Int.reduceLE, Int.reduceBEq, Int.reduceBNe, Nat.reduceBNe, Nat.reduceAdd, Nat.reduceMul, Nat.reduceEqDiff, Nat.reduceLeDiff, Nat.reduceLT, Nat.reduceBEq, reduceCtorEq, reduceIte, c6, c7, c9, p10, g5_0, g5_2, g5_3, g5_4, og5_0, og5_1, og5_2, og5_3, og5_4]
          refine ⟨_, [], [0, 1, 2, 3, 293], (Option.some.inj h).symm, by decide, ?_⟩
          try simp only [go_sem, Int.reduceLT, Int.reduceLE, Int.reduceBEq, Int.reduceBNe, Nat.reduceBNe, Nat.reduceAdd, Nat.reduceMul, Nat.reduceEqDiff, Nat.reduceLeDiff, Nat.reduceLT, Nat.reduceBEq, reduceCtorEq, reduceIte, c6, c7, c9, p10, g5_0, g5_2, g5_3, g5_4, og5_0, og5_1, og5_2, og5_3, og5_4, IV, sts_cons, sts_nil, obs_cons, obs_nil]
      · try simp only [go_sem, Int.reduceLT, Int.reduceLE, Int.reduceBEq, Int.reduceBNe, Nat.reduceBNe, Nat.reduceAdd, Nat.reduceMul, Nat.reduceEqDiff, Nat.reduceLeDiff, Nat.reduceLT, Nat.reduceBEq, reduceCtorEq, reduceIte, c6, c7, g5_0, g5_2, g5_3, g5_4, og5_0, og5_1, og5_2, og5_3, og5_4]
        obtain ⟨v11, e11, h⟩ := bind_K h
        refine hand_K (by first | exact s_l11Nodes_ok e11 | simpa only [go_sem, Int.reduceLT, Int.reduceLE, Int.reduceBEq, Int.reduceBNe, Nat.reduceBNe, Nat.reduceAdd, Nat.reduceMul, Nat.reduceEqDiff, Nat.reduceLeDiff, Nat.reduceLT, Nat.reduceBEq, reduceCtorEq, reduceIte, c6, c7, g5_0, g5_2, g5_3, g5_4, og5_0, og5_1, og5_2, og5_3, og5_4] using s_l11Nodes_ok e11) ?_
        replace h := inr_K h hy2
        obtain rfl := Option.some.inj h
        try simp only [go_sem, Int.reduceLT, Int.reduceLE, Int.reduceBEq, Int.reduceBNe, Nat.reduceBNe, Nat.reduceAdd, Nat.reduceMul, Nat.reduceEqDiff, Nat.reduceLeDiff, Nat.reduceLT, Nat.reduceBEq, reduceCtorEq, reduceIte, c6, c7, g5_0, g5_2, g5_3, g5_4, og5_0, og5_1, og5_2, og5_3, og5_4]
    · try simp only [go_sem, Int.reduceLT, Int.reduceLE, Int.reduceBEq, Int.reduceBNe, Nat.reduceBNe, Nat.reduceAdd, Nat.reduceMul, Nat.reduceEqDiff, Nat.reduceLeDiff, Nat.reduceLT, Nat.reduceBEq, reduceCtorEq, reduceIte, c6, g5_0, g5_2, g5_3, g5_4, og5_0, og5_1, og5_2, og5_3, og5_4]
      obtain ⟨v12, e12, h⟩ := bind_K h
      refine hand_K (by first | exact s_l11Nodes_ok e12 | simpa only [go_sem, Int.reduceLT, Int.reduceLE, Int.reduceBEq, Int.reduceBNe, Nat.reduceBNe, Nat.reduceAdd, Nat.reduceMul, Nat.reduceEqDiff, Nat.reduceLeDiff, Nat.reduceLT, Nat.reduceBEq, reduceCtorEq, reduceIte, c6, g5_0, g5_2, g5_3, g5_4, og5_0, og5_1, og5_2, og5_3, og5_4] using s_l11Nodes_ok e12) ?_
      replace h := inr_K h hy2
      obtain rfl := Option.some.inj h
      try simp only [go_sem, Int.reduceLT, Int.reduceLE, Int.reduceBEq, Int.reduceBNe, Nat.reduceBNe, Nat.reduceAdd, Nat.reduceMul, Nat.reduceEqDiff, Nat.reduceLeDiff, Nat.reduceLT, Nat.reduceBEq, reduceCtorEq, reduceIte, c6, g5_0, g5_2, g5_3, g5_4, og5_0, og5_1, og5_2, og5_3, og5_4]
theorem i_LabelFor_ok {f_0 : FrameD} {x_1 : Int} {r : (List Int)} (h : i_LabelFor f_0 x_1 = some r) : Sound Try.prog J0 24 [(true, eFrame f_0), (false, [.int .i64 x_1])] [(false, [(false, .sl 3 1 (List.map eInt r))])] := by
  refine fnk Try.func24 (by kernel_rfl) rfl (by kernel_rfl) (by kernel_rfl) ?_
  unfold i_LabelFor at h
  simp only [fnS, f24, argSt, go_sem, Int.reduceLT, Int.reduceLE, Int.reduceBEq, Int.reduceBNe, Nat.reduceBNe, Nat.reduceAdd, Nat.reduceMul, Nat.reduceEqDiff, Nat.reduceLeDiff, Nat.reduceLT, Nat.reduceBEq, reduceCtorEq, reduceIte]
  obtain ⟨v1, e1, h⟩ := bind_K h
  refine call_K (by first | exact i_IsFrame_ok e1 | simpa only [go_sem, Int.reduceLT, Int.reduceLE, Int.reduceBEq, Int.reduceBNe, Nat.reduceBNe, Nat.reduceAdd, Nat.reduceMul, Nat.reduceEqDiff, Nat.reduceLeDiff, Nat.reduceLT, Nat.reduceBEq, reduceCtorEq, reduceIte] using i_IsFrame_ok e1) ?_
  try simp only [go_sem, Int.reduceLT, Int.reduceLE, Int.reduceBEq, Int.reduceBNe, Nat.reduceBNe, Nat.reduceAdd, Nat.reduceMul, Nat.reduceEqDiff, Nat.reduceLeDiff, Nat.reduceLT, Nat.reduceBEq, reduceCtorEq, reduceIte]
  refine ite_K h (fun c2 h => ?_) (fun c2 h => ?_)
  · try simp only [go_sem, Int.reduceLT, Int.reduceLE, Int.reduceBEq, Int.reduceBNe, Nat.reduceBNe, Nat.reduceAdd, Nat.reduceMul, Nat.reduceEqDiff, Nat.reduceLeDiff, Nat.reduceLT, Nat.reduceBEq, reduceCtorEq, reduceIte, c2]
    refine ite_K h (fun c3 h => ?_) (fun c3 h => ?_)
    · obtain rfl := Option.some.inj h
      try simp only [go_sem, Int.reduceLT, Int.reduceLE, Int.reduceBEq, Int.reduceBNe, Nat.reduceBNe, Nat.reduceAdd, Nat.reduceMul, Nat.reduceEqDiff, Nat.reduceLeDiff, Nat.reduceLT, Nat.reduceBEq, reduceCtorEq, reduceIte, c2, c3]
    · try simp only [go_sem, Int.reduceLT, Int.reduceLE, Int.reduceBEq, Int.reduceBNe, Nat.reduceBNe, Nat.reduceAdd, Nat.reduceMul, Nat.reduceEqDiff, Nat.reduceLeDiff, Nat.reduceLT, Nat.reduceBEq, reduceCtorEq, reduceIte, c2, c3]
      refine ite_K h (fun c4 h => ?_) (fun c4 h => ?_)
      · obtain rfl := Option.some.inj h
        try simp only [go_sem, Int.reduceLT, Int.reduceLE, Int.reduceBEq, Int.reduceBNe, Nat.reduceBNe, Nat.reduceAdd, Nat.reduceMul, Nat.reduceEqDiff, Nat.reduceLeDiff, Nat.reduceLT, Nat.reduceBEq, reduceCtorEq, reduceIte, c2, c3, c4]
      · try simp only [go_sem, Int.reduceLT, Int.reduceLE, Int.reduceBEq, Int.reduceBNe, Nat.reduceBNe, Nat.reduceAdd, Nat.reduceMul, Nat.reduceEqDiff, Nat.reduceLeDiff, Nat.reduceLT, Nat.reduceBEq, reduceCtorEq, reduceIte, c2, c3, c4]
        obtain ⟨v2, e5, h⟩ := bind_K h
        refine call_K (by first | exact i_setsWith_ok (kkeep_1 := 49) (ckeep_1 := [.pt [.int .i64 f_0.beliefs.nodes, .sl 49 3 (List.map eReason f_0.beliefs.reasons), .sl 3 1 (List.map eInt f_0.assumed), .sl 3 1 (List.map eInt f_0.bad)], .pt [.int .i64 x_1]]) hd_49 (fun hh => i_LabelFor_1_ok hh) e5 | simpa only [go_sem, Int.reduceLT, Int.reduceLE, Int.reduceBEq, Int.reduceBNe, Nat.reduceBNe, Nat.reduceAdd, Nat.reduceMul, Nat.reduceEqDiff, Nat.reduceLeDiff, Nat.reduceLT, Nat.reduceBEq, reduceCtorEq, reduceIte, c2, c3, c4] using i_setsWith_ok (kkeep_1 := 49) (ckeep_1 := [.pt [.int .i64 f_0.beliefs.nodes, .sl 49 3 (List.map eReason f_0.beliefs.reasons), .sl 3 1 (List.map eInt f_0.assumed), .sl 3 1 (List.map eInt f_0.bad)], .pt [.int .i64 x_1]]) hd_49 (fun hh => i_LabelFor_1_ok hh) e5) ?_
        try simp only [go_sem, Int.reduceLT, Int.reduceLE, Int.reduceBEq, Int.reduceBNe, Nat.reduceBNe, Nat.reduceAdd, Nat.reduceMul, Nat.reduceEqDiff, Nat.reduceLeDiff, Nat.reduceLT, Nat.reduceBEq, reduceCtorEq, reduceIte, c2, c3, c4]
        obtain ⟨v3, e6, h⟩ := bind_K h
        refine call_K (by first | exact i_LeastSets_ok e6 | simpa only [go_sem, Int.reduceLT, Int.reduceLE, Int.reduceBEq, Int.reduceBNe, Nat.reduceBNe, Nat.reduceAdd, Nat.reduceMul, Nat.reduceEqDiff, Nat.reduceLeDiff, Nat.reduceLT, Nat.reduceBEq, reduceCtorEq, reduceIte, c2, c3, c4] using i_LeastSets_ok e6) ?_
        obtain rfl := Option.some.inj h
        try simp only [go_sem, Int.reduceLT, Int.reduceLE, Int.reduceBEq, Int.reduceBNe, Nat.reduceBNe, Nat.reduceAdd, Nat.reduceMul, Nat.reduceEqDiff, Nat.reduceLeDiff, Nat.reduceLT, Nat.reduceBEq, reduceCtorEq, reduceIte, c2, c3, c4]
  · obtain rfl := Option.some.inj h
    try simp only [go_sem, Int.reduceLT, Int.reduceLE, Int.reduceBEq, Int.reduceBNe, Nat.reduceBNe, Nat.reduceAdd, Nat.reduceMul, Nat.reduceEqDiff, Nat.reduceLeDiff, Nat.reduceLT, Nat.reduceBEq, reduceCtorEq, reduceIte, c2]
end Go.Proofs.Ytfbonanbiblkbaa

namespace Go.Proofs.Ytfbonanbiblkbaa
open Go.Proofs.Try
set_option linter.unusedSimpArgs false
set_option linter.unusedVariables false
set_option maxRecDepth 1000000
set_option maxHeartbeats 4000000
theorem s_l13Under_ok {append_0 : FrameD} {String_1 : Int} {r : (List Bool)} (h : s_l13Under append_0 String_1 = some r) : Sound Try.prog J0 74 [(true, eFrame append_0), (false, [.int .i64 String_1])] [(false, [(false, .sl 4 1 (List.map eBool r))])] := by
  refine fnk Try.func74 (by kernel_rfl) rfl (by kernel_rfl) (by kernel_rfl) ?_
  unfold s_l13Under at h
  have kn0 : ¬ ((0 : Int) < 0) := by decide
  simp only [fnS, f74, argSt, go_sem, Int.reduceLT, Int.reduceLE, Int.reduceBEq, Int.reduceBNe, Nat.reduceBNe, Nat.reduceAdd, Nat.reduceMul, Nat.reduceEqDiff, Nat.reduceLeDiff, Nat.reduceLT, Nat.reduceBEq, reduceCtorEq, reduceIte, kn0]
  obtain ⟨p1, h⟩ := chk_K h
  try simp only [go_sem, Int.reduceLT, Int.reduceLE, Int.reduceBEq, Int.reduceBNe, Nat.reduceBNe, Nat.reduceAdd, Nat.reduceMul, Nat.reduceEqDiff, Nat.reduceLeDiff, Nat.reduceLT, Nat.reduceBEq, reduceCtorEq, reduceIte, kn0, p1.1, p1.2]
  refine swp_for h (fun i row_3 st => IV [(1, .p false [.c (.int .i64 String_1)]), (2, .bp 0 0), (5, .p false [.row 1]), (6, .p false [.c (.int .i64 ((i : Nat) : Int))])] [.box 39 [.c (.int .i64 append_0.beliefs.nodes), .c (.sl 49 3 (List.map eReason append_0.beliefs.reasons)), .c (.sl 3 1 (List.map eInt append_0.assumed)), .c (.sl 3 1 (List.map eInt append_0.bad))], .row 4 1 (List.map eBool row_3) 2] st) [] [0, 80] (by decide) ?_ ?_ ?_
  · simp only [go_sem, Int.reduceLT, Int.reduceLE, Int.reduceBEq, Int.reduceBNe, Nat.reduceBNe, Nat.reduceAdd, Nat.reduceMul, Nat.reduceEqDiff, Nat.reduceLeDiff, Nat.reduceLT, Nat.reduceBEq, reduceCtorEq, reduceIte, IV, sts_cons, sts_nil, obs_cons, obs_nil, kn0, p1.1, p1.2]
  · rintro i87 x88 row_3 ⟨sl, ob, n⟩ y2 hx3 hI4 hW5 h hy2
    simp only [IV, sts_cons, sts_nil, obs_cons, obs_nil, and_true, true_and, Nat.reduceAdd, str_len] at hI4
    obtain ⟨⟨g6_1, g6_2, g6_5, g6_6⟩, og6_0, og6_1, hn⟩ := hI4
    subst hn
    have hlhx3 := WF.boxL hW5 og6_0 (j := 2) rfl
    obtain ⟨p7, h⟩ := chk_K h
    try simp only [go_sem, Int.reduceLT, Int.reduceLE, Int.reduceBEq, Int.reduceBNe, Nat.reduceBNe, Nat.reduceAdd, Nat.reduceMul, Nat.reduceEqDiff, Nat.reduceLeDiff, Nat.reduceLT, Nat.reduceBEq, reduceCtorEq, reduceIte, kn0, p1.1, p1.2, hx3, lt_t hx3, lt_p hx3, nat_in (lt_n hx3) hlhx3, p7, g6_1, g6_2, g6_5, g6_6, og6_0, og6_1]
    refine ite_K h (fun c8 h => ?_) (fun c8 h => ?_)
    · obtain ⟨p9, h⟩ := chk_K h
      obtain ⟨x89, e10, h⟩ := bind_K h
      try simp only [go_sem, Int.reduceLT, Int.reduceLE, Int.reduceBEq, Int.reduceBNe, Nat.reduceBNe, Nat.reduceAdd, Nat.reduceMul, Nat.reduceEqDiff, Nat.reduceLeDiff, Nat.reduceLT, Nat.reduceBEq, reduceCtorEq, reduceIte, kn0, p1.1, p1.2, hx3, lt_t hx3, lt_p hx3, nat_in (lt_n hx3) hlhx3, p7, c8, p9.1, p9.2, e10, g6_1, g6_2, g6_5, g6_6, og6_0, og6_1]
      refine ⟨_, [], [0, 1], (Option.some.inj h).symm, by decide, ?_⟩
      try simp only [go_sem, Int.reduceLT, Int.reduceLE, Int.reduceBEq, Int.reduceBNe, Nat.reduceBNe, Nat.reduceAdd, Nat.reduceMul, Nat.reduceEqDiff, Nat.reduceLeDiff, Nat.reduceLT, Nat.reduceBEq, reduceCtorEq, reduceIte, kn0, p1.1, p1.2, hx3, lt_t hx3, lt_p hx3, nat_in (lt_n hx3) hlhx3, p7, c8, p9.1, p9.2, e10, g6_1, g6_2, g6_5, g6_6, og6_0, og6_1, IV, sts_cons, sts_nil, obs_cons, obs_nil]
    · try simp only [go_sem, Int.reduceLT, Int.reduceLE, Int.reduceBEq, Int.reduceBNe, Nat.reduceBNe, Nat.reduceAdd, Nat.reduceMul, Nat.reduceEqDiff, Nat.reduceLeDiff, Nat.reduceLT, Nat.reduceBEq, reduceCtorEq, reduceIte, kn0, p1.1, p1.2, hx3, lt_t hx3, lt_p hx3, nat_in (lt_n hx3) hlhx3, p7, c8, g6_1, g6_2, g6_5, g6_6, og6_0, og6_1]
      refine ⟨_, [], [0, 1], (Option.some.inj h).symm, by decide, ?_⟩
      try simp only [go_sem, Int.reduceLT, Int.reduceLE, Int.reduceBEq, Int.reduceBNe, Nat.reduceBNe, Nat.reduceAdd, Nat.reduceMul, Nat.reduceEqDiff, Nat.reduceLeDiff, Nat.reduceLT, Nat.reduceBEq, reduceCtorEq, reduceIte, kn0, p1.1, p1.2, hx3, lt_t hx3, lt_p hx3, nat_in (lt_n hx3) hlhx3, p7, c8, g6_1, g6_2, g6_5, g6_6, og6_0, og6_1, IV, sts_cons, sts_nil, obs_cons, obs_nil]
  · rintro row_3 ⟨sl, ob, n⟩ hI11 hW12 h
    simp only [IV, sts_cons, sts_nil, obs_cons, obs_nil, and_true, true_and, Nat.reduceAdd, str_len] at hI11
    obtain ⟨⟨g13_1, g13_2, g13_5, g13_6⟩, og13_0, og13_1, hn⟩ := hI11
    subst hn
    try simp only [go_sem, Int.reduceLT, Int.reduceLE, Int.reduceBEq, Int.reduceBNe, Nat.reduceBNe, Nat.reduceAdd, Nat.reduceMul, Nat.reduceEqDiff, Nat.reduceLeDiff, Nat.reduceLT, Nat.reduceBEq, reduceCtorEq, reduceIte, kn0, p1.1, p1.2, lt_f (append_0.assumed.length), g13_1, g13_2, g13_5, g13_6, og13_0, og13_1]
    refine swp_iter h (fun s st => match s with | (row_129, u_130) => IV [(2, .bp 0 0), (5, .p false [.row 1]), (7, .p false [.c (.int .i64 u_130)])] [.box 39 [.c (.int .i64 append_0.beliefs.nodes), .c (.sl 49 3 (List.map eReason append_0.beliefs.reasons)), .c (.sl 3 1 (List.map eInt append_0.assumed)), .c (.sl 3 1 (List.map eInt append_0.bad))], .row 4 1 (List.map eBool row_129) 2] st) [] [0, 1] (by decide) ?_ ?_
    · simp only [go_sem, Int.reduceLT, Int.reduceLE, Int.reduceBEq, Int.reduceBNe, Nat.reduceBNe, Nat.reduceAdd, Nat.reduceMul, Nat.reduceEqDiff, Nat.reduceLeDiff, Nat.reduceLT, Nat.reduceBEq, reduceCtorEq, reduceIte, IV, sts_cons, sts_nil, obs_cons, obs_nil, kn0, p1.1, p1.2, lt_f (append_0.assumed.length), g13_1, g13_2, g13_5, g13_6, og13_0, og13_1]
    · rintro ⟨row_129, u_130⟩ ⟨sl, ob, n⟩ y14 hI15 hW16 h hy14
      simp only [IV, sts_cons, sts_nil, obs_cons, obs_nil, and_true, true_and, Nat.reduceAdd, str_len] at hI15
      obtain ⟨⟨g17_2, g17_5, g17_7⟩, og17_0, og17_1, hn⟩ := hI15
      subst hn
      try simp only [go_sem, Int.reduceLT, Int.reduceLE, Int.reduceBEq, Int.reduceBNe, Nat.reduceBNe, Nat.reduceAdd, Nat.reduceMul, Nat.reduceEqDiff, Nat.reduceLeDiff, Nat.reduceLT, Nat.reduceBEq, reduceCtorEq, reduceIte, kn0, p1.1, p1.2, lt_f (append_0.assumed.length), g17_2, g17_5, g17_7, og17_0, og17_1]
      refine ite_K h (fun c18 h => ?_) (fun c18 h => ?_)
      · try simp only [go_sem, Int.reduceLT, Int.reduceLE, Int.reduceBEq, Int.reduceBNe, Nat.reduceBNe, Nat.reduceAdd, Nat.reduceMul, Nat.reduceEqDiff, Nat.reduceLeDiff, Nat.reduceLT, Nat.reduceBEq, reduceCtorEq, reduceIte, kn0, p1.1, p1.2, lt_f (append_0.assumed.length), c18, g17_2, g17_5, g17_7, og17_0, og17_1]
        refine swp_for h (fun i row_143 st => IV [(2, .bp 0 0), (5, .p false [.row 1]), (7, .p false [.c (.int .i64 u_130)]), (8, .p false [.c (.int .i64 ((i : Nat) : Int))])] [.box 39 [.c (.int .i64 append_0.beliefs.nodes), .c (.sl 49 3 (List.map eReason append_0.beliefs.reasons)), .c (.sl 3 1 (List.map eInt append_0.assumed)), .c (.sl 3 1 (List.map eInt append_0.bad))], .row 4 1 (List.map eBool row_143) 2] st) [] [0, 1] (by decide) ?_ ?_ ?_
        · simp only [go_sem, Int.reduceLT, Int.reduceLE, Int.reduceBEq, Int.reduceBNe, Nat.reduceBNe, Nat.reduceAdd, Nat.reduceMul, Nat.reduceEqDiff, Nat.reduceLeDiff, Nat.reduceLT, Nat.reduceBEq, reduceCtorEq, reduceIte, IV, sts_cons, sts_nil, obs_cons, obs_nil, kn0, p1.1, p1.2, lt_f (append_0.assumed.length), c18, g17_2, g17_5, g17_7, og17_0, og17_1]
        · rintro i157 x158 row_143 ⟨sl, ob, n⟩ y19 hx20 hI21 hW22 h hy19
          simp only [IV, sts_cons, sts_nil, obs_cons, obs_nil, and_true, true_and, Nat.reduceAdd, str_len] at hI21
          obtain ⟨⟨g23_2, g23_5, g23_7, g23_8⟩, og23_0, og23_1, hn⟩ := hI21
          subst hn
          have hlhx20 := WF.boxL hW22 og23_0 (j := 1) rfl
          try simp only [go_sem, Int.reduceLT, Int.reduceLE, Int.reduceBEq, Int.reduceBNe, Nat.reduceBNe, Nat.reduceAdd, Nat.reduceMul, Nat.reduceEqDiff, Nat.reduceLeDiff, Nat.reduceLT, Nat.reduceBEq, reduceCtorEq, reduceIte, kn0, p1.1, p1.2, lt_f (append_0.assumed.length), c18, hx20, lt_t hx20, lt_p hx20, nat_in (lt_n hx20) hlhx20, g23_2, g23_5, g23_7, g23_8, og23_0, og23_1]
          refine swp_for h (fun i u_161 st => IV [(2, .bp 0 0), (5, .p false [.row 1]), (7, .p false [.c (.int .i64 u_130)]), (8, .p false [.c (.int .i64 ((i157 : Nat) : Int))]), (9, .bp 2 0), (10, .p false [.c (.bool u_161)]), (11, .p false [.c (.int .i64 ((i : Nat) : Int))])] [.box 39 [.c (.int .i64 append_0.beliefs.nodes), .c (.sl 49 3 (List.map eReason append_0.beliefs.reasons)), .c (.sl 3 1 (List.map eInt append_0.assumed)), .c (.sl 3 1 (List.map eInt append_0.bad))], .row 4 1 (List.map eBool row_143) 2, .box 49 [.c (.int .i64 x158.for_), .c (.sl 3 1 (List.map eInt x158.inn)), .c (.sl 3 1 (List.map eInt x158.outs))]] st) [] [0, 1, 194] (by decide) ?_ ?_ ?_
          · simp only [go_sem, Int.reduceLT, Int.reduceLE, Int.reduceBEq, Int.reduceBNe, Nat.reduceBNe, Nat.reduceAdd, Nat.reduceMul, Nat.reduceEqDiff, Nat.reduceLeDiff, Nat.reduceLT, Nat.reduceBEq, reduceCtorEq, reduceIte, IV, sts_cons, sts_nil, obs_cons, obs_nil, kn0, p1.1, p1.2, lt_f (append_0.assumed.length), c18, hx20, lt_t hx20, lt_p hx20, nat_in (lt_n hx20) hlhx20, g23_2, g23_5, g23_7, g23_8, og23_0, og23_1]
          · rintro i166 x167 u_161 ⟨sl, ob, n⟩ y24 hx25 hI26 hW27 h hy24
            simp only [IV, sts_cons, sts_nil, obs_cons, obs_nil, and_true, true_and, Nat.reduceAdd, str_len] at hI26
            obtain ⟨⟨g28_2, g28_5, g28_7, g28_8, g28_9, g28_10, g28_11⟩, og28_0, og28_1, og28_2, hn⟩ := hI26
            subst hn
            have hlhx25 := WF.boxL hW27 og28_2 (j := 1) rfl
            try simp only [go_sem, Int.reduceLT, Int.reduceLE, Int.reduceBEq, Int.reduceBNe, Nat.reduceBNe, Nat.reduceAdd, Nat.reduceMul, Nat.reduceEqDiff, Nat.reduceLeDiff, Nat.reduceLT, Nat.reduceBEq, reduceCtorEq, reduceIte, kn0, p1.1, p1.2, lt_f (append_0.assumed.length), c18, hx20, lt_t hx20, lt_p hx20, nat_in (lt_n hx20) hlhx20, hx25, lt_t hx25, lt_p hx25, nat_in (lt_n hx25) hlhx25, g28_2, g28_5, g28_7, g28_8, g28_9, g28_10, g28_11, og28_0, og28_1, og28_2]
            refine ite_K h (fun c29 h => ?_) (fun c29 h => ?_)
            · obtain ⟨p30, h⟩ := chk_K h
              obtain ⟨x168, e31, h⟩ := bind_K h
              try simp only [go_sem, Int.reduceLT, Int.reduceLE, Int.reduceBEq, Int.reduceBNe, Nat.reduceBNe, Nat.reduceAdd, Nat.reduceMul, Nat.reduceEqDiff, Nat.reduceLeDiff, Nat.reduceLT, Nat.reduceBEq, reduceCtorEq, reduceIte, kn0, p1.1, p1.2, lt_f (append_0.assumed.length), c18, hx20, lt_t hx20, lt_p hx20, nat_in (lt_n hx20) hlhx20, hx25, lt_t hx25, lt_p hx25, nat_in (lt_n hx25) hlhx25, c29, p30.1, p30.2, e31, g28_2, g28_5, g28_7, g28_8, g28_9, g28_10, g28_11, og28_0, og28_1, og28_2]
              refine ⟨_, [], [0, 1, 2], (Option.some.inj h).symm, by decide, ?_⟩
              try simp only [go_sem, Int.reduceLT, Int.reduceLE, Int.reduceBEq, Int.reduceBNe, Nat.reduceBNe, Nat.reduceAdd, Nat.reduceMul, Nat.reduceEqDiff, Nat.reduceLeDiff, Nat.reduceLT, Nat.reduceBEq, reduceCtorEq, reduceIte, kn0, p1.1, p1.2, lt_f (append_0.assumed.length), c18, hx20, lt_t hx20, lt_p hx20, nat_in (lt_n hx20) hlhx20, hx25, lt_t hx25, lt_p hx25, nat_in (lt_n hx25) hlhx25, c29, p30.1, p30.2, e31, g28_2, g28_5, g28_7, g28_8, g28_9, g28_10, g28_11, og28_0, og28_1, og28_2, IV, sts_cons, sts_nil, obs_cons, obs_nil]
            · try simp only [go_sem, Int.reduceLT, Int.reduceLE, Int.reduceBEq, Int.reduceBNe, Nat.reduceBNe, Nat.reduceAdd, Nat.reduceMul, Nat.reduceEqDiff, Nat.reduceLeDiff, Nat.reduceLT, Nat.reduceBEq, reduceCtorEq, reduceIte, kn0, p1.1, p1.2, lt_f (append_0.assumed.length), c18, hx20, lt_t hx20, lt_p hx20, nat_in (lt_n hx20) hlhx20, hx25, lt_t hx25, lt_p hx25, nat_in (lt_n hx25) hlhx25, c29, g28_2, g28_5, g28_7, g28_8, g28_9, g28_10, g28_11, og28_0, og28_1, og28_2]
              refine ⟨_, [], [0, 1, 2], (Option.some.inj h).symm, by decide, ?_⟩
              try simp only [go_sem, Int.reduceLT, Int.reduceLE, Int.reduceBEq, Int.reduceBNe, Nat.reduceBNe, Nat.reduceAdd, Nat.reduceMul, Nat.reduceEqDiff, Nat.reduceLeDiff, Nat.reduceLT, Nat.reduceBEq, reduceCtorEq, reduceIte, kn0, p1.1, p1.2, lt_f (append_0.assumed.length), c18, hx20, lt_t hx20, lt_p hx20, nat_in (lt_n hx20) hlhx20, hx25, lt_t hx25, lt_p hx25, nat_in (lt_n hx25) hlhx25, c29, g28_2, g28_5, g28_7, g28_8, g28_9, g28_10, g28_11, og28_0, og28_1, og28_2, IV, sts_cons, sts_nil, obs_cons, obs_nil]
          · rintro u_161 ⟨sl, ob, n⟩ hI32 hW33 h
            simp only [IV, sts_cons, sts_nil, obs_cons, obs_nil, and_true, true_and, Nat.reduceAdd, str_len] at hI32
            obtain ⟨⟨g34_2, g34_5, g34_7, g34_8, g34_9, g34_10, g34_11⟩, og34_0, og34_1, og34_2, hn⟩ := hI32
            subst hn
            obtain ⟨p35, h⟩ := chk_K h
            obtain ⟨x169, e36, h⟩ := bind_K h
            try simp only [go_sem, Int.reduceLT, Int.reduceLE, Int.reduceBEq, Int.reduceBNe, Nat.reduceBNe, Nat.reduceAdd, Nat.reduceMul, Nat.reduceEqDiff, Nat.reduceLeDiff, Nat.reduceLT, Nat.reduceBEq, reduceCtorEq, reduceIte, kn0, p1.1, p1.2, lt_f (append_0.assumed.length), c18, hx20, lt_t hx20, lt_p hx20, nat_in (lt_n hx20) hlhx20, lt_f (x158.inn.length), p35.1, p35.2, e36, g34_2, g34_5, g34_7, g34_8, g34_9, g34_10, g34_11, og34_0, og34_1, og34_2]
            refine ite_K h (fun c37 h => ?_) (fun c37 h => ?_)
            · try simp only [go_sem, Int.reduceLT, Int.reduceLE, Int.reduceBEq, Int.reduceBNe, Nat.reduceBNe, Nat.reduceAdd, Nat.reduceMul, Nat.reduceEqDiff, Nat.reduceLeDiff, Nat.reduceLT, Nat.reduceBEq, reduceCtorEq, reduceIte, kn0, p1.1, p1.2, lt_f (append_0.assumed.length), c18, hx20, lt_t hx20, lt_p hx20, nat_in (lt_n hx20) hlhx20, lt_f (x158.inn.length), p35.1, p35.2, e36, c37, g34_2, g34_5, g34_7, g34_8, g34_9, g34_10, g34_11, og34_0, og34_1, og34_2]
              refine ⟨_, [], [0, 1], (Option.some.inj h).symm, by decide, ?_⟩
              try simp only [go_sem, Int.reduceLT, Int.reduceLE, Int.reduceBEq, Int.reduceBNe, Nat.reduceBNe, Nat.reduceAdd, Nat.reduceMul, Nat.reduceEqDiff, Nat.reduceLeDiff, Nat.reduceLT, Nat.reduceBEq, reduceCtorEq, reduceIte, kn0, p1.1, p1.2, lt_f (append_0.assumed.length), c18, hx20, lt_t hx20, lt_p hx20, nat_in (lt_n hx20) hlhx20, lt_f (x158.inn.length), p35.1, p35.2, e36, c37, g34_2, g34_5, g34_7, g34_8, g34_9, g34_10, g34_11, og34_0, og34_1, og34_2, IV, sts_cons, sts_nil, obs_cons, obs_nil]
            · try simp only [go_sem, Int.reduceLT, Int.reduceLE, Int.reduceBEq, Int.reduceBNe, Nat.reduceBNe, Nat.reduceAdd, Nat.reduceMul, Nat.reduceEqDiff, Nat.reduceLeDiff, Nat.reduceLT, Nat.reduceBEq, reduceCtorEq, reduceIte, kn0, p1.1, p1.2, lt_f (append_0.assumed.length), c18, hx20, lt_t hx20, lt_p hx20, nat_in (lt_n hx20) hlhx20, lt_f (x158.inn.length), p35.1, p35.2, e36, c37, g34_2, g34_5, g34_7, g34_8, g34_9, g34_10, g34_11, og34_0, og34_1, og34_2]
              refine ⟨_, [], [0, 1], (Option.some.inj h).symm, by decide, ?_⟩
              try simp only [go_sem, Int.reduceLT, Int.reduceLE, Int.reduceBEq, Int.reduceBNe, Nat.reduceBNe, Nat.reduceAdd, Nat.reduceMul, Nat.reduceEqDiff, Nat.reduceLeDiff, Nat.reduceLT, Nat.reduceBEq, reduceCtorEq, reduceIte, kn0, p1.1, p1.2, lt_f (append_0.assumed.length), c18, hx20, lt_t hx20, lt_p hx20, nat_in (lt_n hx20) hlhx20, lt_f (x158.inn.length), p35.1, p35.2, e36, c37, g34_2, g34_5, g34_7, g34_8, g34_9, g34_10, g34_11, og34_0, og34_1, og34_2, IV, sts_cons, sts_nil, obs_cons, obs_nil]
        · rintro row_143 ⟨sl, ob, n⟩ hI38 hW39 h
          simp only [IV, sts_cons, sts_nil, obs_cons, obs_nil, and_true, true_and, Nat.reduceAdd, str_len] at hI38
          obtain ⟨⟨g40_2, g40_5, g40_7, g40_8⟩, og40_0, og40_1, hn⟩ := hI38
          subst hn
          try simp only [go_sem, Int.reduceLT, Int.reduceLE, Int.reduceBEq, Int.reduceBNe, Nat.reduceBNe, Nat.reduceAdd, Nat.reduceMul, Nat.reduceEqDiff, Nat.reduceLeDiff, Nat.reduceLT, Nat.reduceBEq, reduceCtorEq, reduceIte, kn0, p1.1, p1.2, lt_f (append_0.assumed.length), c18, lt_f (append_0.beliefs.reasons.length), g40_2, g40_5, g40_7, g40_8, og40_0, og40_1]
          refine ⟨_, [], [0, 1], (Option.some.inj h).symm, by decide, ?_⟩
          try simp only [go_sem, Int.reduceLT, Int.reduceLE, Int.reduceBEq, Int.reduceBNe, Nat.reduceBNe, Nat.reduceAdd, Nat.reduceMul, Nat.reduceEqDiff, Nat.reduceLeDiff, Nat.reduceLT, Nat.reduceBEq, reduceCtorEq, reduceIte, kn0, p1.1, p1.2, lt_f (append_0.assumed.length), c18, lt_f (append_0.beliefs.reasons.length), g40_2, g40_5, g40_7, g40_8, og40_0, og40_1, IV, sts_cons, sts_nil, obs_cons, obs_nil]
      · replace h := inr_K h hy14
        obtain rfl := Option.some.inj h
        try simp only [go_sem, Int.reduceLT, Int.reduceLE, Int.reduceBEq, Int.reduceBNe, Nat.reduceBNe, Nat.reduceAdd, Nat.reduceMul, Nat.reduceEqDiff, Nat.reduceLeDiff, Nat.reduceLT, Nat.reduceBEq, reduceCtorEq, reduceIte, kn0, p1.1, p1.2, lt_f (append_0.assumed.length), c18, g17_2, g17_5, g17_7, og17_0, og17_1]
theorem s_l1Has_ok {l_0 : (List Int)} {x_1 : Int} {r : Bool} (h : s_l1Has l_0 x_1 = some r) : Sound Try.prog J0 75 [(false, [.sl 3 1 (List.map eInt l_0)]), (false, [.int .i64 x_1])] [(false, [(false, .bool r)])] := by
  refine fnk Try.func75 (by kernel_rfl) rfl (by kernel_rfl) (by kernel_rfl) ?_
  unfold s_l1Has at h
  simp only [fnS, f75, argSt, go_sem, Int.reduceLT, Int.reduceLE, Int.reduceBEq, Int.reduceBNe, Nat.reduceBNe, Nat.reduceAdd, Nat.reduceMul, Nat.reduceEqDiff, Nat.reduceLeDiff, Nat.reduceLT, Nat.reduceBEq, reduceCtorEq, reduceIte]
  refine swp_for h (fun i _ st => IV [(0, .p false [.c (.sl 3 1 (List.map eInt l_0))]), (1, .p false [.c (.int .i64 x_1)]), (5, .p false [.c (.int .i64 ((i : Nat) : Int))])] [] st) [] [] (by decide) ?_ ?_ ?_
  · simp only [go_sem, Int.reduceLT, Int.reduceLE, Int.reduceBEq, Int.reduceBNe, Nat.reduceBNe, Nat.reduceAdd, Nat.reduceMul, Nat.reduceEqDiff, Nat.reduceLeDiff, Nat.reduceLT, Nat.reduceBEq, reduceCtorEq, reduceIte, IV, sts_cons, sts_nil, obs_cons, obs_nil]
  · rintro i4 x5 ⟨⟩ ⟨sl, ob, n⟩ y1 hx2 hI3 hW4 h hy1
    simp only [IV, sts_cons, sts_nil, obs_cons, obs_nil, and_true, true_and, Nat.reduceAdd, str_len] at hI3
    obtain ⟨⟨g5_0, g5_1, g5_5⟩, hn⟩ := hI3
    subst hn
    have hlhx2 := WF.slotL hW4 g5_0 (j := 0) rfl
    try simp only [go_sem, Int.reduceLT, Int.reduceLE, Int.reduceBEq, Int.reduceBNe, Nat.reduceBNe, Nat.reduceAdd, Nat.reduceMul, Nat.reduceEqDiff, Nat.reduceLeDiff, Nat.reduceLT, Nat.reduceBEq, reduceCtorEq, reduceIte, hx2, lt_t hx2, lt_p hx2, nat_in (lt_n hx2) hlhx2, g5_0, g5_1, g5_5]
    refine ite_K h (fun c6 h => ?_) (fun c6 h => ?_)
    · replace h := inr_K h hy1
      obtain rfl := Option.some.inj h
      try simp only [go_sem, Int.reduceLT, Int.reduceLE, Int.reduceBEq, Int.reduceBNe, Nat.reduceBNe, Nat.reduceAdd, Nat.reduceMul, Nat.reduceEqDiff, Nat.reduceLeDiff, Nat.reduceLT, Nat.reduceBEq, reduceCtorEq, reduceIte, hx2, lt_t hx2, lt_p hx2, nat_in (lt_n hx2) hlhx2, c6, g5_0, g5_1, g5_5]
    · try simp only [go_sem, Int.reduceLT, Int.reduceLE, Int.reduceBEq, Int.reduceBNe, Nat.reduceBNe, Nat.reduceAdd, Nat.reduceMul, Nat.reduceEqDiff, Nat.reduceLeDiff, Nat.reduceLT, Nat.reduceBEq, reduceCtorEq, reduceIte, hx2, lt_t hx2, lt_p hx2, nat_in (lt_n hx2) hlhx2, c6, g5_0, g5_1, g5_5]
      refine ⟨_, [], [], (Option.some.inj h).symm, by decide, ?_⟩
      try simp only [go_sem, Int.reduceLT, Int.reduceLE, Int.reduceBEq, Int.reduceBNe, Nat.reduceBNe, Nat.reduceAdd, Nat.reduceMul, Nat.reduceEqDiff, Nat.reduceLeDiff, Nat.reduceLT, Nat.reduceBEq, reduceCtorEq, reduceIte, hx2, lt_t hx2, lt_p hx2, nat_in (lt_n hx2) hlhx2, c6, g5_0, g5_1, g5_5, IV, sts_cons, sts_nil, obs_cons, obs_nil]
  · rintro ⟨⟩ ⟨sl, ob, n⟩ hI7 hW8 h
    simp only [IV, sts_cons, sts_nil, obs_cons, obs_nil, and_true, true_and, Nat.reduceAdd, str_len] at hI7
    obtain ⟨⟨g9_0, g9_1, g9_5⟩, hn⟩ := hI7
    subst hn
    obtain rfl := Option.some.inj h
    try simp only [go_sem, Int.reduceLT, Int.reduceLE, Int.reduceBEq, Int.reduceBNe, Nat.reduceBNe, Nat.reduceAdd, Nat.reduceMul, Nat.reduceEqDiff, Nat.reduceLeDiff, Nat.reduceLT, Nat.reduceBEq, reduceCtorEq, reduceIte, lt_f (l_0.length), g9_0, g9_1, g9_5]
end Go.Proofs.Ytfbonanbiblkbaa

namespace Go.Proofs.Ytfbonanbiblkbaa
open Go.Proofs.Try
set_option linter.unusedSimpArgs false
set_option linter.unusedVariables false
set_option maxRecDepth 1000000
set_option maxHeartbeats 4000000
theorem s_IsConsistent_ok {f_0 : FrameD} {set_1 : Int} {r : Bool} (h : s_IsConsistent f_0 set_1 = some r) : Sound Try.prog J0 54 [(true, eFrame f_0), (false, [.int .i64 set_1])] [(false, [(false, .bool r)])] := by
  refine fnk Try.func54 (by kernel_rfl) rfl (by kernel_rfl) (by kernel_rfl) ?_
  unfold s_IsConsistent at h
  simp only [fnS, f54, argSt, go_sem, Int.reduceLT, Int.reduceLE, Int.reduceBEq, Int.reduceBNe, Nat.reduceBNe, Nat.reduceAdd, Nat.reduceMul, Nat.reduceEqDiff, Nat.reduceLeDiff, Nat.reduceLT, Nat.reduceBEq, reduceCtorEq, reduceIte]
  obtain ⟨v1, e1, h⟩ := bind_K h
  refine call_K (by first | exact s_l13Set_ok e1 | simpa only [go_sem, Int.reduceLT, Int.reduceLE, Int.reduceBEq, Int.reduceBNe, Nat.reduceBNe, Nat.reduceAdd, Nat.reduceMul, Nat.reduceEqDiff, Nat.reduceLeDiff, Nat.reduceLT, Nat.reduceBEq, reduceCtorEq, reduceIte] using s_l13Set_ok e1) ?_
  try simp only [go_sem, Int.reduceLT, Int.reduceLE, Int.reduceBEq, Int.reduceBNe, Nat.reduceBNe, Nat.reduceAdd, Nat.reduceMul, Nat.reduceEqDiff, Nat.reduceLeDiff, Nat.reduceLT, Nat.reduceBEq, reduceCtorEq, reduceIte]
  refine ite_K h (fun c2 h => ?_) (fun c2 h => ?_)
  · try simp only [go_sem, Int.reduceLT, Int.reduceLE, Int.reduceBEq, Int.reduceBNe, Nat.reduceBNe, Nat.reduceAdd, Nat.reduceMul, Nat.reduceEqDiff, Nat.reduceLeDiff, Nat.reduceLT, Nat.reduceBEq, reduceCtorEq, reduceIte, c2]
    obtain ⟨v2, e3, h⟩ := bind_K h
    refine call_K (by first | exact s_l13Under_ok e3 | simpa only [go_sem, Int.reduceLT, Int.reduceLE, Int.reduceBEq, Int.reduceBNe, Nat.reduceBNe, Nat.reduceAdd, Nat.reduceMul, Nat.reduceEqDiff, Nat.reduceLeDiff, Nat.reduceLT, Nat.reduceBEq, reduceCtorEq, reduceIte, c2] using s_l13Under_ok e3) ?_
    try simp only [go_sem, Int.reduceLT, Int.reduceLE, Int.reduceBEq, Int.reduceBNe, Nat.reduceBNe, Nat.reduceAdd, Nat.reduceMul, Nat.reduceEqDiff, Nat.reduceLeDiff, Nat.reduceLT, Nat.reduceBEq, reduceCtorEq, reduceIte, c2]
    refine swp_for h (fun i _ st => IV [(2, .bp 0 0), (5, .p false [.row 1]), (6, .p false [.c (.int .i64 ((i : Nat) : Int))])] [.box 39 [.c (.int .i64 f_0.beliefs.nodes), .c (.sl 49 3 (List.map eReason f_0.beliefs.reasons)), .c (.sl 3 1 (List.map eInt f_0.assumed)), .c (.sl 3 1 (List.map eInt f_0.bad))], .row 4 1 (List.map eBool v2) 2] st) [] [0, 128] (by decide) ?_ ?_ ?_
    · simp only [go_sem, Int.reduceLT, Int.reduceLE, Int.reduceBEq, Int.reduceBNe, Nat.reduceBNe, Nat.reduceAdd, Nat.reduceMul, Nat.reduceEqDiff, Nat.reduceLeDiff, Nat.reduceLT, Nat.reduceBEq, reduceCtorEq, reduceIte, IV, sts_cons, sts_nil, obs_cons, obs_nil, c2]
    · rintro i8 x9 ⟨⟩ ⟨sl, ob, n⟩ y4 hx5 hI6 hW7 h hy4
      simp only [IV, sts_cons, sts_nil, obs_cons, obs_nil, and_true, true_and, Nat.reduceAdd, str_len] at hI6
      obtain ⟨⟨g8_2, g8_5, g8_6⟩, og8_0, og8_1, hn⟩ := hI6
      subst hn
      have hlhx5 := WF.boxL hW7 og8_0 (j := 3) rfl
      obtain ⟨p9, h⟩ := chk_K h
      obtain ⟨x10, e10, h⟩ := bind_K h
      try simp only [go_sem, Int.reduceLT, Int.reduceLE, Int.reduceBEq, Int.reduceBNe, Nat.reduceBNe, Nat.reduceAdd, Nat.reduceMul, Nat.reduceEqDiff, Nat.reduceLeDiff, Nat.reduceLT, Nat.reduceBEq, reduceCtorEq, reduceIte, c2, hx5, lt_t hx5, lt_p hx5, nat_in (lt_n hx5) hlhx5, p9.1, p9.2, e10, g8_2, g8_5, g8_6, og8_0, og8_1]
      refine ite_K h (fun c11 h => ?_) (fun c11 h => ?_)
      · replace h := inr_K h hy4
        obtain rfl := Option.some.inj h
        try simp only [go_sem, Int.reduceLT, Int.reduceLE, Int.reduceBEq, Int.reduceBNe, Nat.reduceBNe, Nat.reduceAdd, Nat.reduceMul, Nat.reduceEqDiff, Nat.reduceLeDiff, Nat.reduceLT, Nat.reduceBEq, reduceCtorEq, reduceIte, c2, hx5, lt_t hx5, lt_p hx5, nat_in (lt_n hx5) hlhx5, p9.1, p9.2, e10, c11, g8_2, g8_5, g8_6, og8_0, og8_1]
      · try simp only [go_sem, Int.reduceLT, Int.reduceLE, Int.reduceBEq, Int.reduceBNe, Nat.reduceBNe, Nat.reduceAdd, Nat.reduceMul, Nat.reduceEqDiff, Nat.reduceLeDiff, Nat.reduceLT, Nat.reduceBEq, reduceCtorEq, reduceIte, c2, hx5, lt_t hx5, lt_p hx5, nat_in (lt_n hx5) hlhx5, p9.1, p9.2, e10, c11, g8_2, g8_5, g8_6, og8_0, og8_1]
        refine ⟨_, [], [0, 1], (Option.some.inj h).symm, by decide, ?_⟩
        try simp only [go_sem, Int.reduceLT, Int.reduceLE, Int.reduceBEq, Int.reduceBNe, Nat.reduceBNe, Nat.reduceAdd, Nat.reduceMul, Nat.reduceEqDiff, Nat.reduceLeDiff, Nat.reduceLT, Nat.reduceBEq, reduceCtorEq, reduceIte, c2, hx5, lt_t hx5, lt_p hx5, nat_in (lt_n hx5) hlhx5, p9.1, p9.2, e10, c11, g8_2, g8_5, g8_6, og8_0, og8_1, IV, sts_cons, sts_nil, obs_cons, obs_nil]
    · rintro ⟨⟩ ⟨sl, ob, n⟩ hI12 hW13 h
      simp only [IV, sts_cons, sts_nil, obs_cons, obs_nil, and_true, true_and, Nat.reduceAdd, str_len] at hI12
      obtain ⟨⟨g14_2, g14_5, g14_6⟩, og14_0, og14_1, hn⟩ := hI12
      subst hn
      obtain rfl := Option.some.inj h
      try simp only [go_sem, Int.reduceLT, Int.reduceLE, Int.reduceBEq, Int.reduceBNe, Nat.reduceBNe, Nat.reduceAdd, Nat.reduceMul, Nat.reduceEqDiff, Nat.reduceLeDiff, Nat.reduceLT, Nat.reduceBEq, reduceCtorEq, reduceIte, c2, lt_f (f_0.bad.length), g14_2, g14_5, g14_6, og14_0, og14_1]
  · obtain rfl := Option.some.inj h
    try simp only [go_sem, Int.reduceLT, Int.reduceLE, Int.reduceBEq, Int.reduceBNe, Nat.reduceBNe, Nat.reduceAdd, Nat.reduceMul, Nat.reduceEqDiff, Nat.reduceLeDiff, Nat.reduceLT, Nat.reduceBEq, reduceCtorEq, reduceIte, c2]
theorem s_NodesUnder_ok {f_0 : FrameD} {set_1 : Int} {r : (List Int)} (h : s_NodesUnder f_0 set_1 = some r) : Sound Try.prog J0 76 [(true, eFrame f_0), (false, [.int .i64 set_1])] [(false, [(false, .sl 3 1 (List.map eInt r))])] := by
  refine fnk Try.func76 (by kernel_rfl) rfl (by kernel_rfl) (by kernel_rfl) ?_
  unfold s_NodesUnder at h
  simp only [fnS, f76, argSt, go_sem, Int.reduceLT, Int.reduceLE, Int.reduceBEq, Int.reduceBNe, Nat.reduceBNe, Nat.reduceAdd, Nat.reduceMul, Nat.reduceEqDiff, Nat.reduceLeDiff, Nat.reduceLT, Nat.reduceBEq, reduceCtorEq, reduceIte]
  obtain ⟨v1, e1, h⟩ := bind_K h
  refine call_K (by first | exact s_l13Set_ok e1 | simpa only [go_sem, Int.reduceLT, Int.reduceLE, Int.reduceBEq, Int.reduceBNe, Nat.reduceBNe, Nat.reduceAdd, Nat.reduceMul, Nat.reduceEqDiff, Nat.reduceLeDiff, Nat.reduceLT, Nat.reduceBEq, reduceCtorEq, reduceIte] using s_l13Set_ok e1) ?_
  try simp only [go_sem, Int.reduceLT, Int.reduceLE, Int.reduceBEq, Int.reduceBNe, Nat.reduceBNe, Nat.reduceAdd, Nat.reduceMul, Nat.reduceEqDiff, Nat.reduceLeDiff, Nat.reduceLT, Nat.reduceBEq, reduceCtorEq, reduceIte]
  refine ite_K h (fun c2 h => ?_) (fun c2 h => ?_)
  · try simp only [go_sem, Int.reduceLT, Int.reduceLE, Int.reduceBEq, Int.reduceBNe, Nat.reduceBNe, Nat.reduceAdd, Nat.reduceMul, Nat.reduceEqDiff, Nat.reduceLeDiff, Nat.reduceLT, Nat.reduceBEq, reduceCtorEq, reduceIte, c2]
    obtain ⟨v2, e3, h⟩ := bind_K h
    refine call_K (by first | exact s_l13Under_ok e3 | simpa only [go_sem, Int.reduceLT, Int.reduceLE, Int.reduceBEq, Int.reduceBNe, Nat.reduceBNe, Nat.reduceAdd, Nat.reduceMul, Nat.reduceEqDiff, Nat.reduceLeDiff, Nat.reduceLT, Nat.reduceBEq, reduceCtorEq, reduceIte, c2] using s_l13Under_ok e3) ?_
    try simp only [go_sem, Int.reduceLT, Int.reduceLE, Int.reduceBEq, Int.reduceBNe, Nat.reduceBNe, Nat.reduceAdd, Nat.reduceMul, Nat.reduceEqDiff, Nat.reduceLeDiff, Nat.reduceLT, Nat.reduceBEq, reduceCtorEq, reduceIte, c2]
    refine swp_for h (fun i row_4 st => IV [(5, .p false [.row 0]), (6, .p false [.row 1]), (7, .p false [.c (.int .i64 ((i : Nat) : Int))])] [.row 3 1 (List.map eInt row_4) 2, .row 4 1 (List.map eBool v2) 2] st) [] [32, 160] (by decide) ?_ ?_ ?_
    · simp only [go_sem, Int.reduceLT, Int.reduceLE, Int.reduceBEq, Int.reduceBNe, Nat.reduceBNe, Nat.reduceAdd, Nat.reduceMul, Nat.reduceEqDiff, Nat.reduceLeDiff, Nat.reduceLT, Nat.reduceBEq, reduceCtorEq, reduceIte, IV, sts_cons, sts_nil, obs_cons, obs_nil, c2]
    · rintro i7 x8 row_4 ⟨sl, ob, n⟩ y4 hx5 hI6 hW7 h hy4
      simp only [IV, sts_cons, sts_nil, obs_cons, obs_nil, and_true, true_and, Nat.reduceAdd, str_len] at hI6
      obtain ⟨⟨g8_5, g8_6, g8_7⟩, og8_0, og8_1, hn⟩ := hI6
      subst hn
      have hlhx5 := WF.rowL hW7 og8_1
      try simp only [go_sem, Int.reduceLT, Int.reduceLE, Int.reduceBEq, Int.reduceBNe, Nat.reduceBNe, Nat.reduceAdd, Nat.reduceMul, Nat.reduceEqDiff, Nat.reduceLeDiff, Nat.reduceLT, Nat.reduceBEq, reduceCtorEq, reduceIte, c2, hx5, lt_t hx5, lt_p hx5, nat_in (lt_n hx5) hlhx5, g8_5, g8_6, g8_7, og8_0, og8_1]
      refine ite_K h (fun c9 h => ?_) (fun c9 h => ?_)
      · obtain ⟨p10, h⟩ := chk_K h
        try simp only [Nat.reduceLeDiff] at p10
        try simp only [go_sem, Int.reduceLT, Int.reduceLE, Int.reduceBEq, Int.reduceBNe, Nat.reduceBNe, Nat.reduceAdd, Nat.reduceMul, Nat.reduceEqDiff, Nat.reduceLeDiff, Nat.reduceLT, Nat.reduceBEq, reduceCtorEq, reduceIte, c2, hx5, lt_t hx5, lt_p hx5, nat_in (lt_n hx5) hlhx5, c9, p10, g8_5, g8_6, g8_7, og8_0, og8_1]
        refine ⟨_, [], [178, 1], (Option.some.inj h).symm, by decide, ?_⟩
        try simp only [go_sem, Int.reduceLT, Int.reduceLE, Int.reduceBEq, Int.reduceBNe, Nat.reduceBNe, Nat.reduceAdd, Nat.reduceMul, Nat.reduceEqDiff, Nat.reduceLeDiff, Nat.reduceLT, Nat.reduceBEq, reduceCtorEq, reduceIte, c2, hx5, lt_t hx5, lt_p hx5, nat_in (lt_n hx5) hlhx5, c9, p10, g8_5, g8_6, g8_7, og8_0, og8_1, IV, sts_cons, sts_nil, obs_cons, obs_nil]
      · try simp only [go_sem, Int.reduceLT, Int.reduceLE, Int.reduceBEq, Int.reduceBNe, Nat.reduceBNe, Nat.reduceAdd, Nat.reduceMul, Nat.reduceEqDiff, Nat.reduceLeDiff, Nat.reduceLT, Nat.reduceBEq, reduceCtorEq, reduceIte, c2, hx5, lt_t hx5, lt_p hx5, nat_in (lt_n hx5) hlhx5, c9, g8_5, g8_6, g8_7, og8_0, og8_1]
        refine ⟨_, [], [0, 1], (Option.some.inj h).symm, by decide, ?_⟩
        try simp only [go_sem, Int.reduceLT, Int.reduceLE, Int.reduceBEq, Int.reduceBNe, Nat.reduceBNe, Nat.reduceAdd, Nat.reduceMul, Nat.reduceEqDiff, Nat.reduceLeDiff, Nat.reduceLT, Nat.reduceBEq, reduceCtorEq, reduceIte, c2, hx5, lt_t hx5, lt_p hx5, nat_in (lt_n hx5) hlhx5, c9, g8_5, g8_6, g8_7, og8_0, og8_1, IV, sts_cons, sts_nil, obs_cons, obs_nil]
    · rintro row_4 ⟨sl, ob, n⟩ hI11 hW12 h
      simp only [IV, sts_cons, sts_nil, obs_cons, obs_nil, and_true, true_and, Nat.reduceAdd, str_len] at hI11
      obtain ⟨⟨g13_5, g13_6, g13_7⟩, og13_0, og13_1, hn⟩ := hI11
      subst hn
      obtain rfl := Option.some.inj h
      try simp only [go_sem, Int.reduceLT, Int.reduceLE, Int.reduceBEq, Int.reduceBNe, Nat.reduceBNe, Nat.reduceAdd, Nat.reduceMul, Nat.reduceEqDiff, Nat.reduceLeDiff, Nat.reduceLT, Nat.reduceBEq, reduceCtorEq, reduceIte, c2, lt_f (v2.length), g13_5, g13_6, g13_7, og13_0, og13_1]
  · obtain rfl := Option.some.inj h
    try simp only [go_sem, Int.reduceLT, Int.reduceLE, Int.reduceBEq, Int.reduceBNe, Nat.reduceBNe, Nat.reduceAdd, Nat.reduceMul, Nat.reduceEqDiff, Nat.reduceLeDiff, Nat.reduceLT, Nat.reduceBEq, reduceCtorEq, reduceIte, c2]
end Go.Proofs.Ytfbonanbiblkbaa

namespace Go.Proofs.Ytfbonanbiblkbaa
open Go.Proofs.Try
set_option linter.unusedSimpArgs false
set_option linter.unusedVariables false
set_option maxRecDepth 1000000
set_option maxHeartbeats 4000000
theorem s_DrawGoodFrame_ok {code_0 : (List Int)} {r : FrameD} (h : s_DrawGoodFrame code_0 = some r) : Sound Try.prog J0 20 [(false, [.sl 5 1 (List.map eByte code_0)])] [(true, [(false, .int .i64 r.beliefs.nodes), (false, .sl 49 3 (List.map eReason r.beliefs.reasons)), (false, .sl 3 1 (List.map eInt r.assumed)), (false, .sl 3 1 (List.map eInt r.bad))])] := by
  refine fnk Try.func20 (by kernel_rfl) rfl (by kernel_rfl) (by kernel_rfl) ?_
  unfold s_DrawGoodFrame at h
  simp only [fnS, f20, argSt, go_sem, Int.reduceLT, Int.reduceLE, Int.reduceBEq, Int.reduceBNe, Nat.reduceBNe, Nat.reduceAdd, Nat.reduceMul, Nat.reduceEqDiff, Nat.reduceLeDiff, Nat.reduceLT, Nat.reduceBEq, reduceCtorEq, reduceIte]
  obtain ⟨v1, e1, h⟩ := bind_K h
  refine new_K (by first | exact s_l1New_ok e1 | simpa only [go_sem, Int.reduceLT, Int.reduceLE, Int.reduceBEq, Int.reduceBNe, Nat.reduceBNe, Nat.reduceAdd, Nat.reduceMul, Nat.reduceEqDiff, Nat.reduceLeDiff, Nat.reduceLT, Nat.reduceBEq, reduceCtorEq, reduceIte] using s_l1New_ok e1) ?_
  try simp only [go_sem, Int.reduceLT, Int.reduceLE, Int.reduceBEq, Int.reduceBNe, Nat.reduceBNe, Nat.reduceAdd, Nat.reduceMul, Nat.reduceEqDiff, Nat.reduceLeDiff, Nat.reduceLT, Nat.reduceBEq, reduceCtorEq, reduceIte]
  obtain ⟨v2, e2, h⟩ := bind_K h
  refine hand_K (by first | exact s_l13Draw_ok e2 | simpa only [go_sem, Int.reduceLT, Int.reduceLE, Int.reduceBEq, Int.reduceBNe, Nat.reduceBNe, Nat.reduceAdd, Nat.reduceMul, Nat.reduceEqDiff, Nat.reduceLeDiff, Nat.reduceLT, Nat.reduceBEq, reduceCtorEq, reduceIte] using s_l13Draw_ok e2) ?_
  obtain rfl := Option.some.inj h
  try simp only [go_sem, Int.reduceLT, Int.reduceLE, Int.reduceBEq, Int.reduceBNe, Nat.reduceBNe, Nat.reduceAdd, Nat.reduceMul, Nat.reduceEqDiff, Nat.reduceLeDiff, Nat.reduceLT, Nat.reduceBEq, reduceCtorEq, reduceIte]
end Go.Proofs.Ytfbonanbiblkbaa

namespace Go.Proofs.Ytfbonanbiblkbaa
open Go.Proofs.Try
set_option linter.unusedSimpArgs false
set_option linter.unusedVariables false
set_option maxRecDepth 1000000
set_option maxHeartbeats 4000000
theorem s_HoldsUnder_ok {f_0 : FrameD} {x_1 : Int} {set_2 : Int} {r : Bool} (h : s_HoldsUnder f_0 x_1 set_2 = some r) : Sound Try.prog J0 56 [(true, eFrame f_0), (false, [.int .i64 x_1]), (false, [.int .i64 set_2])] [(false, [(false, .bool r)])] := by
  refine fnk Try.func56 (by kernel_rfl) rfl (by kernel_rfl) (by kernel_rfl) ?_
  unfold s_HoldsUnder at h
  simp only [fnS, f56, argSt, go_sem, Int.reduceLT, Int.reduceLE, Int.reduceBEq, Int.reduceBNe, Nat.reduceBNe, Nat.reduceAdd, Nat.reduceMul, Nat.reduceEqDiff, Nat.reduceLeDiff, Nat.reduceLT, Nat.reduceBEq, reduceCtorEq, reduceIte]
  obtain ⟨v1, e1, h⟩ := bind_K h
  refine call_K (by first | exact s_IsConsistent_ok e1 | simpa only [go_sem, Int.reduceLT, Int.reduceLE, Int.reduceBEq, Int.reduceBNe, Nat.reduceBNe, Nat.reduceAdd, Nat.reduceMul, Nat.reduceEqDiff, Nat.reduceLeDiff, Nat.reduceLT, Nat.reduceBEq, reduceCtorEq, reduceIte] using s_IsConsistent_ok e1) ?_
  try simp only [go_sem, Int.reduceLT, Int.reduceLE, Int.reduceBEq, Int.reduceBNe, Nat.reduceBNe, Nat.reduceAdd, Nat.reduceMul, Nat.reduceEqDiff, Nat.reduceLeDiff, Nat.reduceLT, Nat.reduceBEq, reduceCtorEq, reduceIte]
  refine ite_K h (fun c2 h => ?_) (fun c2 h => ?_)
  · try simp only [go_sem, Int.reduceLT, Int.reduceLE, Int.reduceBEq, Int.reduceBNe, Nat.reduceBNe, Nat.reduceAdd, Nat.reduceMul, Nat.reduceEqDiff, Nat.reduceLeDiff, Nat.reduceLT, Nat.reduceBEq, reduceCtorEq, reduceIte, c2]
    obtain ⟨v2, e3, h⟩ := bind_K h
    refine call_K (by first | exact s_NodesUnder_ok e3 | simpa only [go_sem, Int.reduceLT, Int.reduceLE, Int.reduceBEq, Int.reduceBNe, Nat.reduceBNe, Nat.reduceAdd, Nat.reduceMul, Nat.reduceEqDiff, Nat.reduceLeDiff, Nat.reduceLT, Nat.reduceBEq, reduceCtorEq, reduceIte, c2] using s_NodesUnder_ok e3) ?_
    try simp only [go_sem, Int.reduceLT, Int.reduceLE, Int.reduceBEq, Int.reduceBNe, Nat.reduceBNe, Nat.reduceAdd, Nat.reduceMul, Nat.reduceEqDiff, Nat.reduceLeDiff, Nat.reduceLT, Nat.reduceBEq, reduceCtorEq, reduceIte, c2]
    obtain ⟨v3, e4, h⟩ := bind_K h
    refine call_K (by first | exact s_l1Has_ok e4 | simpa only [go_sem, Int.reduceLT, Int.reduceLE, Int.reduceBEq, Int.reduceBNe, Nat.reduceBNe, Nat.reduceAdd, Nat.reduceMul, Nat.reduceEqDiff, Nat.reduceLeDiff, Nat.reduceLT, Nat.reduceBEq, reduceCtorEq, reduceIte, c2] using s_l1Has_ok e4) ?_
    obtain rfl := Option.some.inj h
    try simp only [go_sem, Int.reduceLT, Int.reduceLE, Int.reduceBEq, Int.reduceBNe, Nat.reduceBNe, Nat.reduceAdd, Nat.reduceMul, Nat.reduceEqDiff, Nat.reduceLeDiff, Nat.reduceLT, Nat.reduceBEq, reduceCtorEq, reduceIte, c2]
  · obtain rfl := Option.some.inj h
    try simp only [go_sem, Int.reduceLT, Int.reduceLE, Int.reduceBEq, Int.reduceBNe, Nat.reduceBNe, Nat.reduceAdd, Nat.reduceMul, Nat.reduceEqDiff, Nat.reduceLeDiff, Nat.reduceLT, Nat.reduceBEq, reduceCtorEq, reduceIte, c2]
end Go.Proofs.Ytfbonanbiblkbaa

namespace Go.Proofs.Ytfbonanbiblkbaa
open Go.Proofs.Try
set_option linter.unusedSimpArgs false
set_option linter.unusedVariables false
set_option maxRecDepth 1000000
set_option maxHeartbeats 4000000
theorem s_LabelFor_ok {f_0 : FrameD} {x_1 : Int} {r : (List Int)} (h : s_LabelFor f_0 x_1 = some r) : Sound Try.prog J0 30 [(true, eFrame f_0), (false, [.int .i64 x_1])] [(false, [(false, .sl 3 1 (List.map eInt r))])] := by
  refine fnk Try.func30 (by kernel_rfl) rfl (by kernel_rfl) (by kernel_rfl) ?_
  unfold s_LabelFor at h
  simp only [fnS, f30, argSt, go_sem, Int.reduceLT, Int.reduceLE, Int.reduceBEq, Int.reduceBNe, Nat.reduceBNe, Nat.reduceAdd, Nat.reduceMul, Nat.reduceEqDiff, Nat.reduceLeDiff, Nat.reduceLT, Nat.reduceBEq, reduceCtorEq, reduceIte]
  refine swp_iter h (fun s st => match s with | (row_3, set_4) => IV [(1, .p false [.c (.int .i64 x_1)]), (2, .bp 0 0), (5, .p false [.row 1]), (6, .p false [.c (.int .i64 set_4)])] [.box 39 [.c (.int .i64 f_0.beliefs.nodes), .c (.sl 49 3 (List.map eReason f_0.beliefs.reasons)), .c (.sl 3 1 (List.map eInt f_0.assumed)), .c (.sl 3 1 (List.map eInt f_0.bad))], .row 3 1 (List.map eInt row_3) 2] st) [] [0, 32] (by decide) ?_ ?_
  · simp only [go_sem, Int.reduceLT, Int.reduceLE, Int.reduceBEq, Int.reduceBNe, Nat.reduceBNe, Nat.reduceAdd, Nat.reduceMul, Nat.reduceEqDiff, Nat.reduceLeDiff, Nat.reduceLT, Nat.reduceBEq, reduceCtorEq, reduceIte, IV, sts_cons, sts_nil, obs_cons, obs_nil]
  · rintro ⟨row_3, set_4⟩ ⟨sl, ob, n⟩ y1 hI2 hW3 h hy1
    simp only [IV, sts_cons, sts_nil, obs_cons, obs_nil, and_true, true_and, Nat.reduceAdd, str_len] at hI2
    obtain ⟨⟨g4_1, g4_2, g4_5, g4_6⟩, og4_0, og4_1, hn⟩ := hI2
    subst hn
    try simp only [go_sem, Int.reduceLT, Int.reduceLE, Int.reduceBEq, Int.reduceBNe, Nat.reduceBNe, Nat.reduceAdd, Nat.reduceMul, Nat.reduceEqDiff, Nat.reduceLeDiff, Nat.reduceLT, Nat.reduceBEq, reduceCtorEq, reduceIte, g4_1, g4_2, g4_5, g4_6, og4_0, og4_1]
    obtain ⟨v5, e5, h⟩ := bind_K h
    refine call_K (by first | exact s_l13Set_ok e5 | simpa only [go_sem, Int.reduceLT, Int.reduceLE, Int.reduceBEq, Int.reduceBNe, Nat.reduceBNe, Nat.reduceAdd, Nat.reduceMul, Nat.reduceEqDiff, Nat.reduceLeDiff, Nat.reduceLT, Nat.reduceBEq, reduceCtorEq, reduceIte, g4_1, g4_2, g4_5, g4_6, og4_0, og4_1] using s_l13Set_ok e5) ?_
    try simp only [go_sem, Int.reduceLT, Int.reduceLE, Int.reduceBEq, Int.reduceBNe, Nat.reduceBNe, Nat.reduceAdd, Nat.reduceMul, Nat.reduceEqDiff, Nat.reduceLeDiff, Nat.reduceLT, Nat.reduceBEq, reduceCtorEq, reduceIte, g4_1, g4_2, g4_5, g4_6, og4_0, og4_1]
    refine ite_K h (fun c6 h => ?_) (fun c6 h => ?_)
    · try simp only [go_sem, Int.reduceLT, Int.reduceLE, Int.reduceBEq, Int.reduceBNe, Nat.reduceBNe, Nat.reduceAdd, Nat.reduceMul, Nat.reduceEqDiff, Nat.reduceLeDiff, Nat.reduceLT, Nat.reduceBEq, reduceCtorEq, reduceIte, c6, g4_1, g4_2, g4_5, g4_6, og4_0, og4_1]
      obtain ⟨v6, e7, h⟩ := bind_K h
      refine call_K (by first | exact s_HoldsUnder_ok e7 | simpa only [go_sem, Int.reduceLT, Int.reduceLE, Int.reduceBEq, Int.reduceBNe, Nat.reduceBNe, Nat.reduceAdd, Nat.reduceMul, Nat.reduceEqDiff, Nat.reduceLeDiff, Nat.reduceLT, Nat.reduceBEq, reduceCtorEq, reduceIte, c6, g4_1, g4_2, g4_5, g4_6, og4_0, og4_1] using s_HoldsUnder_ok e7) ?_
      try simp only [go_sem, Int.reduceLT, Int.reduceLE, Int.reduceBEq, Int.reduceBNe, Nat.reduceBNe, Nat.reduceAdd, Nat.reduceMul, Nat.reduceEqDiff, Nat.reduceLeDiff, Nat.reduceLT, Nat.reduceBEq, reduceCtorEq, reduceIte, c6, g4_1, g4_2, g4_5, g4_6, og4_0, og4_1]
      refine ite_K h (fun c8 h => ?_) (fun c8 h => ?_)
      · obtain ⟨p9, h⟩ := chk_K h
        try simp only [Nat.reduceLeDiff] at p9
        try simp only [go_sem, Int.reduceLT, Int.reduceLE, Int.reduceBEq, Int.reduceBNe, Nat.reduceBNe, Nat.reduceAdd, Nat.reduceMul, Nat.reduceEqDiff, Nat.reduceLeDiff, Nat.reduceLT, Nat.reduceBEq, reduceCtorEq, reduceIte, c6, c8, p9, g4_1, g4_2, g4_5, g4_6, og4_0, og4_1]
        refine ⟨_, [], [0, 162], (Option.some.inj h).symm, by decide, ?_⟩
        try simp only [go_sem, Int.reduceLT, Int.reduceLE, Int.reduceBEq, Int.reduceBNe, Nat.reduceBNe, Nat.reduceAdd, Nat.reduceMul, Nat.reduceEqDiff, Nat.reduceLeDiff, Nat.reduceLT, Nat.reduceBEq, reduceCtorEq, reduceIte, c6, c8, p9, g4_1, g4_2, g4_5, g4_6, og4_0, og4_1, IV, sts_cons, sts_nil, obs_cons, obs_nil]
      · try simp only [go_sem, Int.reduceLT, Int.reduceLE, Int.reduceBEq, Int.reduceBNe, Nat.reduceBNe, Nat.reduceAdd, Nat.reduceMul, Nat.reduceEqDiff, Nat.reduceLeDiff, Nat.reduceLT, Nat.reduceBEq, reduceCtorEq, reduceIte, c6, c8, g4_1, g4_2, g4_5, g4_6, og4_0, og4_1]
        refine ⟨_, [], [0, 1], (Option.some.inj h).symm, by decide, ?_⟩
        try simp only [go_sem, Int.reduceLT, Int.reduceLE, Int.reduceBEq, Int.reduceBNe, Nat.reduceBNe, Nat.reduceAdd, Nat.reduceMul, Nat.reduceEqDiff, Nat.reduceLeDiff, Nat.reduceLT, Nat.reduceBEq, reduceCtorEq, reduceIte, c6, c8, g4_1, g4_2, g4_5, g4_6, og4_0, og4_1, IV, sts_cons, sts_nil, obs_cons, obs_nil]
    · try simp only [go_sem, Int.reduceLT, Int.reduceLE, Int.reduceBEq, Int.reduceBNe, Nat.reduceBNe, Nat.reduceAdd, Nat.reduceMul, Nat.reduceEqDiff, Nat.reduceLeDiff, Nat.reduceLT, Nat.reduceBEq, reduceCtorEq, reduceIte, c6, g4_1, g4_2, g4_5, g4_6, og4_0, og4_1]
      obtain ⟨v7, e10, h⟩ := bind_K h
      refine call_K (by first | exact s_LeastSets_ok e10 | simpa only [go_sem, Int.reduceLT, Int.reduceLE, Int.reduceBEq, Int.reduceBNe, Nat.reduceBNe, Nat.reduceAdd, Nat.reduceMul, Nat.reduceEqDiff, Nat.reduceLeDiff, Nat.reduceLT, Nat.reduceBEq, reduceCtorEq, reduceIte, c6, g4_1, g4_2, g4_5, g4_6, og4_0, og4_1] using s_LeastSets_ok e10) ?_
      replace h := inr_K h hy1
      obtain rfl := Option.some.inj h
      try simp only [go_sem, Int.reduceLT, Int.reduceLE, Int.reduceBEq, Int.reduceBNe, Nat.reduceBNe, Nat.reduceAdd, Nat.reduceMul, Nat.reduceEqDiff, Nat.reduceLeDiff, Nat.reduceLT, Nat.reduceBEq, reduceCtorEq, reduceIte, c6, g4_1, g4_2, g4_5, g4_6, og4_0, og4_1]
end Go.Proofs.Ytfbonanbiblkbaa

namespace Go.Proofs.Ytfbonanbiblkbaa
open Go.Proofs.Try
set_option linter.unusedSimpArgs false
set_option linter.unusedVariables false
set_option maxRecDepth 1000000
set_option maxHeartbeats 4000000
theorem w_FnLabelStep_ok {append_0 : (List Int)} {r : Bool} (h : w_FnLabelStep append_0 = some r) : Sound Try.prog J0 8 [(false, [.sl 5 1 (List.map eByte append_0)])] [(false, [(false, .bool r)])] := by
  refine fnk Try.func8 (by kernel_rfl) rfl (by kernel_rfl) (by kernel_rfl) ?_
  unfold w_FnLabelStep at h
  have kn0 : ¬ ((0 : Int) < 0) := by decide
  simp only [fnS, f8, argSt, go_sem, Int.reduceLT, Int.reduceLE, Int.reduceBEq, Int.reduceBNe, Nat.reduceBNe, Nat.reduceAdd, Nat.reduceMul, Nat.reduceEqDiff, Nat.reduceLeDiff, Nat.reduceLT, Nat.reduceBEq, reduceCtorEq, reduceIte, kn0]
  obtain ⟨v1, e1, h⟩ := bind_K h
  refine call_K (by first | exact w_big_ok e1 | simpa only [go_sem, Int.reduceLT, Int.reduceLE, Int.reduceBEq, Int.reduceBNe, Nat.reduceBNe, Nat.reduceAdd, Nat.reduceMul, Nat.reduceEqDiff, Nat.reduceLeDiff, Nat.reduceLT, Nat.reduceBEq, reduceCtorEq, reduceIte, kn0] using w_big_ok e1) ?_
  try simp only [go_sem, Int.reduceLT, Int.reduceLE, Int.reduceBEq, Int.reduceBNe, Nat.reduceBNe, Nat.reduceAdd, Nat.reduceMul, Nat.reduceEqDiff, Nat.reduceLeDiff, Nat.reduceLT, Nat.reduceBEq, reduceCtorEq, reduceIte, kn0]
  refine ite_K h (fun c2 h => ?_) (fun c2 h => ?_)
  · obtain rfl := Option.some.inj h
    try simp only [go_sem, Int.reduceLT, Int.reduceLE, Int.reduceBEq, Int.reduceBNe, Nat.reduceBNe, Nat.reduceAdd, Nat.reduceMul, Nat.reduceEqDiff, Nat.reduceLeDiff, Nat.reduceLT, Nat.reduceBEq, reduceCtorEq, reduceIte, kn0, c2]
  · try simp only [go_sem, Int.reduceLT, Int.reduceLE, Int.reduceBEq, Int.reduceBNe, Nat.reduceBNe, Nat.reduceAdd, Nat.reduceMul, Nat.reduceEqDiff, Nat.reduceLeDiff, Nat.reduceLT, Nat.reduceBEq, reduceCtorEq, reduceIte, kn0, c2]
    obtain ⟨v2, e3, h⟩ := bind_K h
    refine call_K (by first | exact s_DrawGoodFrame_ok e3 | simpa only [go_sem, Int.reduceLT, Int.reduceLE, Int.reduceBEq, Int.reduceBNe, Nat.reduceBNe, Nat.reduceAdd, Nat.reduceMul, Nat.reduceEqDiff, Nat.reduceLeDiff, Nat.reduceLT, Nat.reduceBEq, reduceCtorEq, reduceIte, kn0, c2] using s_DrawGoodFrame_ok e3) ?_
    try simp only [go_sem, Int.reduceLT, Int.reduceLE, Int.reduceBEq, Int.reduceBNe, Nat.reduceBNe, Nat.reduceAdd, Nat.reduceMul, Nat.reduceEqDiff, Nat.reduceLeDiff, Nat.reduceLT, Nat.reduceBEq, reduceCtorEq, reduceIte, kn0, c2]
    obtain ⟨v3, e4, h⟩ := bind_K h
    refine call_K (by first | exact w_at_ok e4 | simpa only [go_sem, Int.reduceLT, Int.reduceLE, Int.reduceBEq, Int.reduceBNe, Nat.reduceBNe, Nat.reduceAdd, Nat.reduceMul, Nat.reduceEqDiff, Nat.reduceLeDiff, Nat.reduceLT, Nat.reduceBEq, reduceCtorEq, reduceIte, kn0, c2] using w_at_ok e4) ?_
    obtain ⟨p5, h⟩ := chk_K h
    try simp only [go_sem, Int.reduceLT, Int.reduceLE, Int.reduceBEq, Int.reduceBNe, Nat.reduceBNe, Nat.reduceAdd, Nat.reduceMul, Nat.reduceEqDiff, Nat.reduceLeDiff, Nat.reduceLT, Nat.reduceBEq, reduceCtorEq, reduceIte, kn0, c2, p5]
    refine swp_for h (fun i row_5 st => IV [(3, .bp 0 0), (4, .p false [.c (.int .i64 (Int.tmod v3 v2.beliefs.nodes))]), (5, .p false [.row 4]), (6, .p false [.c (.int .i64 ((i : Nat) : Int))])] [.box 39 [.c (.int .i64 v2.beliefs.nodes), .row 1, .row 2, .row 3], .row 49 3 (List.map eReason v2.beliefs.reasons) 2, .row 3 1 (List.map eInt v2.assumed) 2, .row 3 1 (List.map eInt v2.bad) 2, .row 3 1 (List.map eInt row_5) 2] st) [] [80, 64, 65, 66, 224] (by decide) ?_ ?_ ?_
    · simp only [go_sem, Int.reduceLT, Int.reduceLE, Int.reduceBEq, Int.reduceBNe, Nat.reduceBNe, Nat.reduceAdd, Nat.reduceMul, Nat.reduceEqDiff, Nat.reduceLeDiff, Nat.reduceLT, Nat.reduceBEq, reduceCtorEq, reduceIte, IV, sts_cons, sts_nil, obs_cons, obs_nil, kn0, c2, p5]
    · rintro i101 x102 row_5 ⟨sl, ob, n⟩ y6 hx7 hI8 hW9 h hy6
      simp only [IV, sts_cons, sts_nil, obs_cons, obs_nil, and_true, true_and, Nat.reduceAdd, str_len] at hI8
      obtain ⟨⟨g10_3, g10_4, g10_5, g10_6⟩, og10_0, og10_1, og10_2, og10_3, og10_4, hn⟩ := hI8
      subst hn
      have hlhx7 := WF.rowL hW9 og10_2
      try simp only [go_sem, Int.reduceLT, Int.reduceLE, Int.reduceBEq, Int.reduceBNe, Nat.reduceBNe, Nat.reduceAdd, Nat.reduceMul, Nat.reduceEqDiff, Nat.reduceLeDiff, Nat.reduceLT, Nat.reduceBEq, reduceCtorEq, reduceIte, kn0, c2, p5, hx7, lt_t hx7, lt_p hx7, nat_in (lt_n hx7) hlhx7, g10_3, g10_4, g10_5, g10_6, og10_0, og10_1, og10_2, og10_3, og10_4]
      refine ite_K h (fun c11 h => ?_) (fun c11 h => ?_)
      · obtain ⟨p12, h⟩ := chk_K h
        obtain ⟨p13, h⟩ := chk_K h
        try simp only [Nat.reduceLeDiff] at p13
        try simp only [go_sem, Int.reduceLT, Int.reduceLE, Int.reduceBEq, Int.reduceBNe, Nat.reduceBNe, Nat.reduceAdd, Nat.reduceMul, Nat.reduceEqDiff, Nat.reduceLeDiff, Nat.reduceLT, Nat.reduceBEq, reduceCtorEq, reduceIte, kn0, c2, p5, hx7, lt_t hx7, lt_p hx7, nat_in (lt_n hx7) hlhx7, c11, p12, p13, g10_3, g10_4, g10_5, g10_6, og10_0, og10_1, og10_2, og10_3, og10_4]
        refine ⟨_, [], [0, 1, 2, 3, 261], (Option.some.inj h).symm, by decide, ?_⟩
        try simp only [go_sem, Int.reduceLT, Int.reduceLE, Int.reduceBEq, Int.reduceBNe, Nat.reduceBNe, Nat.reduceAdd, Nat.reduceMul, Nat.reduceEqDiff, Nat.reduceLeDiff, Nat.reduceLT, Nat.reduceBEq, reduceCtorEq, reduceIte, kn0, c2, p5, hx7, lt_t hx7, lt_p hx7, nat_in (lt_n hx7) hlhx7, c11, p12, p13, g10_3, g10_4, g10_5, g10_6, og10_0, og10_1, og10_2, og10_3, og10_4, IV, sts_cons, sts_nil, obs_cons, obs_nil]
      · try simp only [go_sem, Int.reduceLT, Int.reduceLE, Int.reduceBEq, Int.reduceBNe, Nat.reduceBNe, Nat.reduceAdd, Nat.reduceMul, Nat.reduceEqDiff, Nat.reduceLeDiff, Nat.reduceLT, Nat.reduceBEq, reduceCtorEq, reduceIte, kn0, c2, p5, hx7, lt_t hx7, lt_p hx7, nat_in (lt_n hx7) hlhx7, c11, g10_3, g10_4, g10_5, g10_6, og10_0, og10_1, og10_2, og10_3, og10_4]
        refine ⟨_, [], [0, 1, 2, 3, 4], (Option.some.inj h).symm, by decide, ?_⟩
        try simp only [go_sem, Int.reduceLT, Int.reduceLE, Int.reduceBEq, Int.reduceBNe, Nat.reduceBNe, Nat.reduceAdd, Nat.reduceMul, Nat.reduceEqDiff, Nat.reduceLeDiff, Nat.reduceLT, Nat.reduceBEq, reduceCtorEq, reduceIte, kn0, c2, p5, hx7, lt_t hx7, lt_p hx7, nat_in (lt_n hx7) hlhx7, c11, g10_3, g10_4, g10_5, g10_6, og10_0, og10_1, og10_2, og10_3, og10_4, IV, sts_cons, sts_nil, obs_cons, obs_nil]
    · rintro row_5 ⟨sl, ob, n⟩ hI14 hW15 h
      simp only [IV, sts_cons, sts_nil, obs_cons, obs_nil, and_true, true_and, Nat.reduceAdd, str_len] at hI14
      obtain ⟨⟨g16_3, g16_4, g16_5, g16_6⟩, og16_0, og16_1, og16_2, og16_3, og16_4, hn⟩ := hI14
      subst hn
      try simp only [go_sem, Int.reduceLT, Int.reduceLE, Int.reduceBEq, Int.reduceBNe, Nat.reduceBNe, Nat.reduceAdd, Nat.reduceMul, Nat.reduceEqDiff, Nat.reduceLeDiff, Nat.reduceLT, Nat.reduceBEq, reduceCtorEq, reduceIte, kn0, c2, p5, lt_f (v2.assumed.length), g16_3, g16_4, g16_5, g16_6, og16_0, og16_1, og16_2, og16_3, og16_4]
      refine swp_for h (fun i row_130 st => IV [(3, .bp 0 0), (4, .p false [.c (.int .i64 (Int.tmod v3 v2.beliefs.nodes))]), (5, .p false [.row 4]), (7, .p false [.c (.int .i64 ((i : Nat) : Int))])] [.box 39 [.c (.int .i64 v2.beliefs.nodes), .row 1, .row 2, .row 3], .row 49 3 (List.map eReason v2.beliefs.reasons) 2, .row 3 1 (List.map eInt v2.assumed) 2, .row 3 1 (List.map eInt v2.bad) 2, .row 3 1 (List.map eInt row_130) 2] st) [] [0, 1, 2, 3, 4] (by decide) ?_ ?_ ?_
      · simp only [go_sem, Int.reduceLT, Int.reduceLE, Int.reduceBEq, Int.reduceBNe, Nat.reduceBNe, Nat.reduceAdd, Nat.reduceMul, Nat.reduceEqDiff, Nat.reduceLeDiff, Nat.reduceLT, Nat.reduceBEq, reduceCtorEq, reduceIte, IV, sts_cons, sts_nil, obs_cons, obs_nil, kn0, c2, p5, lt_f (v2.assumed.length), g16_3, g16_4, g16_5, g16_6, og16_0, og16_1, og16_2, og16_3, og16_4]
      · rintro i163 x164 row_130 ⟨sl, ob, n⟩ y17 hx18 hI19 hW20 h hy17
        simp only [IV, sts_cons, sts_nil, obs_cons, obs_nil, and_true, true_and, Nat.reduceAdd, str_len] at hI19
        obtain ⟨⟨g21_3, g21_4, g21_5, g21_7⟩, og21_0, og21_1, og21_2, og21_3, og21_4, hn⟩ := hI19
        subst hn
        have hlhx18 := WF.rowL hW20 og21_1
        try simp only [go_sem, Int.reduceLT, Int.reduceLE, Int.reduceBEq, Int.reduceBNe, Nat.reduceBNe, Nat.reduceAdd, Nat.reduceMul, Nat.reduceEqDiff, Nat.reduceLeDiff, Nat.reduceLT, Nat.reduceBEq, reduceCtorEq, reduceIte, kn0, c2, p5, lt_f (v2.assumed.length), hx18, lt_t hx18, lt_p hx18, nat_in (lt_n hx18) hlhx18, g21_3, g21_4, g21_5, g21_7, og21_0, og21_1, og21_2, og21_3, og21_4]
        refine ite_K h (fun c22 h => ?_) (fun c22 h => ?_)
        · try simp only [go_sem, Int.reduceLT, Int.reduceLE, Int.reduceBEq, Int.reduceBNe, Nat.reduceBNe, Nat.reduceAdd, Nat.reduceMul, Nat.reduceEqDiff, Nat.reduceLeDiff, Nat.reduceLT, Nat.reduceBEq, reduceCtorEq, reduceIte, kn0, c2, p5, lt_f (v2.assumed.length), hx18, lt_t hx18, lt_p hx18, nat_in (lt_n hx18) hlhx18, c22, g21_3, g21_4, g21_5, g21_7, og21_0, og21_1, og21_2, og21_3, og21_4]
          refine ⟨_, [], [0, 1, 2, 3, 4], (Option.some.inj h).symm, by decide, ?_⟩
          try simp only [go_sem, Int.reduceLT, Int.reduceLE, Int.reduceBEq, Int.reduceBNe, Nat.reduceBNe, Nat.reduceAdd, Nat.reduceMul, Nat.reduceEqDiff, Nat.reduceLeDiff, Nat.reduceLT, Nat.reduceBEq, reduceCtorEq, reduceIte, kn0, c2, p5, lt_f (v2.assumed.length), hx18, lt_t hx18, lt_p hx18, nat_in (lt_n hx18) hlhx18, c22, g21_3, g21_4, g21_5, g21_7, og21_0, og21_1, og21_2, og21_3, og21_4, IV, sts_cons, sts_nil, obs_cons, obs_nil]
        · try simp only [go_sem, Int.reduceLT, Int.reduceLE, Int.reduceBEq, Int.reduceBNe, Nat.reduceBNe, Nat.reduceAdd, Nat.reduceMul, Nat.reduceEqDiff, Nat.reduceLeDiff, Nat.reduceLT, Nat.reduceBEq, reduceCtorEq, reduceIte, kn0, c2, p5, lt_f (v2.assumed.length), hx18, lt_t hx18, lt_p hx18, nat_in (lt_n hx18) hlhx18, c22, g21_3, g21_4, g21_5, g21_7, og21_0, og21_1, og21_2, og21_3, og21_4]
          refine swp_for h (fun i row_168 st => IV [(3, .bp 0 0), (4, .p false [.c (.int .i64 (Int.tmod v3 v2.beliefs.nodes))]), (5, .p false [.row 4]), (7, .p false [.c (.int .i64 ((i163 : Nat) : Int))]), (8, .p false [.row 5]), (9, .p false [.c (.int .i64 ((i : Nat) : Int))])] [.box 39 [.c (.int .i64 v2.beliefs.nodes), .row 1, .row 2, .row 3], .row 49 3 (List.map eReason v2.beliefs.reasons) 2, .row 3 1 (List.map eInt v2.assumed) 2, .row 3 1 (List.map eInt v2.bad) 2, .row 3 1 (List.map eInt row_130) 2, .row 3 1 (List.map eInt row_168) 2] st) [] [0, 1, 2, 3, 4, 245] (by decide) ?_ ?_ ?_
          · simp only [go_sem, Int.reduceLT, Int.reduceLE, Int.reduceBEq, Int.reduceBNe, Nat.reduceBNe, Nat.reduceAdd, Nat.reduceMul, Nat.reduceEqDiff, Nat.reduceLeDiff, Nat.reduceLT, Nat.reduceBEq, reduceCtorEq, reduceIte, IV, sts_cons, sts_nil, obs_cons, obs_nil, kn0, c2, p5, lt_f (v2.assumed.length), hx18, lt_t hx18, lt_p hx18, nat_in (lt_n hx18) hlhx18, c22, g21_3, g21_4, g21_5, g21_7, og21_0, og21_1, og21_2, og21_3, og21_4]
          · rintro i173 x174 row_168 ⟨sl, ob, n⟩ y23 hx24 hI25 hW26 h hy23
            simp only [IV, sts_cons, sts_nil, obs_cons, obs_nil, and_true, true_and, Nat.reduceAdd, str_len] at hI25
            obtain ⟨⟨g27_3, g27_4, g27_5, g27_7, g27_8, g27_9⟩, og27_0, og27_1, og27_2, og27_3, og27_4, og27_5, hn⟩ := hI25
            subst hn
            have hlhx24 := WF.elL (WF.rowD hW26 og27_1) hx18 (j := 1) rfl
            try simp only [go_sem, Int.reduceLT, Int.reduceLE, Int.reduceBEq, Int.reduceBNe, Nat.reduceBNe, Nat.reduceAdd, Nat.reduceMul, Nat.reduceEqDiff, Nat.reduceLeDiff, Nat.reduceLT, Nat.reduceBEq, reduceCtorEq, reduceIte, kn0, c2, p5, lt_f (v2.assumed.length), hx18, lt_t hx18, lt_p hx18, nat_in (lt_n hx18) hlhx18, c22, hx24, lt_t hx24, lt_p hx24, nat_in (lt_n hx24) hlhx24, g27_3, g27_4, g27_5, g27_7, g27_8, g27_9, og27_0, og27_1, og27_2, og27_3, og27_4, og27_5]
            obtain ⟨v175, e28, h⟩ := bind_K h
            refine call_K (by first | exact i_LabelFor_ok e28 | simpa only [go_sem, Int.reduceLT, Int.reduceLE, Int.reduceBEq, Int.reduceBNe, Nat.reduceBNe, Nat.reduceAdd, Nat.reduceMul, Nat.reduceEqDiff, Nat.reduceLeDiff, Nat.reduceLT, Nat.reduceBEq, reduceCtorEq, reduceIte, kn0, c2, p5, lt_f (v2.assumed.length), hx18, lt_t hx18, lt_p hx18, nat_in (lt_n hx18) hlhx18, c22, hx24, lt_t hx24, lt_p hx24, nat_in (lt_n hx24) hlhx24, g27_3, g27_4, g27_5, g27_7, g27_8, g27_9, og27_0, og27_1, og27_2, og27_3, og27_4, og27_5] using i_LabelFor_ok e28) ?_
            try simp only [go_sem, Int.reduceLT, Int.reduceLE, Int.reduceBEq, Int.reduceBNe, Nat.reduceBNe, Nat.reduceAdd, Nat.reduceMul, Nat.reduceEqDiff, Nat.reduceLeDiff, Nat.reduceLT, Nat.reduceBEq, reduceCtorEq, reduceIte, kn0, c2, p5, lt_f (v2.assumed.length), hx18, lt_t hx18, lt_p hx18, nat_in (lt_n hx18) hlhx18, c22, hx24, lt_t hx24, lt_p hx24, nat_in (lt_n hx24) hlhx24, g27_3, g27_4, g27_5, g27_7, g27_8, g27_9, og27_0, og27_1, og27_2, og27_3, og27_4, og27_5]
            obtain ⟨v176, e29, h⟩ := bind_K h
            refine call_K (by first | exact i_UnionsOf_ok e29 | simpa only [go_sem, Int.reduceLT, Int.reduceLE, Int.reduceBEq, Int.reduceBNe, Nat.reduceBNe, Nat.reduceAdd, Nat.reduceMul, Nat.reduceEqDiff, Nat.reduceLeDiff, Nat.reduceLT, Nat.reduceBEq, reduceCtorEq, reduceIte, kn0, c2, p5, lt_f (v2.assumed.length), hx18, lt_t hx18, lt_p hx18, nat_in (lt_n hx18) hlhx18, c22, hx24, lt_t hx24, lt_p hx24, nat_in (lt_n hx24) hlhx24, g27_3, g27_4, g27_5, g27_7, g27_8, g27_9, og27_0, og27_1, og27_2, og27_3, og27_4, og27_5] using i_UnionsOf_ok e29) ?_
            try simp only [go_sem, Int.reduceLT, Int.reduceLE, Int.reduceBEq, Int.reduceBNe, Nat.reduceBNe, Nat.reduceAdd, Nat.reduceMul, Nat.reduceEqDiff, Nat.reduceLeDiff, Nat.reduceLT, Nat.reduceBEq, reduceCtorEq, reduceIte, kn0, c2, p5, lt_f (v2.assumed.length), hx18, lt_t hx18, lt_p hx18, nat_in (lt_n hx18) hlhx18, c22, hx24, lt_t hx24, lt_p hx24, nat_in (lt_n hx24) hlhx24, g27_3, g27_4, g27_5, g27_7, g27_8, g27_9, og27_0, og27_1, og27_2, og27_3, og27_4, og27_5]
            refine ⟨_, [], [0, 1, 2, 3, 4, 374], (Option.some.inj h).symm, by decide, ?_⟩
            try simp only [go_sem, Int.reduceLT, Int.reduceLE, Int.reduceBEq, Int.reduceBNe, Nat.reduceBNe, Nat.reduceAdd, Nat.reduceMul, Nat.reduceEqDiff, Nat.reduceLeDiff, Nat.reduceLT, Nat.reduceBEq, reduceCtorEq, reduceIte, kn0, c2, p5, lt_f (v2.assumed.length), hx18, lt_t hx18, lt_p hx18, nat_in (lt_n hx18) hlhx18, c22, hx24, lt_t hx24, lt_p hx24, nat_in (lt_n hx24) hlhx24, g27_3, g27_4, g27_5, g27_7, g27_8, g27_9, og27_0, og27_1, og27_2, og27_3, og27_4, og27_5, IV, sts_cons, sts_nil, obs_cons, obs_nil]
          · rintro row_168 ⟨sl, ob, n⟩ hI30 hW31 h
            simp only [IV, sts_cons, sts_nil, obs_cons, obs_nil, and_true, true_and, Nat.reduceAdd, str_len] at hI30
            obtain ⟨⟨g32_3, g32_4, g32_5, g32_7, g32_8, g32_9⟩, og32_0, og32_1, og32_2, og32_3, og32_4, og32_5, hn⟩ := hI30
            subst hn
            obtain ⟨p33, h⟩ := chk_K h
            try simp only [Nat.reduceLeDiff] at p33
            try simp only [go_sem, Int.reduceLT, Int.reduceLE, Int.reduceBEq, Int.reduceBNe, Nat.reduceBNe, Nat.reduceAdd, Nat.reduceMul, Nat.reduceEqDiff, Nat.reduceLeDiff, Nat.reduceLT, Nat.reduceBEq, reduceCtorEq, reduceIte, kn0, c2, p5, lt_f (v2.assumed.length), hx18, lt_t hx18, lt_p hx18, nat_in (lt_n hx18) hlhx18, c22, lt_f (x164.inn.length), p33, g32_3, g32_4, g32_5, g32_7, g32_8, g32_9, og32_0, og32_1, og32_2, og32_3, og32_4, og32_5]
            refine ⟨_, [], [0, 1, 2, 3, 198], (Option.some.inj h).symm, by decide, ?_⟩
            try simp only [go_sem, Int.reduceLT, Int.reduceLE, Int.reduceBEq, Int.reduceBNe, Nat.reduceBNe, Nat.reduceAdd, Nat.reduceMul, Nat.reduceEqDiff, Nat.reduceLeDiff, Nat.reduceLT, Nat.reduceBEq, reduceCtorEq, reduceIte, kn0, c2, p5, lt_f (v2.assumed.length), hx18, lt_t hx18, lt_p hx18, nat_in (lt_n hx18) hlhx18, c22, lt_f (x164.inn.length), p33, g32_3, g32_4, g32_5, g32_7, g32_8, g32_9, og32_0, og32_1, og32_2, og32_3, og32_4, og32_5, IV, sts_cons, sts_nil, obs_cons, obs_nil]
      · rintro row_130 ⟨sl, ob, n⟩ hI34 hW35 h
        simp only [IV, sts_cons, sts_nil, obs_cons, obs_nil, and_true, true_and, Nat.reduceAdd, str_len] at hI34
        obtain ⟨⟨g36_3, g36_4, g36_5, g36_7⟩, og36_0, og36_1, og36_2, og36_3, og36_4, hn⟩ := hI34
        subst hn
        try simp only [go_sem, Int.reduceLT, Int.reduceLE, Int.reduceBEq, Int.reduceBNe, Nat.reduceBNe, Nat.reduceAdd, Nat.reduceMul, Nat.reduceEqDiff, Nat.reduceLeDiff, Nat.reduceLT, Nat.reduceBEq, reduceCtorEq, reduceIte, kn0, c2, p5, lt_f (v2.assumed.length), lt_f (v2.beliefs.reasons.length), g36_3, g36_4, g36_5, g36_7, og36_0, og36_1, og36_2, og36_3, og36_4]
        refine swp_for h (fun i row_179 st => IV [(3, .bp 0 0), (4, .p false [.c (.int .i64 (Int.tmod v3 v2.beliefs.nodes))]), (5, .p false [.row 4]), (10, .p false [.row 5]), (11, .p false [.c (.int .i64 ((i : Nat) : Int))])] [.box 39 [.c (.int .i64 v2.beliefs.nodes), .row 1, .row 2, .row 3], .row 49 3 (List.map eReason v2.beliefs.reasons) 2, .row 3 1 (List.map eInt v2.assumed) 2, .row 3 1 (List.map eInt v2.bad) 2, .row 3 1 (List.map eInt row_130) 2, .row 3 1 (List.map eInt row_179) 2] st) [] [0, 1, 2, 3, 4, 101] (by decide) ?_ ?_ ?_
        · simp only [go_sem, Int.reduceLT, Int.reduceLE, Int.reduceBEq, Int.reduceBNe, Nat.reduceBNe, Nat.reduceAdd, Nat.reduceMul, Nat.reduceEqDiff, Nat.reduceLeDiff, Nat.reduceLT, Nat.reduceBEq, reduceCtorEq, reduceIte, IV, sts_cons, sts_nil, obs_cons, obs_nil, kn0, c2, p5, lt_f (v2.assumed.length), lt_f (v2.beliefs.reasons.length), g36_3, g36_4, g36_5, g36_7, og36_0, og36_1, og36_2, og36_3, og36_4]
        · rintro i188 x189 row_179 ⟨sl, ob, n⟩ y37 hx38 hI39 hW40 h hy37
          simp only [IV, sts_cons, sts_nil, obs_cons, obs_nil, and_true, true_and, Nat.reduceAdd, str_len] at hI39
          obtain ⟨⟨g41_3, g41_4, g41_5, g41_10, g41_11⟩, og41_0, og41_1, og41_2, og41_3, og41_4, og41_5, hn⟩ := hI39
          subst hn
          have hlhx38 := WF.rowL hW40 og41_4
          try simp only [go_sem, Int.reduceLT, Int.reduceLE, Int.reduceBEq, Int.reduceBNe, Nat.reduceBNe, Nat.reduceAdd, Nat.reduceMul, Nat.reduceEqDiff, Nat.reduceLeDiff, Nat.reduceLT, Nat.reduceBEq, reduceCtorEq, reduceIte, kn0, c2, p5, lt_f (v2.assumed.length), lt_f (v2.beliefs.reasons.length), hx38, lt_t hx38, lt_p hx38, nat_in (lt_n hx38) hlhx38, g41_3, g41_4, g41_5, g41_10, g41_11, og41_0, og41_1, og41_2, og41_3, og41_4, og41_5]
          obtain ⟨v190, e42, h⟩ := bind_K h
          refine call_K (by first | exact i_IsConsistent_ok e42 | simpa only [go_sem, Int.reduceLT, Int.reduceLE, Int.reduceBEq, Int.reduceBNe, Nat.reduceBNe, Nat.reduceAdd, Nat.reduceMul, Nat.reduceEqDiff, Nat.reduceLeDiff, Nat.reduceLT, Nat.reduceBEq, reduceCtorEq, reduceIte, kn0, c2, p5, lt_f (v2.assumed.length), lt_f (v2.beliefs.reasons.length), hx38, lt_t hx38, lt_p hx38, nat_in (lt_n hx38) hlhx38, g41_3, g41_4, g41_5, g41_10, g41_11, og41_0, og41_1, og41_2, og41_3, og41_4, og41_5] using i_IsConsistent_ok e42) ?_
          try simp only [go_sem, Int.reduceLT, Int.reduceLE, Int.reduceBEq, Int.reduceBNe, Nat.reduceBNe, Nat.reduceAdd, Nat.reduceMul, Nat.reduceEqDiff, Nat.reduceLeDiff, Nat.reduceLT, Nat.reduceBEq, reduceCtorEq, reduceIte, kn0, c2, p5, lt_f (v2.assumed.length), lt_f (v2.beliefs.reasons.length), hx38, lt_t hx38, lt_p hx38, nat_in (lt_n hx38) hlhx38, g41_3, g41_4, g41_5, g41_10, g41_11, og41_0, og41_1, og41_2, og41_3, og41_4, og41_5]
          refine ite_K h (fun c43 h => ?_) (fun c43 h => ?_)
          · obtain ⟨p44, h⟩ := chk_K h
            try simp only [Nat.reduceLeDiff] at p44
            try simp only [go_sem, Int.reduceLT, Int.reduceLE, Int.reduceBEq, Int.reduceBNe, Nat.reduceBNe, Nat.reduceAdd, Nat.reduceMul, Nat.reduceEqDiff, Nat.reduceLeDiff, Nat.reduceLT, Nat.reduceBEq, reduceCtorEq, reduceIte, kn0, c2, p5, lt_f (v2.assumed.length), lt_f (v2.beliefs.reasons.length), hx38, lt_t hx38, lt_p hx38, nat_in (lt_n hx38) hlhx38, c43, p44, g41_3, g41_4, g41_5, g41_10, g41_11, og41_0, og41_1, og41_2, og41_3, og41_4, og41_5]
            refine ⟨_, [], [0, 1, 2, 3, 4, 262], (Option.some.inj h).symm, by decide, ?_⟩
            try simp only [go_sem, Int.reduceLT, Int.reduceLE, Int.reduceBEq, Int.reduceBNe, Nat.reduceBNe, Nat.reduceAdd, Nat.reduceMul, Nat.reduceEqDiff, Nat.reduceLeDiff, Nat.reduceLT, Nat.reduceBEq, reduceCtorEq, reduceIte, kn0, c2, p5, lt_f (v2.assumed.length), lt_f (v2.beliefs.reasons.length), hx38, lt_t hx38, lt_p hx38, nat_in (lt_n hx38) hlhx38, c43, p44, g41_3, g41_4, g41_5, g41_10, g41_11, og41_0, og41_1, og41_2, og41_3, og41_4, og41_5, IV, sts_cons, sts_nil, obs_cons, obs_nil]
          · try simp only [go_sem, Int.reduceLT, Int.reduceLE, Int.reduceBEq, Int.reduceBNe, Nat.reduceBNe, Nat.reduceAdd, Nat.reduceMul, Nat.reduceEqDiff, Nat.reduceLeDiff, Nat.reduceLT, Nat.reduceBEq, reduceCtorEq, reduceIte, kn0, c2, p5, lt_f (v2.assumed.length), lt_f (v2.beliefs.reasons.length), hx38, lt_t hx38, lt_p hx38, nat_in (lt_n hx38) hlhx38, c43, g41_3, g41_4, g41_5, g41_10, g41_11, og41_0, og41_1, og41_2, og41_3, og41_4, og41_5]
            refine ⟨_, [], [0, 1, 2, 3, 4, 5], (Option.some.inj h).symm, by decide, ?_⟩
            try simp only [go_sem, Int.reduceLT, Int.reduceLE, Int.reduceBEq, Int.reduceBNe, Nat.reduceBNe, Nat.reduceAdd, Nat.reduceMul, Nat.reduceEqDiff, Nat.reduceLeDiff, Nat.reduceLT, Nat.reduceBEq, reduceCtorEq, reduceIte, kn0, c2, p5, lt_f (v2.assumed.length), lt_f (v2.beliefs.reasons.length), hx38, lt_t hx38, lt_p hx38, nat_in (lt_n hx38) hlhx38, c43, g41_3, g41_4, g41_5, g41_10, g41_11, og41_0, og41_1, og41_2, og41_3, og41_4, og41_5, IV, sts_cons, sts_nil, obs_cons, obs_nil]
        · rintro row_179 ⟨sl, ob, n⟩ hI45 hW46 h
          simp only [IV, sts_cons, sts_nil, obs_cons, obs_nil, and_true, true_and, Nat.reduceAdd, str_len] at hI45
          obtain ⟨⟨g47_3, g47_4, g47_5, g47_10, g47_11⟩, og47_0, og47_1, og47_2, og47_3, og47_4, og47_5, hn⟩ := hI45
          subst hn
          try simp only [go_sem, Int.reduceLT, Int.reduceLE, Int.reduceBEq, Int.reduceBNe, Nat.reduceBNe, Nat.reduceAdd, Nat.reduceMul, Nat.reduceEqDiff, Nat.reduceLeDiff, Nat.reduceLT, Nat.reduceBEq, reduceCtorEq, reduceIte, kn0, c2, p5, lt_f (v2.assumed.length), lt_f (v2.beliefs.reasons.length), lt_f (row_130.length), g47_3, g47_4, g47_5, g47_10, g47_11, og47_0, og47_1, og47_2, og47_3, og47_4, og47_5]
          obtain ⟨v191, e48, h⟩ := bind_K h
          refine call_K (by first | exact i_LabelFor_ok e48 | simpa only [go_sem, Int.reduceLT, Int.reduceLE, Int.reduceBEq, Int.reduceBNe, Nat.reduceBNe, Nat.reduceAdd, Nat.reduceMul, Nat.reduceEqDiff, Nat.reduceLeDiff, Nat.reduceLT, Nat.reduceBEq, reduceCtorEq, reduceIte, kn0, c2, p5, lt_f (v2.assumed.length), lt_f (v2.beliefs.reasons.length), lt_f (row_130.length), g47_3, g47_4, g47_5, g47_10, g47_11, og47_0, og47_1, og47_2, og47_3, og47_4, og47_5] using i_LabelFor_ok e48) ?_
          try simp only [go_sem, Int.reduceLT, Int.reduceLE, Int.reduceBEq, Int.reduceBNe, Nat.reduceBNe, Nat.reduceAdd, Nat.reduceMul, Nat.reduceEqDiff, Nat.reduceLeDiff, Nat.reduceLT, Nat.reduceBEq, reduceCtorEq, reduceIte, kn0, c2, p5, lt_f (v2.assumed.length), lt_f (v2.beliefs.reasons.length), lt_f (row_130.length), g47_3, g47_4, g47_5, g47_10, g47_11, og47_0, og47_1, og47_2, og47_3, og47_4, og47_5]
          obtain ⟨v192, e49, h⟩ := bind_K h
          refine call_K (by first | exact s_LabelFor_ok e49 | simpa only [go_sem, Int.reduceLT, Int.reduceLE, Int.reduceBEq, Int.reduceBNe, Nat.reduceBNe, Nat.reduceAdd, Nat.reduceMul, Nat.reduceEqDiff, Nat.reduceLeDiff, Nat.reduceLT, Nat.reduceBEq, reduceCtorEq, reduceIte, kn0, c2, p5, lt_f (v2.assumed.length), lt_f (v2.beliefs.reasons.length), lt_f (row_130.length), g47_3, g47_4, g47_5, g47_10, g47_11, og47_0, og47_1, og47_2, og47_3, og47_4, og47_5] using s_LabelFor_ok e49) ?_
          try simp only [go_sem, Int.reduceLT, Int.reduceLE, Int.reduceBEq, Int.reduceBNe, Nat.reduceBNe, Nat.reduceAdd, Nat.reduceMul, Nat.reduceEqDiff, Nat.reduceLeDiff, Nat.reduceLT, Nat.reduceBEq, reduceCtorEq, reduceIte, kn0, c2, p5, lt_f (v2.assumed.length), lt_f (v2.beliefs.reasons.length), lt_f (row_130.length), g47_3, g47_4, g47_5, g47_10, g47_11, og47_0, og47_1, og47_2, og47_3, og47_4, og47_5]
          refine ite_K h (fun c50 h => ?_) (fun c50 h => ?_)
          · obtain rfl := Option.some.inj h
            try simp only [go_sem, Int.reduceLT, Int.reduceLE, Int.reduceBEq, Int.reduceBNe, Nat.reduceBNe, Nat.reduceAdd, Nat.reduceMul, Nat.reduceEqDiff, Nat.reduceLeDiff, Nat.reduceLT, Nat.reduceBEq, reduceCtorEq, reduceIte, kn0, c2, p5, lt_f (v2.assumed.length), lt_f (v2.beliefs.reasons.length), lt_f (row_130.length), c50, g47_3, g47_4, g47_5, g47_10, g47_11, og47_0, og47_1, og47_2, og47_3, og47_4, og47_5]
          · try simp only [go_sem, Int.reduceLT, Int.reduceLE, Int.reduceBEq, Int.reduceBNe, Nat.reduceBNe, Nat.reduceAdd, Nat.reduceMul, Nat.reduceEqDiff, Nat.reduceLeDiff, Nat.reduceLT, Nat.reduceBEq, reduceCtorEq, reduceIte, kn0, c2, p5, lt_f (v2.assumed.length), lt_f (v2.beliefs.reasons.length), lt_f (row_130.length), c50, g47_3, g47_4, g47_5, g47_10, g47_11, og47_0, og47_1, og47_2, og47_3, og47_4, og47_5]
            obtain ⟨v193, e51, h⟩ := bind_K h
            refine call_K (by first | exact i_LeastSets_ok e51 | simpa only [go_sem, Int.reduceLT, Int.reduceLE, Int.reduceBEq, Int.reduceBNe, Nat.reduceBNe, Nat.reduceAdd, Nat.reduceMul, Nat.reduceEqDiff, Nat.reduceLeDiff, Nat.reduceLT, Nat.reduceBEq, reduceCtorEq, reduceIte, kn0, c2, p5, lt_f (v2.assumed.length), lt_f (v2.beliefs.reasons.length), lt_f (row_130.length), c50, g47_3, g47_4, g47_5, g47_10, g47_11, og47_0, og47_1, og47_2, og47_3, og47_4, og47_5] using i_LeastSets_ok e51) ?_
            try simp only [go_sem, Int.reduceLT, Int.reduceLE, Int.reduceBEq, Int.reduceBNe, Nat.reduceBNe, Nat.reduceAdd, Nat.reduceMul, Nat.reduceEqDiff, Nat.reduceLeDiff, Nat.reduceLT, Nat.reduceBEq, reduceCtorEq, reduceIte, kn0, c2, p5, lt_f (v2.assumed.length), lt_f (v2.beliefs.reasons.length), lt_f (row_130.length), c50, g47_3, g47_4, g47_5, g47_10, g47_11, og47_0, og47_1, og47_2, og47_3, og47_4, og47_5]
            obtain ⟨v194, e52, h⟩ := bind_K h
            refine call_K (by first | exact i_LabelFor_ok e52 | simpa only [go_sem, Int.reduceLT, Int.reduceLE, Int.reduceBEq, Int.reduceBNe, Nat.reduceBNe, Nat.reduceAdd, Nat.reduceMul, Nat.reduceEqDiff, Nat.reduceLeDiff, Nat.reduceLT, Nat.reduceBEq, reduceCtorEq, reduceIte, kn0, c2, p5, lt_f (v2.assumed.length), lt_f (v2.beliefs.reasons.length), lt_f (row_130.length), c50, g47_3, g47_4, g47_5, g47_10, g47_11, og47_0, og47_1, og47_2, og47_3, og47_4, og47_5] using i_LabelFor_ok e52) ?_
            try simp only [go_sem, Int.reduceLT, Int.reduceLE, Int.reduceBEq, Int.reduceBNe, Nat.reduceBNe, Nat.reduceAdd, Nat.reduceMul, Nat.reduceEqDiff, Nat.reduceLeDiff, Nat.reduceLT, Nat.reduceBEq, reduceCtorEq, reduceIte, kn0, c2, p5, lt_f (v2.assumed.length), lt_f (v2.beliefs.reasons.length), lt_f (row_130.length), c50, g47_3, g47_4, g47_5, g47_10, g47_11, og47_0, og47_1, og47_2, og47_3, og47_4, og47_5]
            obtain ⟨v195, e53, h⟩ := bind_K h
            refine call_K (by first | exact w_ints_ok e53 | simpa only [go_sem, Int.reduceLT, Int.reduceLE, Int.reduceBEq, Int.reduceBNe, Nat.reduceBNe, Nat.reduceAdd, Nat.reduceMul, Nat.reduceEqDiff, Nat.reduceLeDiff, Nat.reduceLT, Nat.reduceBEq, reduceCtorEq, reduceIte, kn0, c2, p5, lt_f (v2.assumed.length), lt_f (v2.beliefs.reasons.length), lt_f (row_130.length), c50, g47_3, g47_4, g47_5, g47_10, g47_11, og47_0, og47_1, og47_2, og47_3, og47_4, og47_5] using w_ints_ok e53) ?_
            obtain rfl := Option.some.inj h
            try simp only [go_sem, Int.reduceLT, Int.reduceLE, Int.reduceBEq, Int.reduceBNe, Nat.reduceBNe, Nat.reduceAdd, Nat.reduceMul, Nat.reduceEqDiff, Nat.reduceLeDiff, Nat.reduceLT, Nat.reduceBEq, reduceCtorEq, reduceIte, kn0, c2, p5, lt_f (v2.assumed.length), lt_f (v2.beliefs.reasons.length), lt_f (row_130.length), c50, g47_3, g47_4, g47_5, g47_10, g47_11, og47_0, og47_1, og47_2, og47_3, og47_4, og47_5]
end Go.Proofs.Ytfbonanbiblkbaa

namespace Go.Proofs.Ytfbonanbiblkbaa
open Go.RowKit
/-- a codec and trees say the same -/
structure Enc {α : Type} (c : Codec α) (f : α → List CT) : Prop where
  to : ∀ {w : World} {cs : List Value} {x : α} {L : List Nat}, c.rep w cs x L → RCs w (f x) cs L
  of : ∀ {w : World} {cs : List Value} {x : α} {L : List Nat}, RCs w (f x) cs L → c.rep w cs x L
section
variable {α : Type} {c : Codec α} {f : α → List CT} {w : World}
theorem Enc.reps (h : Enc c f) : ∀ {ds : List α} {xs : List Value} {L : List Nat}, c.reps w xs ds L → REs w c.size (ds.map f) xs L
  | [], _, _, h1 => h1
  | _ :: _, _, _, ⟨c1, c2, L1, L2, h1, h2, h3, h4⟩ => ⟨c1, c2, L1, L2, h1, h2, ⟨h.to h3, c.len h3⟩, h.reps h4⟩
theorem Enc.reps_of (h : Enc c f) : ∀ {ds : List α} {xs : List Value} {L : List Nat}, REs w c.size (ds.map f) xs L → c.reps w xs ds L
  | [], _, _, h1 => h1
  | _ :: _, _, _, ⟨c1, c2, L1, L2, h1, h2, h3, h4⟩ => ⟨c1, c2, L1, L2, h1, h2, h.of h3.1, h.reps_of h4⟩
theorem Enc.sl (h : Enc c f) (e : Nat) {v : Value} {ds : List α} {L : List Nat} : (sliceC c).rep w [v] ds L ↔ RC w (.sl e c.size (ds.map f)) v L := by
  constructor
  · rintro ⟨A, cap, hv, h1, h2, xs, L0, L1, hL, h3, h4⟩
    obtain rfl : v = _ := by simpa using hv
    exact ⟨A, cap, xs, L0, L1, by simp, by simpa using h1, h2, hL, c.pos, by simpa using h3, h.reps h4⟩
  · rintro ⟨A, cap, xs, L0, L1, hv, h1, h2, hL, h0, h3, h4⟩
    exact ⟨A, cap, by simpa using hv, by simpa using h1, h2, xs, L0, L1, hL, by simpa using h3, h.reps_of h4⟩
theorem RCs.solo {x : CT} {v : Value} {L : List Nat} (h : RC w x v L) : RCs w [x] [v] L := ⟨v, [], L, [], rfl, by simp, h, rfl, rfl⟩
theorem RCs.more {x : CT} {v : Value} {L M : List Nat} {r : List CT} {cs : List Value} (h : RC w x v L) (k : RCs w r cs M) : RCs w (x :: r) (v :: cs) (L ++ M) := ⟨v, cs, L, M, rfl, rfl, h, k⟩
theorem Enc.slice (h : Enc c f) (e : Nat) : Enc (sliceC c) (fun l => [.sl e c.size (l.map f)]) where
  to := fun {w cs x L} hr => by
    obtain ⟨A, cap, rfl, h1⟩ := id hr
    exact RCs.solo ((h.sl e).1 hr)
  of := fun {w cs x L} hr => by
    obtain ⟨v, cs', L1, L2, rfl, rfl, h1, rfl, rfl⟩ := hr
    rw [List.append_nil]
    exact (h.sl e).2 h1
end
theorem encInt : Enc intC eInt where
  to := fun ⟨h1, h2⟩ => by subst h1; subst h2; exact RCs.solo ⟨rfl, rfl⟩
  of := fun ⟨v, cs', L1, L2, h1, h2, h3, h4, h5⟩ => by
    obtain ⟨rfl, rfl⟩ := h3
    subst h4; subst h5; exact ⟨h1, h2⟩
theorem encByte : Enc byteC eByte where
  to := fun ⟨h1, h2⟩ => by subst h1; subst h2; exact RCs.solo ⟨rfl, rfl⟩
  of := fun ⟨v, cs', L1, L2, h1, h2, h3, h4, h5⟩ => by
    obtain ⟨rfl, rfl⟩ := h3
    subst h4; subst h5; exact ⟨h1, h2⟩
theorem encBool : Enc boolC eBool where
  to := fun ⟨h1, h2⟩ => by subst h1; subst h2; exact RCs.solo ⟨rfl, rfl⟩
  of := fun ⟨v, cs', L1, L2, h1, h2, h3, h4, h5⟩ => by
    obtain ⟨rfl, rfl⟩ := h3
    subst h4; subst h5; exact ⟨h1, h2⟩
theorem encStr : Enc strC eStr where
  to := fun ⟨h1, h2, h3⟩ => by subst h1; subst h2; exact RCs.solo ⟨rfl, rfl, h3⟩
  of := fun ⟨v, cs', L1, L2, h1, h2, h3, h4, h5⟩ => by
    obtain ⟨rfl, rfl, t⟩ := h3
    subst h4; subst h5; exact ⟨h1, h2, t⟩
/-- an argument; nothing is written to in the meantime -/
def Arg0 (w : World) : Bool × List CT → Value → Prop := ArgR w fun _ => False
theorem arg_sl {α : Type} {c : Codec α} {f : α → List CT} (h : Enc c f) (e : Nat) {w : World} {v : Value} {ds : List α} {L : List Nat} (hr : (sliceC c).rep w [v] ds L) : Arg0 w (false, [.sl e c.size (ds.map f)]) v := .inr ⟨rfl, _, L, rfl, (h.sl e).1 hr, fun _ _ h => h⟩
theorem arg_int (w : World) (n : Int) : Arg0 w (false, [.int .i64 n]) (.int .i64 n) := .inr ⟨rfl, _, [], rfl, ⟨rfl, rfl⟩, fun _ _ h => h⟩
theorem arg_bool (w : World) (b : Bool) : Arg0 w (false, [.bool b]) (.bool b) := .inr ⟨rfl, _, [], rfl, ⟨rfl, rfl⟩, fun _ _ h => h⟩
theorem arg_str (w : World) (s : ByteArray) (h : s.size ≤ 9223372036854775807) : Arg0 w (false, [.str s]) (.string s) := .inr ⟨rfl, _, [], rfl, ⟨rfl, rfl, h⟩, fun _ _ h => h⟩
theorem arg_agg {α : Type} {c : Codec α} {f : α → List CT} (h : Enc c f) {w : World} {vs : List Value} {x : α} {L : List Nat} (hr : c.rep w vs x L) : Arg0 w (true, f x) (.agg vs.toArray) := .inl ⟨rfl, vs, L, rfl, h.to hr, fun _ _ h => h⟩
section
variable {w w' : World} {v : Value} {e : Ending}
theorem res_one {B : Nat} {n : Nat → Prop} {x : RT} (h : ResR w B n [x] v) : ∃ F, OP w B n x v F ∧ Own w B F := by
  obtain ⟨vs, F, ⟨u, vs', F1, F2, rfl, rfl, h1, rfl, rfl⟩, h2, rfl⟩ := h
  rw [List.append_nil] at h2
  exact ⟨F1, by simpa using h1, h2⟩
theorem res_sl {α : Type} {c : Codec α} {f : α → List CT} (h : Enc c f) {t : Nat} {ds : List α} {n : Nat → Prop} (hr : ResR w' w.heap.size n [(false, [(false, .sl t c.size (ds.map f))])] v) (hb : Below w.heap.size w w') : AccC c t w v ds w' := by
  obtain ⟨F, h1, h2⟩ := res_one hr
  rcases h1 with ⟨h1, _⟩ | ⟨_, ct, h1, h3⟩
  · simp at h1
  · obtain rfl : _ = ct := by simpa using h1
    obtain ⟨_, cs, L, h4, h5, rfl, _⟩ := h3
    exact ⟨⟨cs, L, by simpa using h4, h.reps_of h5, h2⟩, hb⟩
theorem res_int {n : Int} {B : Nat} {m : Nat → Prop} (hr : ResR w B m [(false, [(false, .int .i64 n)])] v) : v = .int .i64 n := by
  obtain ⟨F, h1, h2⟩ := res_one hr
  rcases h1 with ⟨h1, _⟩ | ⟨_, ct, h1, h3⟩
  · simp at h1
  · obtain rfl : _ = ct := by simpa using h1
    exact h3.1.1
theorem res_bool {b : Bool} {B : Nat} {m : Nat → Prop} (hr : ResR w B m [(false, [(false, .bool b)])] v) : v = .bool b := by
  obtain ⟨F, h1, h2⟩ := res_one hr
  rcases h1 with ⟨h1, _⟩ | ⟨_, ct, h1, h3⟩
  · simp at h1
  · obtain rfl : _ = ct := by simpa using h1
    exact h3.1.1
theorem res_str {s : ByteArray} {B : Nat} {m : Nat → Prop} (hr : ResR w B m [(false, [(false, .str s)])] v) : v = .string s := by
  obtain ⟨F, h1, h2⟩ := res_one hr
  rcases h1 with ⟨h1, _⟩ | ⟨_, ct, h1, h3⟩
  · simp at h1
  · obtain rfl : _ = ct := by simpa using h1
    exact h3.1.1
/-- a slice that is only lent: what it leads to lies in the world -/
theorem res_lent {α : Type} {c : Codec α} {f : α → List CT} (h : Enc c f) {t B : Nat} {ds : List α} {n : Nat → Prop} (hr : ResR w B n [(false, [(true, .sl t c.size (ds.map f))])] v) : ∃ L, (sliceC c).rep w [v] ds L := by
  obtain ⟨F, h1, h2⟩ := res_one hr
  rcases h1 with ⟨h1, _⟩ | ⟨_, ct, h1, h3⟩
  · simp at h1
  · obtain rfl : _ = ct := by simpa using h1
    obtain ⟨_, L, h4, _⟩ := h3
    exact ⟨L, (h.sl t).2 h4⟩
end
section
variable {P : Program} {J : World → Prop} {f : FuncId} {args : List (Bool × List CT)} {res : List RT}
theorem Sound.calls (h : Sound P J f args res) {w : World} {vs : List Value} (hj : J w) (ha : All2 (Arg0 w) args vs) : Calls P f vs.toArray w fun e w' => ∃ v n, e = .returned v ∧ ResR w' w.heap.size n res v ∧ Below w.heap.size w w' :=
  (h.2 w (fun _ => False) vs hj (fun _ h => h.elim) ha).mono fun _ _ ⟨v, n, h1, h2, _, h3⟩ => ⟨v, n, h1, h2, h3⟩
/-- a slice as the result -/
theorem Sound.givesS {α : Type} {c : Codec α} {g : α → List CT} {t : Nat} {ds : List α} (h : Sound P J f args [(false, [(false, .sl t c.size (ds.map g))])]) (hg : Enc c g) {w : World} {vs : List Value} (hj : J w) (ha : All2 (Arg0 w) args vs) : Calls P f vs.toArray w (GivesS c t w ds) :=
  (h.calls hj ha).mono fun _ _ ⟨v, _, h1, h2, h3⟩ => ⟨v, h1, res_sl hg h2 h3⟩
theorem Sound.givesB {b : Bool} (h : Sound P J f args [(false, [(false, .bool b)])]) {w : World} {vs : List Value} (hj : J w) (ha : All2 (Arg0 w) args vs) : Calls P f vs.toArray w fun e w' => e = .returned (.bool b) ∧ Below w.heap.size w w' :=
  (h.calls hj ha).mono fun _ _ ⟨v, _, h1, h2, h3⟩ => ⟨by rw [h1, res_bool h2], h3⟩
theorem Sound.givesI {b : Int} (h : Sound P J f args [(false, [(false, .int .i64 b)])]) {w : World} {vs : List Value} (hj : J w) (ha : All2 (Arg0 w) args vs) : Calls P f vs.toArray w fun e w' => e = .returned (.int .i64 b) ∧ Below w.heap.size w w' :=
  (h.calls hj ha).mono fun _ _ ⟨v, _, h1, h2, h3⟩ => ⟨by rw [h1, res_int h2], h3⟩
theorem Sound.givesT {b : ByteArray} (h : Sound P J f args [(false, [(false, .str b)])]) {w : World} {vs : List Value} (hj : J w) (ha : All2 (Arg0 w) args vs) : Calls P f vs.toArray w fun e w' => e = .returned (.string b) ∧ Below w.heap.size w w' :=
  (h.calls hj ha).mono fun _ _ ⟨v, _, h1, h2, h3⟩ => ⟨by rw [h1, res_str h2], h3⟩
end
end Go.Proofs.Ytfbonanbiblkbaa

namespace Go.Proofs.Ytfbonanbiblkbaa
open Go.RowKit Go.Deep

def Opens {α : Type} (P : Program) (t : TypeId) (c : Codec α) (wf : α → Prop) : Prop :=
  ∀ {H : Type} {enc : TypeId × Value → H} {w : World} {base : Nat} {spare : Nat → Bool} {held : Bool} {fuel : Nat} {cs : List Value} {x : DataW H × List MemPlace},
    DataW.trod enc P w base spare held fuel t cs = some x → ∃ d L, c.rep w cs d L ∧ wf d

theorem opens_byte {P : Program} {t : TypeId} (ht : P.underlying t = some (.int .u8)) : Opens P t byteC (fun n => 0 ≤ n ∧ n ≤ 255) := by
  intro H enc w base spare held fuel cs x h
  obtain ⟨n, rfl, _, hw⟩ := DataW.trod_int ht h
  refine ⟨n, [], ⟨rfl, rfl⟩, ?_⟩
  simp [Lit.wf, IntKind.min, IntKind.max, IntKind.signed, IntKind.bits] at hw
  exact ⟨by omega, by omega⟩
theorem opens_slice {α : Type} {c : Codec α} {wf : α → Prop} {P : Program} {t e : TypeId} (ht : P.underlying t = some (.slice e)) (hc : P.cellsOf e = c.size) (ho : Opens P e c wf) : Opens P t (sliceC c) (fun ds => ∀ d ∈ ds, wf d) := by
  intro H enc w base spare held fuel cs x h
  rcases open_slice ht h with ⟨rfl, _⟩ | ⟨a, len, cap, m, n, D, Pl, rfl, hb, hl, hm, hmm, _, hx⟩
  · exact ⟨[], [], ⟨none, 0, rfl, Nat.le_refl _, Nat.zero_le _, Sli.nil _ _⟩, by simp⟩
  · have hlm : len ≤ m := by rw [hmm]; split <;> omega
    have key : ∀ q, q ≤ len → ∃ (xs : List Value) (ds : List α) (L : List Nat), ds.length = q ∧ (∀ j u, xs[j]? = some u → w.cell? (a.add j) = some u) ∧ c.reps w xs ds L ∧ ∀ d ∈ ds, wf d := by
      intro q
      induction q with
      | zero => exact fun _ => ⟨[], [], [], rfl, by simp, ⟨rfl, rfl⟩, by simp⟩
      | succ q ih =>
        intro hq
        obtain ⟨xs, ds, L, hd, hcell, hr, hwf⟩ := ih (by omega)
        obtain ⟨cs', h1, h2⟩ := hx q (by omega)
        obtain ⟨d, Lq, hrep, hwd⟩ := ho h2
        obtain ⟨_, hlen, hat⟩ := World.cells?_some h1
        refine ⟨xs ++ cs', ds ++ [d], L ++ Lq, by simp [hd], fun j u hu => ?_, reps_append hr (reps_one_of hrep), ?_⟩
        · have hxl : xs.length = q * c.size := by rw [reps_len hr, hd]
          rw [List.getElem?_append] at hu
          split at hu
          · exact hcell j u hu
          · rename_i hj
            have hj2 := (List.getElem?_eq_some_iff.1 hu).1
            have := hat (j - xs.length) (by omega)
            rw [← hu, ← this, Go.Deep.add_add, hc, ← hxl]
            congr 2
            omega
        · intro y hy
          rcases List.mem_append.1 hy with hy | hy
          · exact hwf y hy
          · simp at hy; subst hy; exact hwd
    obtain ⟨xs, ds, L, hd, hcell, hr, hwf⟩ := key len (Nat.le_refl _)
    have hxl := reps_len hr
    rcases Nat.eq_zero_or_pos len with h0 | h0
    · have : ds = [] := List.eq_nil_of_length_eq_zero (by omega)
      subst this
      refine ⟨[], [], ⟨some a, cap, by simp at hd; rw [← hd]; rfl, by simp, hm, Sli.nil _ _⟩, by simp⟩
    · obtain ⟨b, off, sp⟩ := a
      have hp : 0 < xs.length := by rw [hxl, hd]; exact Nat.mul_pos h0 c.pos
      have hsp : sp = none := by
        have h1 := hcell 0 _ (List.getElem?_eq_getElem hp)
        have e : (⟨b, off, sp⟩ : Addr).add 0 = ⟨b, off, sp⟩ := by simp [Addr.add]
        rw [e] at h1
        cases sp with
        | none => rfl
        | some q =>
          simp only [World.cell?] at h1
          split at h1 <;> simp at h1
      subst hsp
      refine ⟨ds, [b] ++ L, ⟨some ⟨b, off, none⟩, cap, by rw [hd], by omega, hm, xs, [b], L, rfl, ⟨by rw [hxl], .inr ⟨by omega, b, off, rfl, rfl, fun j u hu => ?_⟩⟩, hr⟩, hwf⟩
      have := hcell j u hu
      rwa [add_lit0] at this

end Go.Proofs.Ytfbonanbiblkbaa

namespace Go.Proofs.Ytfbonanbiblkbaa
open Go.RowKit

theorem FnLabelStep_walk (w : World) (A : Option Addr) (c : Nat) (code : List Int) (L : List Nat) (h : (sliceC byteC).rep w [.slice A code.length c] code L) :
    Calls Try.prog 8 #[.slice A code.length c] w (fun e w' => e = .returned (.bool true) ∧ Below w.heap.size w w') :=
  Sound.givesB (w_FnLabelStep_ok (FnLabelStep_plain code)) trivial (vs := [_]) ⟨arg_sl encByte _ h, trivial⟩

end Go.Proofs.Ytfbonanbiblkbaa
