/- Texts of this proof, joined: Dp11, Dp12, Dp13, Dp16, BStd, Open, LawFnGreatest. What each holds is said at its theorems. -/
import Derived.Test.YtfbonanbiblkbaaGreatestQ4
import Derived.Test.YtfbonanbiblkbaaGreatestQ3
import Derived.Test.YtfbonanbiblkbaaGreatestQ1
import Derived.Deep.Slices
import Derived.ChangeArms
import Derived.ProofKit
import Derived.Test.YtfbonanbiblkbaaGreatestQ2
set_option linter.unusedSimpArgs false
set_option linter.unusedVariables false
namespace Go.Proofs.Ytfbonanbiblkbaa
open Go.Proofs.Try
set_option linter.unusedSimpArgs false
set_option linter.unusedVariables false
set_option maxRecDepth 1000000
set_option maxHeartbeats 4000000
theorem s_l13Draw_ok {c_0 : l1CurD} {r : (FrameD × l1CurD)} (h : s_l13Draw c_0 = some r) : SoundH Try.prog J0 JF0 43 (.box 75 (el1Cur c_0)) [] [(true, [(false, .int .i64 r.1.beliefs.nodes), (false, .sl 49 3 (List.map eReason r.1.beliefs.reasons)), (false, .sl 3 1 (List.map eInt r.1.assumed)), (false, .sl 3 1 (List.map eInt r.1.bad))])] (.box 75 (el1Cur r.2)) := by
  refine fnh Try.func43 (by kernel_rfl) rfl (by kernel_rfl) (by kernel_rfl) ?_
  unfold s_l13Draw at h
  simp only [fnH, f43, handSt, handSV, handOb, go_sem, Int.reduceLT, Int.reduceLE, Int.reduceBEq, Int.reduceBNe, Nat.reduceBNe, Nat.reduceAdd, Nat.reduceMul, Nat.reduceEqDiff, Nat.reduceLeDiff, Nat.reduceLT, Nat.reduceBEq, reduceCtorEq, reduceIte]
  obtain ⟨v1, e1, h⟩ := bind_K h
  refine hand_K (by first | exact s_l11Draw_ok e1 | simpa only [go_sem, Int.reduceLT, Int.reduceLE, Int.reduceBEq, Int.reduceBNe, Nat.reduceBNe, Nat.reduceAdd, Nat.reduceMul, Nat.reduceEqDiff, Nat.reduceLeDiff, Nat.reduceLT, Nat.reduceBEq, reduceCtorEq, reduceIte] using s_l11Draw_ok e1) ?_
  try simp only [go_sem, Int.reduceLT, Int.reduceLE, Int.reduceBEq, Int.reduceBNe, Nat.reduceBNe, Nat.reduceAdd, Nat.reduceMul, Nat.reduceEqDiff, Nat.reduceLeDiff, Nat.reduceLT, Nat.reduceBEq, reduceCtorEq, reduceIte]
  refine swp_iter h (fun s st => match s with | (f_3, f_4, f_5, row_9, i_6) => IV [(0, .bp 0 0), (2, .bp 1 0), (3, .bp 2 0), (4, .p false [.c (.int .i64 i_6)])] [.box 75 [.c (.sl 5 1 (List.map eByte f_3)), .c (.int .i64 f_4), .c (.int .i64 f_5)], .box 39 [.c (.int .i64 0), .nil 49 3, .nil 3 1, .nil 3 1], .box 39 [.c (.int .i64 v1.1.nodes), .row 3, .row 4, .nil 3 1], .row 49 3 (List.map eReason v1.1.reasons) 2, .row 3 1 (List.map eInt row_9) 2] st) [(true, 65, 2)] [0, 1, 65, 33, 113] (by decide) ?_ ?_
  · simp only [go_sem, Int.reduceLT, Int.reduceLE, Int.reduceBEq, Int.reduceBNe, Nat.reduceBNe, Nat.reduceAdd, Nat.reduceMul, Nat.reduceEqDiff, Nat.reduceLeDiff, Nat.reduceLT, Nat.reduceBEq, reduceCtorEq, reduceIte, IV, sts_cons, sts_nil, obs_cons, obs_nil]
  · rintro ⟨f_3, f_4, f_5, row_9, i_6⟩ ⟨sl, ob, n⟩ y2 hI3 hW4 h hy2
    simp only [IV, sts_cons, sts_nil, obs_cons, obs_nil, and_true, true_and, Nat.reduceAdd, str_len] at hI3
    obtain ⟨⟨g5_0, g5_2, g5_3, g5_4⟩, og5_0, og5_1, og5_2, og5_3, og5_4, hn⟩ := hI3
    subst hn
    try simp only [go_sem, Int.reduceLT, Int.reduceLE, Int.reduceBEq, Int.reduceBNe, Nat.reduceBNe, Nat.reduceAdd, Nat.reduceMul, Nat.reduceEqDiff, Nat.reduceLeDiff, Nat.reduceLT, Nat.reduceBEq, reduceCtorEq, reduceIte, g5_0, g5_2, g5_3, g5_4, og5_0, og5_1, og5_2, og5_3, og5_4]
    refine ite_K h (fun c6 h => ?_) (fun c6 h => ?_)
    · try simp only [go_sem, Int.reduceLT, Int.reduceLE, Int.reduceBEq, Int.reduceBNe, Nat.reduceBNe, Nat.reduceAdd, Nat.reduceMul, Nat.reduceEqDiff, Nat.reduceLeDiff, Nat.reduceLT, Nat.reduceBEq, reduceCtorEq, reduceIte, c6, g5_0, g5_2, g5_3, g5_4, og5_0, og5_1, og5_2, og5_3, og5_4]
      refine ite_K h (fun c7 h => ?_) (fun c7 h => ?_)
      · try simp only [go_sem, Int.reduceLT, Int.reduceLE, Int.reduceBEq, Int.reduceBNe, Nat.reduceBNe, Nat.reduceAdd, Nat.reduceMul, Nat.reduceEqDiff, Nat.reduceLeDiff, Nat.reduceLT, Nat.reduceBEq, reduceCtorEq, reduceIte, c6, c7, g5_0, g5_2, g5_3, g5_4, og5_0, og5_1, og5_2, og5_3, og5_4]
        obtain ⟨v10, e8, h⟩ := bind_K h
        refine hand_K (by first | exact s_l1Once_ok e8 | simpa only [go_sem, Int.reduceLT, Int.reduceLE, Int.reduceBEq, Int.reduceBNe, Nat.reduceBNe, Nat.reduceAdd, Nat.reduceMul, Nat.reduceEqDiff, Nat.reduceLeDiff, Nat.reduceLT, Nat.reduceBEq, reduceCtorEq, reduceIte, c6, c7, g5_0, g5_2, g5_3, g5_4, og5_0, og5_1, og5_2, og5_3, og5_4] using s_l1Once_ok e8) ?_
        try simp only [go_sem, Int.reduceLT, Int.reduceLE, Int.reduceBEq, Int.reduceBNe, Nat.reduceBNe, Nat.reduceAdd, Nat.reduceMul, Nat.reduceEqDiff, Nat.reduceLeDiff, Nat.reduceLT, Nat.reduceBEq, reduceCtorEq, reduceIte, c6, c7, g5_0, g5_2, g5_3, g5_4, og5_0, og5_1, og5_2, og5_3, og5_4]
        refine ite_K h (fun c9 h => ?_) (fun c9 h => ?_)
        · try simp only [go_sem, Int.reduceLT, Int.reduceLE, Int.reduceBEq, Int.reduceBNe, Nat.reduceBNe, Nat.reduceAdd, Nat.reduceMul, Nat.reduceEqDiff, Nat.reduceLeDiff, Nat.reduceLT, Nat.reduceBEq, reduceCtorEq, reduceIte, c6, c7, c9, g5_0, g5_2, g5_3, g5_4, og5_0, og5_1, og5_2, og5_3, og5_4]
          refine ⟨_, [], [0, 1, 2, 3, 4], (Option.some.inj h).symm, by decide, ?_⟩
          try simp only [go_sem, Int.reduceLT, Int.reduceLE, Int.reduceBEq, Int.reduceBNe, Nat.reduceBNe, Nat.reduceAdd, Nat.reduceMul, Nat.reduceEqDiff, Nat.reduceLeDiff, Nat.reduceLT, Nat.reduceBEq, reduceCtorEq, reduceIte, c6, c7, c9, g5_0, g5_2, g5_3, g5_4, og5_0, og5_1, og5_2, og5_3, og5_4, IV, sts_cons, sts_nil, obs_cons, obs_nil]
        · obtain ⟨p10, h⟩ := chk_K h
          try simp only [Nat.reduceLeDiff] at p10
          try simp only [go_sem, Int.reduceLT, Int.reduceLE, Int.reduceBEq, Int.reduceBNe, Nat.reduceBNe, Nat.reduceAdd, Nat.reduceMul, Nat.reduceEqDiff, Nat.reduceLeDiff, Nat.reduceLT, Nat.reduceBEq, reduceCtorEq, reduceIte, c6, c7, c9, p10, g5_0, g5_2, g5_3, g5_4, og5_0, og5_1, og5_2, og5_3, og5_4]
          refine ⟨_, [], [0, 1, 2, 3, 293], (Option.some.inj h).symm, by decide, ?_⟩
          try simp only [go_sem, Int.reduceLT, Int.reduceLE, Int.reduceBEq, Int.reduceBNe, Nat.reduceBNe, Nat.reduceAdd, Nat.reduceMul, Nat.reduceEqDiff, Nat.reduceLeDiff, Nat.reduceLT, Nat.reduceBEq, reduceCtorEq, reduceIte, c6, c7, c9, p10, g5_0, g5_2, g5_3, g5_4, og5_0, og5_1, og5_2, og5_3, og5_4, IV, sts_cons, sts_nil, obs_cons, obs_nil]
      · try simp only [go_sem, Int.reduceLT, Int.reduceLE, Int.reduceBEq, Int.reduceBNe, Nat.reduceBNe, Nat.reduceAdd, Nat.reduceMul, Nat.reduceEqDiff, Nat.reduceLeDiff, Nat.reduceLT, Nat.reduceBEq, reduceCtorEq, reduceIte, c6, c7, g5_0, g5_2, g5_3, g5_4, og5_0, og5_1, og5_2, og5_3, og5_4]
        obtain ⟨v11, e11, h⟩ := bind_K h
        refine hand_K (by first | exact s_l11Nodes_ok e11 | simpa only [go_sem, Int.reduceLT, Int.reduceLE, Int.reduceBEq, Int.reduceBNe, Nat.reduceBNe, Nat.reduceAdd, Nat.reduceMul, Nat.reduceEqDiff, Nat.reduceLeDiff, Nat.reduceLT, Nat.reduceBEq, reduceCtorEq, reduceIte, c6, c7, g5_0, g5_2, g5_3, g5_4, og5_0, og5_1, og5_2, og5_3, og5_4] using s_l11Nodes_ok e11) ?_
        replace h := inr_K h hy2
        obtain rfl := Option.some.inj h
        try simp only [go_sem, Int.reduceLT, Int.reduceLE, Int.reduceBEq, Int.reduceBNe, Nat.reduceBNe, Nat.reduceAdd, Nat.reduceMul, Nat.reduceEqDiff, Nat.reduceLeDiff, Nat.reduceLT, Nat.reduceBEq, reduceCtorEq, reduceIte, c6, c7, g5_0, g5_2, g5_3, g5_4, og5_0, og5_1, og5_2, og5_3, og5_4]
    · try simp only [go_sem, Int.reduceLT, Int.reduceLE, Int.reduceBEq, Int.reduceBNe, Nat.reduceBNe, Nat.reduceAdd, Nat.reduceMul, Nat.reduceEqDiff, Nat.reduceLeDiff, Nat.reduceLT, Nat.reduceBEq, reduceCtorEq, reduceIte, c6, g5_0, g5_2, g5_3, g5_4, og5_0, og5_1, og5_2, og5_3, og5_4]
      obtain ⟨v12, e12, h⟩ := bind_K h
      refine hand_K (by first | exact s_l11Nodes_ok e12 | simpa only [go_sem, Int.reduceLT, Int.reduceLE, Int.reduceBEq, Int.reduceBNe, Nat.reduceBNe, Nat.reduceAdd, Nat.reduceMul, Nat.reduceEqDiff, Nat.reduceLeDiff, Nat.reduceLT, Nat.reduceBEq, reduceCtorEq, reduceIte, c6, g5_0, g5_2, g5_3, g5_4, og5_0, og5_1, og5_2, og5_3, og5_4] using s_l11Nodes_ok e12) ?_
      replace h := inr_K h hy2
      obtain rfl := Option.some.inj h
      try simp only [go_sem, Int.reduceLT, Int.reduceLE, Int.reduceBEq, Int.reduceBNe, Nat.reduceBNe, Nat.reduceAdd, Nat.reduceMul, Nat.reduceEqDiff, Nat.reduceLeDiff, Nat.reduceLT, Nat.reduceBEq, reduceCtorEq, reduceIte, c6, g5_0, g5_2, g5_3, g5_4, og5_0, og5_1, og5_2, og5_3, og5_4]
theorem i_NogoodsOf_ok {f_0 : FrameD} {r : (List Int)} (h : i_NogoodsOf f_0 = some r) : Sound Try.prog J0 21 [(true, eFrame f_0)] [(false, [(false, .sl 3 1 (List.map eInt r))])] := by
  refine fnk Try.func21 (by kernel_rfl) rfl (by kernel_rfl) (by kernel_rfl) ?_
  unfold i_NogoodsOf at h
  simp only [fnS, f21, argSt, go_sem, Int.reduceLT, Int.reduceLE, Int.reduceBEq, Int.reduceBNe, Nat.reduceBNe, Nat.reduceAdd, Nat.reduceMul, Nat.reduceEqDiff, Nat.reduceLeDiff, Nat.reduceLT, Nat.reduceBEq, reduceCtorEq, reduceIte]
  obtain ⟨v1, e1, h⟩ := bind_K h
  refine call_K (by first | exact i_IsFrame_ok e1 | simpa only [go_sem, Int.reduceLT, Int.reduceLE, Int.reduceBEq, Int.reduceBNe, Nat.reduceBNe, Nat.reduceAdd, Nat.reduceMul, Nat.reduceEqDiff, Nat.reduceLeDiff, Nat.reduceLT, Nat.reduceBEq, reduceCtorEq, reduceIte] using i_IsFrame_ok e1) ?_
  try simp only [go_sem, Int.reduceLT, Int.reduceLE, Int.reduceBEq, Int.reduceBNe, Nat.reduceBNe, Nat.reduceAdd, Nat.reduceMul, Nat.reduceEqDiff, Nat.reduceLeDiff, Nat.reduceLT, Nat.reduceBEq, reduceCtorEq, reduceIte]
  refine ite_K h (fun c2 h => ?_) (fun c2 h => ?_)
  · try simp only [go_sem, Int.reduceLT, Int.reduceLE, Int.reduceBEq, Int.reduceBNe, Nat.reduceBNe, Nat.reduceAdd, Nat.reduceMul, Nat.reduceEqDiff, Nat.reduceLeDiff, Nat.reduceLT, Nat.reduceBEq, reduceCtorEq, reduceIte, c2]
    obtain ⟨v2, e3, h⟩ := bind_K h
    refine call_K (by first | exact i_setsWith_ok (kkeep_1 := 45) (ckeep_1 := [.pt [.int .i64 f_0.beliefs.nodes, .sl 49 3 (List.map eReason f_0.beliefs.reasons), .sl 3 1 (List.map eInt f_0.assumed), .sl 3 1 (List.map eInt f_0.bad)]]) hd_45 (fun hh => i_NogoodsOf_1_ok hh) e3 | simpa only [go_sem, Int.reduceLT, Int.reduceLE, Int.reduceBEq, Int.reduceBNe, Nat.reduceBNe, Nat.reduceAdd, Nat.reduceMul, Nat.reduceEqDiff, Nat.reduceLeDiff, Nat.reduceLT, Nat.reduceBEq, reduceCtorEq, reduceIte, c2] using i_setsWith_ok (kkeep_1 := 45) (ckeep_1 := [.pt [.int .i64 f_0.beliefs.nodes, .sl 49 3 (List.map eReason f_0.beliefs.reasons), .sl 3 1 (List.map eInt f_0.assumed), .sl 3 1 (List.map eInt f_0.bad)]]) hd_45 (fun hh => i_NogoodsOf_1_ok hh) e3) ?_
    try simp only [go_sem, Int.reduceLT, Int.reduceLE, Int.reduceBEq, Int.reduceBNe, Nat.reduceBNe, Nat.reduceAdd, Nat.reduceMul, Nat.reduceEqDiff, Nat.reduceLeDiff, Nat.reduceLT, Nat.reduceBEq, reduceCtorEq, reduceIte, c2]
    obtain ⟨v3, e4, h⟩ := bind_K h
    refine call_K (by first | exact i_LeastSets_ok e4 | simpa only [go_sem, Int.reduceLT, Int.reduceLE, Int.reduceBEq, Int.reduceBNe, Nat.reduceBNe, Nat.reduceAdd, Nat.reduceMul, Nat.reduceEqDiff, Nat.reduceLeDiff, Nat.reduceLT, Nat.reduceBEq, reduceCtorEq, reduceIte, c2] using i_LeastSets_ok e4) ?_
    obtain rfl := Option.some.inj h
    try simp only [go_sem, Int.reduceLT, Int.reduceLE, Int.reduceBEq, Int.reduceBNe, Nat.reduceBNe, Nat.reduceAdd, Nat.reduceMul, Nat.reduceEqDiff, Nat.reduceLeDiff, Nat.reduceLT, Nat.reduceBEq, reduceCtorEq, reduceIte, c2]
  · obtain rfl := Option.some.inj h
    try simp only [go_sem, Int.reduceLT, Int.reduceLE, Int.reduceBEq, Int.reduceBNe, Nat.reduceBNe, Nat.reduceAdd, Nat.reduceMul, Nat.reduceEqDiff, Nat.reduceLeDiff, Nat.reduceLT, Nat.reduceBEq, reduceCtorEq, reduceIte, c2]
theorem i_GreatestSets_ok {f_0 : FrameD} {r : (List Int)} (h : i_GreatestSets f_0 = some r) : Sound Try.prog J0 27 [(true, eFrame f_0)] [(false, [(false, .sl 3 1 (List.map eInt r))])] := by
  refine fnk Try.func27 (by kernel_rfl) rfl (by kernel_rfl) (by kernel_rfl) ?_
  unfold i_GreatestSets at h
  simp only [fnS, f27, argSt, go_sem, Int.reduceLT, Int.reduceLE, Int.reduceBEq, Int.reduceBNe, Nat.reduceBNe, Nat.reduceAdd, Nat.reduceMul, Nat.reduceEqDiff, Nat.reduceLeDiff, Nat.reduceLT, Nat.reduceBEq, reduceCtorEq, reduceIte]
  obtain ⟨v1, e1, h⟩ := bind_K h
  refine call_K (by first | exact i_IsFrame_ok e1 | simpa only [go_sem, Int.reduceLT, Int.reduceLE, Int.reduceBEq, Int.reduceBNe, Nat.reduceBNe, Nat.reduceAdd, Nat.reduceMul, Nat.reduceEqDiff, Nat.reduceLeDiff, Nat.reduceLT, Nat.reduceBEq, reduceCtorEq, reduceIte] using i_IsFrame_ok e1) ?_
  try simp only [go_sem, Int.reduceLT, Int.reduceLE, Int.reduceBEq, Int.reduceBNe, Nat.reduceBNe, Nat.reduceAdd, Nat.reduceMul, Nat.reduceEqDiff, Nat.reduceLeDiff, Nat.reduceLT, Nat.reduceBEq, reduceCtorEq, reduceIte]
  refine ite_K h (fun c2 h => ?_) (fun c2 h => ?_)
  · try simp only [go_sem, Int.reduceLT, Int.reduceLE, Int.reduceBEq, Int.reduceBNe, Nat.reduceBNe, Nat.reduceAdd, Nat.reduceMul, Nat.reduceEqDiff, Nat.reduceLeDiff, Nat.reduceLT, Nat.reduceBEq, reduceCtorEq, reduceIte, c2]
    obtain ⟨v2, e3, h⟩ := bind_K h
    refine call_K (by first | exact i_setsWith_ok (kkeep_1 := 52) (ckeep_1 := [.pt [.int .i64 f_0.beliefs.nodes, .sl 49 3 (List.map eReason f_0.beliefs.reasons), .sl 3 1 (List.map eInt f_0.assumed), .sl 3 1 (List.map eInt f_0.bad)]]) hd_52 (fun hh => i_GreatestSets_1_ok hh) e3 | simpa only [go_sem, Int.reduceLT, Int.reduceLE, Int.reduceBEq, Int.reduceBNe, Nat.reduceBNe, Nat.reduceAdd, Nat.reduceMul, Nat.reduceEqDiff, Nat.reduceLeDiff, Nat.reduceLT, Nat.reduceBEq, reduceCtorEq, reduceIte, c2] using i_setsWith_ok (kkeep_1 := 52) (ckeep_1 := [.pt [.int .i64 f_0.beliefs.nodes, .sl 49 3 (List.map eReason f_0.beliefs.reasons), .sl 3 1 (List.map eInt f_0.assumed), .sl 3 1 (List.map eInt f_0.bad)]]) hd_52 (fun hh => i_GreatestSets_1_ok hh) e3) ?_
    try simp only [go_sem, Int.reduceLT, Int.reduceLE, Int.reduceBEq, Int.reduceBNe, Nat.reduceBNe, Nat.reduceAdd, Nat.reduceMul, Nat.reduceEqDiff, Nat.reduceLeDiff, Nat.reduceLT, Nat.reduceBEq, reduceCtorEq, reduceIte, c2]
    refine swp_for h (fun i row_25 st => IV [(3, .p false [.row 0]), (4, .p false [.row 1]), (16, .p false [.row 0]), (17, .p false [.c (.int .i64 ((v2.length : Nat) : Int))]), (18, .p false [.c (.int .i64 ((i : Nat) : Int))])] [.row 3 1 (List.map eInt v2) 2, .row 3 1 (List.map eInt row_25) 2] st) [(false, 4, 0)] [112, 208] (by decide) ?_ ?_ ?_
    · simp only [go_sem, Int.reduceLT, Int.reduceLE, Int.reduceBEq, Int.reduceBNe, Nat.reduceBNe, Nat.reduceAdd, Nat.reduceMul, Nat.reduceEqDiff, Nat.reduceLeDiff, Nat.reduceLT, Nat.reduceBEq, reduceCtorEq, reduceIte, IV, sts_cons, sts_nil, obs_cons, obs_nil, c2]
    · rintro i39 x40 row_25 ⟨sl, ob, n⟩ y4 hx5 hI6 hW7 h hy4
      simp only [IV, sts_cons, sts_nil, obs_cons, obs_nil, and_true, true_and, Nat.reduceAdd, str_len] at hI6
      obtain ⟨⟨g8_3, g8_4, g8_16, g8_17, g8_18⟩, og8_0, og8_1, hn⟩ := hI6
      subst hn
      have hlhx5 := WF.rowL hW7 og8_0
      try simp only [go_sem, Int.reduceLT, Int.reduceLE, Int.reduceBEq, Int.reduceBNe, Nat.reduceBNe, Nat.reduceAdd, Nat.reduceMul, Nat.reduceEqDiff, Nat.reduceLeDiff, Nat.reduceLT, Nat.reduceBEq, reduceCtorEq, reduceIte, c2, hx5, lt_t hx5, lt_p hx5, nat_in (lt_n hx5) hlhx5, g8_3, g8_4, g8_16, g8_17, g8_18, og8_0, og8_1]
      refine swp_for h (fun i great_46 st => IV [(3, .p false [.row 0]), (4, .p false [.row 1]), (6, .p false [.c (.int .i64 x40)]), (7, .p false [.c (.bool great_46)]), (16, .p false [.row 0]), (17, .p false [.c (.int .i64 ((v2.length : Nat) : Int))]), (18, .p false [.c (.int .i64 ((i39 : Nat) : Int))]), (22, .p false [.row 0]), (23, .p false [.c (.int .i64 ((v2.length : Nat) : Int))]), (24, .p false [.c (.int .i64 ((i : Nat) : Int))])] [.row 3 1 (List.map eInt v2) 2, .row 3 1 (List.map eInt row_25) 2] st) [] [0, 1] (by decide) ?_ ?_ ?_
      · simp only [go_sem, Int.reduceLT, Int.reduceLE, Int.reduceBEq, Int.reduceBNe, Nat.reduceBNe, Nat.reduceAdd, Nat.reduceMul, Nat.reduceEqDiff, Nat.reduceLeDiff, Nat.reduceLT, Nat.reduceBEq, reduceCtorEq, reduceIte, IV, sts_cons, sts_nil, obs_cons, obs_nil, c2, hx5, lt_t hx5, lt_p hx5, nat_in (lt_n hx5) hlhx5, g8_3, g8_4, g8_16, g8_17, g8_18, og8_0, og8_1]
      · rintro i49 x50 great_46 ⟨sl, ob, n⟩ y9 hx10 hI11 hW12 h hy9
        simp only [IV, sts_cons, sts_nil, obs_cons, obs_nil, and_true, true_and, Nat.reduceAdd, str_len] at hI11
        obtain ⟨⟨g13_3, g13_4, g13_6, g13_7, g13_16, g13_17, g13_18, g13_22, g13_23, g13_24⟩, og13_0, og13_1, hn⟩ := hI11
        subst hn
        have hlhx10 := WF.rowL hW12 og13_0
        try simp only [go_sem, Int.reduceLT, Int.reduceLE, Int.reduceBEq, Int.reduceBNe, Nat.reduceBNe, Nat.reduceAdd, Nat.reduceMul, Nat.reduceEqDiff, Nat.reduceLeDiff, Nat.reduceLT, Nat.reduceBEq, reduceCtorEq, reduceIte, c2, hx5, lt_t hx5, lt_p hx5, nat_in (lt_n hx5) hlhx5, hx10, lt_t hx10, lt_p hx10, nat_in (lt_n hx10) hlhx10, g13_3, g13_4, g13_6, g13_7, g13_16, g13_17, g13_18, g13_22, g13_23, g13_24, og13_0, og13_1]
        refine ite_K h (fun c14 h => ?_) (fun c14 h => ?_)
        · try simp only [go_sem, Int.reduceLT, Int.reduceLE, Int.reduceBEq, Int.reduceBNe, Nat.reduceBNe, Nat.reduceAdd, Nat.reduceMul, Nat.reduceEqDiff, Nat.reduceLeDiff, Nat.reduceLT, Nat.reduceBEq, reduceCtorEq, reduceIte, c2, hx5, lt_t hx5, lt_p hx5, nat_in (lt_n hx5) hlhx5, hx10, lt_t hx10, lt_p hx10, nat_in (lt_n hx10) hlhx10, c14, g13_3, g13_4, g13_6, g13_7, g13_16, g13_17, g13_18, g13_22, g13_23, g13_24, og13_0, og13_1]
          refine ite_K h (fun c15 h => ?_) (fun c15 h => ?_)
          · try simp only [go_sem, Int.reduceLT, Int.reduceLE, Int.reduceBEq, Int.reduceBNe, Nat.reduceBNe, Nat.reduceAdd, Nat.reduceMul, Nat.reduceEqDiff, Nat.reduceLeDiff, Nat.reduceLT, Nat.reduceBEq, reduceCtorEq, reduceIte, c2, hx5, lt_t hx5, lt_p hx5, nat_in (lt_n hx5) hlhx5, hx10, lt_t hx10, lt_p hx10, nat_in (lt_n hx10) hlhx10, c14, c15, g13_3, g13_4, g13_6, g13_7, g13_16, g13_17, g13_18, g13_22, g13_23, g13_24, og13_0, og13_1]
            refine ⟨_, [], [0, 1], (Option.some.inj h).symm, by decide, ?_⟩
            try simp only [go_sem, Int.reduceLT, Int.reduceLE, Int.reduceBEq, Int.reduceBNe, Nat.reduceBNe, Nat.reduceAdd, Nat.reduceMul, Nat.reduceEqDiff, Nat.reduceLeDiff, Nat.reduceLT, Nat.reduceBEq, reduceCtorEq, reduceIte, c2, hx5, lt_t hx5, lt_p hx5, nat_in (lt_n hx5) hlhx5, hx10, lt_t hx10, lt_p hx10, nat_in (lt_n hx10) hlhx10, c14, c15, g13_3, g13_4, g13_6, g13_7, g13_16, g13_17, g13_18, g13_22, g13_23, g13_24, og13_0, og13_1, IV, sts_cons, sts_nil, obs_cons, obs_nil]
          · try simp only [go_sem, Int.reduceLT, Int.reduceLE, Int.reduceBEq, Int.reduceBNe, Nat.reduceBNe, Nat.reduceAdd, Nat.reduceMul, Nat.reduceEqDiff, Nat.reduceLeDiff, Nat.reduceLT, Nat.reduceBEq, reduceCtorEq, reduceIte, c2, hx5, lt_t hx5, lt_p hx5, nat_in (lt_n hx5) hlhx5, hx10, lt_t hx10, lt_p hx10, nat_in (lt_n hx10) hlhx10, c14, c15, g13_3, g13_4, g13_6, g13_7, g13_16, g13_17, g13_18, g13_22, g13_23, g13_24, og13_0, og13_1]
            obtain ⟨v51, e16, h⟩ := bind_K h
            refine call_K (by first | exact i_IsPart_ok e16 | simpa only [go_sem, Int.reduceLT, Int.reduceLE, Int.reduceBEq, Int.reduceBNe, Nat.reduceBNe, Nat.reduceAdd, Nat.reduceMul, Nat.reduceEqDiff, Nat.reduceLeDiff, Nat.reduceLT, Nat.reduceBEq, reduceCtorEq, reduceIte, c2, hx5, lt_t hx5, lt_p hx5, nat_in (lt_n hx5) hlhx5, hx10, lt_t hx10, lt_p hx10, nat_in (lt_n hx10) hlhx10, c14, c15, g13_3, g13_4, g13_6, g13_7, g13_16, g13_17, g13_18, g13_22, g13_23, g13_24, og13_0, og13_1] using i_IsPart_ok e16) ?_
            try simp only [go_sem, Int.reduceLT, Int.reduceLE, Int.reduceBEq, Int.reduceBNe, Nat.reduceBNe, Nat.reduceAdd, Nat.reduceMul, Nat.reduceEqDiff, Nat.reduceLeDiff, Nat.reduceLT, Nat.reduceBEq, reduceCtorEq, reduceIte, c2, hx5, lt_t hx5, lt_p hx5, nat_in (lt_n hx5) hlhx5, hx10, lt_t hx10, lt_p hx10, nat_in (lt_n hx10) hlhx10, c14, c15, g13_3, g13_4, g13_6, g13_7, g13_16, g13_17, g13_18, g13_22, g13_23, g13_24, og13_0, og13_1]
            refine ⟨_, [], [0, 1], (Option.some.inj h).symm, by decide, ?_⟩
            try simp only [go_sem, Int.reduceLT, Int.reduceLE, Int.reduceBEq, Int.reduceBNe, Nat.reduceBNe, Nat.reduceAdd, Nat.reduceMul, Nat.reduceEqDiff, Nat.reduceLeDiff, Nat.reduceLT, Nat.reduceBEq, reduceCtorEq, reduceIte, c2, hx5, lt_t hx5, lt_p hx5, nat_in (lt_n hx5) hlhx5, hx10, lt_t hx10, lt_p hx10, nat_in (lt_n hx10) hlhx10, c14, c15, g13_3, g13_4, g13_6, g13_7, g13_16, g13_17, g13_18, g13_22, g13_23, g13_24, og13_0, og13_1, IV, sts_cons, sts_nil, obs_cons, obs_nil]
        · try simp only [go_sem, Int.reduceLT, Int.reduceLE, Int.reduceBEq, Int.reduceBNe, Nat.reduceBNe, Nat.reduceAdd, Nat.reduceMul, Nat.reduceEqDiff, Nat.reduceLeDiff, Nat.reduceLT, Nat.reduceBEq, reduceCtorEq, reduceIte, c2, hx5, lt_t hx5, lt_p hx5, nat_in (lt_n hx5) hlhx5, hx10, lt_t hx10, lt_p hx10, nat_in (lt_n hx10) hlhx10, c14, g13_3, g13_4, g13_6, g13_7, g13_16, g13_17, g13_18, g13_22, g13_23, g13_24, og13_0, og13_1]
          refine ⟨_, [], [0, 1], (Option.some.inj h).symm, by decide, ?_⟩
          try simp only [go_sem, Int.reduceLT, Int.reduceLE, Int.reduceBEq, Int.reduceBNe, Nat.reduceBNe, Nat.reduceAdd, Nat.reduceMul, Nat.reduceEqDiff, Nat.reduceLeDiff, Nat.reduceLT, Nat.reduceBEq, reduceCtorEq, reduceIte, c2, hx5, lt_t hx5, lt_p hx5, nat_in (lt_n hx5) hlhx5, hx10, lt_t hx10, lt_p hx10, nat_in (lt_n hx10) hlhx10, c14, g13_3, g13_4, g13_6, g13_7, g13_16, g13_17, g13_18, g13_22, g13_23, g13_24, og13_0, og13_1, IV, sts_cons, sts_nil, obs_cons, obs_nil]
      · rintro great_46 ⟨sl, ob, n⟩ hI17 hW18 h
        simp only [IV, sts_cons, sts_nil, obs_cons, obs_nil, and_true, true_and, Nat.reduceAdd, str_len] at hI17
        obtain ⟨⟨g19_3, g19_4, g19_6, g19_7, g19_16, g19_17, g19_18, g19_22, g19_23, g19_24⟩, og19_0, og19_1, hn⟩ := hI17
        subst hn
        try simp only [go_sem, Int.reduceLT, Int.reduceLE, Int.reduceBEq, Int.reduceBNe, Nat.reduceBNe, Nat.reduceAdd, Nat.reduceMul, Nat.reduceEqDiff, Nat.reduceLeDiff, Nat.reduceLT, Nat.reduceBEq, reduceCtorEq, reduceIte, c2, hx5, lt_t hx5, lt_p hx5, nat_in (lt_n hx5) hlhx5, lt_f (v2.length), g19_3, g19_4, g19_6, g19_7, g19_16, g19_17, g19_18, g19_22, g19_23, g19_24, og19_0, og19_1]
        refine ite_K h (fun c20 h => ?_) (fun c20 h => ?_)
        · obtain ⟨p21, h⟩ := chk_K h
          try simp only [Nat.reduceLeDiff] at p21
          try simp only [go_sem, Int.reduceLT, Int.reduceLE, Int.reduceBEq, Int.reduceBNe, Nat.reduceBNe, Nat.reduceAdd, Nat.reduceMul, Nat.reduceEqDiff, Nat.reduceLeDiff, Nat.reduceLT, Nat.reduceBEq, reduceCtorEq, reduceIte, c2, hx5, lt_t hx5, lt_p hx5, nat_in (lt_n hx5) hlhx5, lt_f (v2.length), c20, p21, g19_3, g19_4, g19_6, g19_7, g19_16, g19_17, g19_18, g19_22, g19_23, g19_24, og19_0, og19_1]
          refine ⟨_, [], [0, 82], (Option.some.inj h).symm, by decide, ?_⟩
          try simp only [go_sem, Int.reduceLT, Int.reduceLE, Int.reduceBEq, Int.reduceBNe, Nat.reduceBNe, Nat.reduceAdd, Nat.reduceMul, Nat.reduceEqDiff, Nat.reduceLeDiff, Nat.reduceLT, Nat.reduceBEq, reduceCtorEq, reduceIte, c2, hx5, lt_t hx5, lt_p hx5, nat_in (lt_n hx5) hlhx5, lt_f (v2.length), c20, p21, g19_3, g19_4, g19_6, g19_7, g19_16, g19_17, g19_18, g19_22, g19_23, g19_24, og19_0, og19_1, IV, sts_cons, sts_nil, obs_cons, obs_nil]
        · try simp only [go_sem, Int.reduceLT, Int.reduceLE, Int.reduceBEq, Int.reduceBNe, Nat.reduceBNe, Nat.reduceAdd, Nat.reduceMul, Nat.reduceEqDiff, Nat.reduceLeDiff, Nat.reduceLT, Nat.reduceBEq, reduceCtorEq, reduceIte, c2, hx5, lt_t hx5, lt_p hx5, nat_in (lt_n hx5) hlhx5, lt_f (v2.length), c20, g19_3, g19_4, g19_6, g19_7, g19_16, g19_17, g19_18, g19_22, g19_23, g19_24, og19_0, og19_1]
          refine ⟨_, [], [0, 1], (Option.some.inj h).symm, by decide, ?_⟩
          try simp only [go_sem, Int.reduceLT, Int.reduceLE, Int.reduceBEq, Int.reduceBNe, Nat.reduceBNe, Nat.reduceAdd, Nat.reduceMul, Nat.reduceEqDiff, Nat.reduceLeDiff, Nat.reduceLT, Nat.reduceBEq, reduceCtorEq, reduceIte, c2, hx5, lt_t hx5, lt_p hx5, nat_in (lt_n hx5) hlhx5, lt_f (v2.length), c20, g19_3, g19_4, g19_6, g19_7, g19_16, g19_17, g19_18, g19_22, g19_23, g19_24, og19_0, og19_1, IV, sts_cons, sts_nil, obs_cons, obs_nil]
    · rintro row_25 ⟨sl, ob, n⟩ hI22 hW23 h
      simp only [IV, sts_cons, sts_nil, obs_cons, obs_nil, and_true, true_and, Nat.reduceAdd, str_len] at hI22
      obtain ⟨⟨g24_3, g24_4, g24_16, g24_17, g24_18⟩, og24_0, og24_1, hn⟩ := hI22
      subst hn
      obtain rfl := Option.some.inj h
      try simp only [go_sem, Int.reduceLT, Int.reduceLE, Int.reduceBEq, Int.reduceBNe, Nat.reduceBNe, Nat.reduceAdd, Nat.reduceMul, Nat.reduceEqDiff, Nat.reduceLeDiff, Nat.reduceLT, Nat.reduceBEq, reduceCtorEq, reduceIte, c2, lt_f (v2.length), g24_3, g24_4, g24_16, g24_17, g24_18, og24_0, og24_1]
  · obtain rfl := Option.some.inj h
    try simp only [go_sem, Int.reduceLT, Int.reduceLE, Int.reduceBEq, Int.reduceBNe, Nat.reduceBNe, Nat.reduceAdd, Nat.reduceMul, Nat.reduceEqDiff, Nat.reduceLeDiff, Nat.reduceLT, Nat.reduceBEq, reduceCtorEq, reduceIte, c2]
end Go.Proofs.Ytfbonanbiblkbaa

namespace Go.Proofs.Ytfbonanbiblkbaa
open Go.Proofs.Try
set_option linter.unusedSimpArgs false
set_option linter.unusedVariables false
set_option maxRecDepth 1000000
set_option maxHeartbeats 4000000
theorem s_IsConsistent_ok {f_0 : FrameD} {set_1 : Int} {r : Bool} (h : s_IsConsistent f_0 set_1 = some r) : Sound Try.prog J0 54 [(true, eFrame f_0), (false, [.int .i64 set_1])] [(false, [(false, .bool r)])] := by
  refine fnk Try.func54 (by kernel_rfl) rfl (by kernel_rfl) (by kernel_rfl) ?_
  unfold s_IsConsistent at h
  simp only [fnS, f54, argSt, go_sem, Int.reduceLT, Int.reduceLE, Int.reduceBEq, Int.reduceBNe, Nat.reduceBNe, Nat.reduceAdd, Nat.reduceMul, Nat.reduceEqDiff, Nat.reduceLeDiff, Nat.reduceLT, Nat.reduceBEq, reduceCtorEq, reduceIte]
  obtain ⟨v1, e1, h⟩ := bind_K h
  refine call_K (by first | exact s_l13Set_ok e1 | simpa only [go_sem, Int.reduceLT, Int.reduceLE, Int.reduceBEq, Int.reduceBNe, Nat.reduceBNe, Nat.reduceAdd, Nat.reduceMul, Nat.reduceEqDiff, Nat.reduceLeDiff, Nat.reduceLT, Nat.reduceBEq, reduceCtorEq, reduceIte] using s_l13Set_ok e1) ?_
  try simp only [go_sem, Int.reduceLT, Int.reduceLE, Int.reduceBEq, Int.reduceBNe, Nat.reduceBNe, Nat.reduceAdd, Nat.reduceMul, Nat.reduceEqDiff, Nat.reduceLeDiff, Nat.reduceLT, Nat.reduceBEq, reduceCtorEq, reduceIte]
  refine ite_K h (fun c2 h => ?_) (fun c2 h => ?_)
  · try simp only [go_sem, Int.reduceLT, Int.reduceLE, Int.reduceBEq, Int.reduceBNe, Nat.reduceBNe, Nat.reduceAdd, Nat.reduceMul, Nat.reduceEqDiff, Nat.reduceLeDiff, Nat.reduceLT, Nat.reduceBEq, reduceCtorEq, reduceIte, c2]
    obtain ⟨v2, e3, h⟩ := bind_K h
    refine call_K (by first | exact s_l13Under_ok e3 | simpa only [go_sem, Int.reduceLT, Int.reduceLE, Int.reduceBEq, Int.reduceBNe, Nat.reduceBNe, Nat.reduceAdd, Nat.reduceMul, Nat.reduceEqDiff, Nat.reduceLeDiff, Nat.reduceLT, Nat.reduceBEq, reduceCtorEq, reduceIte, c2] using s_l13Under_ok e3) ?_
    try simp only [go_sem, Int.reduceLT, Int.reduceLE, Int.reduceBEq, Int.reduceBNe, Nat.reduceBNe, Nat.reduceAdd, Nat.reduceMul, Nat.reduceEqDiff, Nat.reduceLeDiff, Nat.reduceLT, Nat.reduceBEq, reduceCtorEq, reduceIte, c2]
    refine swp_for h (fun i _ st => IV [(2, .bp 0 0), (5, .p false [.row 1]), (6, .p false [.c (.int .i64 ((i : Nat) : Int))])] [.box 39 [.c (.int .i64 f_0.beliefs.nodes), .c (.sl 49 3 (List.map eReason f_0.beliefs.reasons)), .c (.sl 3 1 (List.map eInt f_0.assumed)), .c (.sl 3 1 (List.map eInt f_0.bad))], .row 4 1 (List.map eBool v2) 2] st) [] [0, 128] (by decide) ?_ ?_ ?_
    · simp only [go_sem, Int.reduceLT, Int.reduceLE, Int.reduceBEq, Int.reduceBNe, Nat.reduceBNe, Nat.reduceAdd, Nat.reduceMul, Nat.reduceEqDiff, Nat.reduceLeDiff, Nat.reduceLT, Nat.reduceBEq, reduceCtorEq, reduceIte, IV, sts_cons, sts_nil, obs_cons, obs_nil, c2]
    · rintro i8 x9 ⟨⟩ ⟨sl, ob, n⟩ y4 hx5 hI6 hW7 h hy4
      simp only [IV, sts_cons, sts_nil, obs_cons, obs_nil, and_true, true_and, Nat.reduceAdd, str_len] at hI6
      obtain ⟨⟨g8_2, g8_5, g8_6⟩, og8_0, og8_1, hn⟩ := hI6
      subst hn
      have hlhx5 := WF.boxL hW7 og8_0 (j := 3) rfl
      obtain ⟨p9, h⟩ := chk_K h
      obtain ⟨x10, e10, h⟩ := bind_K h
      try simp only [go_sem, Int.reduceLT, Int.reduceLE, Int.reduceBEq, Int.reduceBNe, Nat.reduceBNe, Nat.reduceAdd, Nat.reduceMul, Nat.reduceEqDiff, Nat.reduceLeDiff, Nat.reduceLT, Nat.reduceBEq, reduceCtorEq, reduceIte, c2, hx5, lt_t hx5, lt_p hx5, nat_in (lt_n hx5) hlhx5, p9.1, p9.2, e10, g8_2, g8_5, g8_6, og8_0, og8_1]
      refine ite_K h (fun c11 h => ?_) (fun c11 h => ?_)
      · replace h := inr_K h hy4
        obtain rfl := Option.some.inj h
        try simp only [go_sem, Int.reduceLT, Int.reduceLE, Int.reduceBEq, Int.reduceBNe, Nat.reduceBNe, Nat.reduceAdd, Nat.reduceMul, Nat.reduceEqDiff, Nat.reduceLeDiff, Nat.reduceLT, Nat.reduceBEq, reduceCtorEq, reduceIte, c2, hx5, lt_t hx5, lt_p hx5, nat_in (lt_n hx5) hlhx5, p9.1, p9.2, e10, c11, g8_2, g8_5, g8_6, og8_0, og8_1]
      · try simp only [go_sem, Int.reduceLT, Int.reduceLE, Int.reduceBEq, Int.reduceBNe, Nat.reduceBNe, Nat.reduceAdd, Nat.reduceMul, Nat.reduceEqDiff, Nat.reduceLeDiff, Nat.reduceLT, Nat.reduceBEq, reduceCtorEq, reduceIte, c2, hx5, lt_t hx5, lt_p hx5, nat_in (lt_n hx5) hlhx5, p9.1, p9.2, e10, c11, g8_2, g8_5, g8_6, og8_0, og8_1]
        refine ⟨_, [], [0, 1], (Option.some.inj h).symm, by decide, ?_⟩
        try simp only [go_sem, Int.reduceLT, Int.reduceLE, Int.reduceBEq, Int.reduceBNe, Nat.reduceBNe, Nat.reduceAdd, Nat.reduceMul, Nat.reduceEqDiff, Nat.reduceLeDiff, Nat.reduceLT, Nat.reduceBEq, reduceCtorEq, reduceIte, c2, hx5, lt_t hx5, lt_p hx5, nat_in (lt_n hx5) hlhx5, p9.1, p9.2, e10, c11, g8_2, g8_5, g8_6, og8_0, og8_1, IV, sts_cons, sts_nil, obs_cons, obs_nil]
    · rintro ⟨⟩ ⟨sl, ob, n⟩ hI12 hW13 h
      simp only [IV, sts_cons, sts_nil, obs_cons, obs_nil, and_true, true_and, Nat.reduceAdd, str_len] at hI12
      obtain ⟨⟨g14_2, g14_5, g14_6⟩, og14_0, og14_1, hn⟩ := hI12
      subst hn
      obtain rfl := Option.some.inj h
      try simp only [go_sem, Int.reduceLT, Int.reduceLE, Int.reduceBEq, Int.reduceBNe, Nat.reduceBNe, Nat.reduceAdd, Nat.reduceMul, Nat.reduceEqDiff, Nat.reduceLeDiff, Nat.reduceLT, Nat.reduceBEq, reduceCtorEq, reduceIte, c2, lt_f (f_0.bad.length), g14_2, g14_5, g14_6, og14_0, og14_1]
  · obtain rfl := Option.some.inj h
    try simp only [go_sem, Int.reduceLT, Int.reduceLE, Int.reduceBEq, Int.reduceBNe, Nat.reduceBNe, Nat.reduceAdd, Nat.reduceMul, Nat.reduceEqDiff, Nat.reduceLeDiff, Nat.reduceLT, Nat.reduceBEq, reduceCtorEq, reduceIte, c2]
end Go.Proofs.Ytfbonanbiblkbaa

namespace Go.Proofs.Ytfbonanbiblkbaa
open Go.Proofs.Try
set_option linter.unusedSimpArgs false
set_option linter.unusedVariables false
set_option maxRecDepth 1000000
set_option maxHeartbeats 4000000
theorem s_DrawGoodFrame_ok {code_0 : (List Int)} {r : FrameD} (h : s_DrawGoodFrame code_0 = some r) : Sound Try.prog J0 20 [(false, [.sl 5 1 (List.map eByte code_0)])] [(true, [(false, .int .i64 r.beliefs.nodes), (false, .sl 49 3 (List.map eReason r.beliefs.reasons)), (false, .sl 3 1 (List.map eInt r.assumed)), (false, .sl 3 1 (List.map eInt r.bad))])] := by
  refine fnk Try.func20 (by kernel_rfl) rfl (by kernel_rfl) (by kernel_rfl) ?_
  unfold s_DrawGoodFrame at h
  simp only [fnS, f20, argSt, go_sem, Int.reduceLT, Int.reduceLE, Int.reduceBEq, Int.reduceBNe, Nat.reduceBNe, Nat.reduceAdd, Nat.reduceMul, Nat.reduceEqDiff, Nat.reduceLeDiff, Nat.reduceLT, Nat.reduceBEq, reduceCtorEq, reduceIte]
  obtain ⟨v1, e1, h⟩ := bind_K h
  refine new_K (by first | exact s_l1New_ok e1 | simpa only [go_sem, Int.reduceLT, Int.reduceLE, Int.reduceBEq, Int.reduceBNe, Nat.reduceBNe, Nat.reduceAdd, Nat.reduceMul, Nat.reduceEqDiff, Nat.reduceLeDiff, Nat.reduceLT, Nat.reduceBEq, reduceCtorEq, reduceIte] using s_l1New_ok e1) ?_
  try simp only [go_sem, Int.reduceLT, Int.reduceLE, Int.reduceBEq, Int.reduceBNe, Nat.reduceBNe, Nat.reduceAdd, Nat.reduceMul, Nat.reduceEqDiff, Nat.reduceLeDiff, Nat.reduceLT, Nat.reduceBEq, reduceCtorEq, reduceIte]
  obtain ⟨v2, e2, h⟩ := bind_K h
  refine hand_K (by first | exact s_l13Draw_ok e2 | simpa only [go_sem, Int.reduceLT, Int.reduceLE, Int.reduceBEq, Int.reduceBNe, Nat.reduceBNe, Nat.reduceAdd, Nat.reduceMul, Nat.reduceEqDiff, Nat.reduceLeDiff, Nat.reduceLT, Nat.reduceBEq, reduceCtorEq, reduceIte] using s_l13Draw_ok e2) ?_
  obtain rfl := Option.some.inj h
  try simp only [go_sem, Int.reduceLT, Int.reduceLE, Int.reduceBEq, Int.reduceBNe, Nat.reduceBNe, Nat.reduceAdd, Nat.reduceMul, Nat.reduceEqDiff, Nat.reduceLeDiff, Nat.reduceLT, Nat.reduceBEq, reduceCtorEq, reduceIte]
theorem s_GreatestSets_ok {append_0 : FrameD} {r : (List Int)} (h : s_GreatestSets append_0 = some r) : Sound Try.prog J0 28 [(true, eFrame append_0)] [(false, [(false, .sl 3 1 (List.map eInt r))])] := by
  refine fnk Try.func28 (by kernel_rfl) rfl (by kernel_rfl) (by kernel_rfl) ?_
  unfold s_GreatestSets at h
  simp only [fnS, f28, argSt, go_sem, Int.reduceLT, Int.reduceLE, Int.reduceBEq, Int.reduceBNe, Nat.reduceBNe, Nat.reduceAdd, Nat.reduceMul, Nat.reduceEqDiff, Nat.reduceLeDiff, Nat.reduceLT, Nat.reduceBEq, reduceCtorEq, reduceIte]
  refine swp_iter h (fun s st => match s with | (row_3, u_4) => IV [(1, .bp 0 0), (3, .p false [.row 1]), (4, .p false [.c (.int .i64 u_4)])] [.box 39 [.c (.int .i64 append_0.beliefs.nodes), .c (.sl 49 3 (List.map eReason append_0.beliefs.reasons)), .c (.sl 3 1 (List.map eInt append_0.assumed)), .c (.sl 3 1 (List.map eInt append_0.bad))], .row 3 1 (List.map eInt row_3) 2] st) [] [0, 32] (by decide) ?_ ?_
  · simp only [go_sem, Int.reduceLT, Int.reduceLE, Int.reduceBEq, Int.reduceBNe, Nat.reduceBNe, Nat.reduceAdd, Nat.reduceMul, Nat.reduceEqDiff, Nat.reduceLeDiff, Nat.reduceLT, Nat.reduceBEq, reduceCtorEq, reduceIte, IV, sts_cons, sts_nil, obs_cons, obs_nil]
  · rintro ⟨row_3, u_4⟩ ⟨sl, ob, n⟩ y1 hI2 hW3 h hy1
    simp only [IV, sts_cons, sts_nil, obs_cons, obs_nil, and_true, true_and, Nat.reduceAdd, str_len] at hI2
    obtain ⟨⟨g4_1, g4_3, g4_4⟩, og4_0, og4_1, hn⟩ := hI2
    subst hn
    try simp only [go_sem, Int.reduceLT, Int.reduceLE, Int.reduceBEq, Int.reduceBNe, Nat.reduceBNe, Nat.reduceAdd, Nat.reduceMul, Nat.reduceEqDiff, Nat.reduceLeDiff, Nat.reduceLT, Nat.reduceBEq, reduceCtorEq, reduceIte, g4_1, g4_3, g4_4, og4_0, og4_1]
    obtain ⟨v5, e5, h⟩ := bind_K h
    refine call_K (by first | exact s_l13Set_ok e5 | simpa only [go_sem, Int.reduceLT, Int.reduceLE, Int.reduceBEq, Int.reduceBNe, Nat.reduceBNe, Nat.reduceAdd, Nat.reduceMul, Nat.reduceEqDiff, Nat.reduceLeDiff, Nat.reduceLT, Nat.reduceBEq, reduceCtorEq, reduceIte, g4_1, g4_3, g4_4, og4_0, og4_1] using s_l13Set_ok e5) ?_
    try simp only [go_sem, Int.reduceLT, Int.reduceLE, Int.reduceBEq, Int.reduceBNe, Nat.reduceBNe, Nat.reduceAdd, Nat.reduceMul, Nat.reduceEqDiff, Nat.reduceLeDiff, Nat.reduceLT, Nat.reduceBEq, reduceCtorEq, reduceIte, g4_1, g4_3, g4_4, og4_0, og4_1]
    refine ite_K h (fun c6 h => ?_) (fun c6 h => ?_)
    · try simp only [go_sem, Int.reduceLT, Int.reduceLE, Int.reduceBEq, Int.reduceBNe, Nat.reduceBNe, Nat.reduceAdd, Nat.reduceMul, Nat.reduceEqDiff, Nat.reduceLeDiff, Nat.reduceLT, Nat.reduceBEq, reduceCtorEq, reduceIte, c6, g4_1, g4_3, g4_4, og4_0, og4_1]
      obtain ⟨v6, e7, h⟩ := bind_K h
      refine call_K (by first | exact s_IsConsistent_ok e7 | simpa only [go_sem, Int.reduceLT, Int.reduceLE, Int.reduceBEq, Int.reduceBNe, Nat.reduceBNe, Nat.reduceAdd, Nat.reduceMul, Nat.reduceEqDiff, Nat.reduceLeDiff, Nat.reduceLT, Nat.reduceBEq, reduceCtorEq, reduceIte, c6, g4_1, g4_3, g4_4, og4_0, og4_1] using s_IsConsistent_ok e7) ?_
      try simp only [go_sem, Int.reduceLT, Int.reduceLE, Int.reduceBEq, Int.reduceBNe, Nat.reduceBNe, Nat.reduceAdd, Nat.reduceMul, Nat.reduceEqDiff, Nat.reduceLeDiff, Nat.reduceLT, Nat.reduceBEq, reduceCtorEq, reduceIte, c6, g4_1, g4_3, g4_4, og4_0, og4_1]
      refine ite_K h (fun c8 h => ?_) (fun c8 h => ?_)
      · obtain ⟨p9, h⟩ := chk_K h
        try simp only [Nat.reduceLeDiff] at p9
        try simp only [go_sem, Int.reduceLT, Int.reduceLE, Int.reduceBEq, Int.reduceBNe, Nat.reduceBNe, Nat.reduceAdd, Nat.reduceMul, Nat.reduceEqDiff, Nat.reduceLeDiff, Nat.reduceLT, Nat.reduceBEq, reduceCtorEq, reduceIte, c6, c8, p9, g4_1, g4_3, g4_4, og4_0, og4_1]
        refine ⟨_, [], [0, 146], (Option.some.inj h).symm, by decide, ?_⟩
        try simp only [go_sem, Int.reduceLT, Int.reduceLE, Int.reduceBEq, Int.reduceBNe, Nat.reduceBNe, Nat.reduceAdd, Nat.reduceMul, Nat.reduceEqDiff, Nat.reduceLeDiff, Nat.reduceLT, Nat.reduceBEq, reduceCtorEq, reduceIte, c6, c8, p9, g4_1, g4_3, g4_4, og4_0, og4_1, IV, sts_cons, sts_nil, obs_cons, obs_nil]
      · try simp only [go_sem, Int.reduceLT, Int.reduceLE, Int.reduceBEq, Int.reduceBNe, Nat.reduceBNe, Nat.reduceAdd, Nat.reduceMul, Nat.reduceEqDiff, Nat.reduceLeDiff, Nat.reduceLT, Nat.reduceBEq, reduceCtorEq, reduceIte, c6, c8, g4_1, g4_3, g4_4, og4_0, og4_1]
        refine ⟨_, [], [0, 1], (Option.some.inj h).symm, by decide, ?_⟩
        try simp only [go_sem, Int.reduceLT, Int.reduceLE, Int.reduceBEq, Int.reduceBNe, Nat.reduceBNe, Nat.reduceAdd, Nat.reduceMul, Nat.reduceEqDiff, Nat.reduceLeDiff, Nat.reduceLT, Nat.reduceBEq, reduceCtorEq, reduceIte, c6, c8, g4_1, g4_3, g4_4, og4_0, og4_1, IV, sts_cons, sts_nil, obs_cons, obs_nil]
    · try simp only [go_sem, Int.reduceLT, Int.reduceLE, Int.reduceBEq, Int.reduceBNe, Nat.reduceBNe, Nat.reduceAdd, Nat.reduceMul, Nat.reduceEqDiff, Nat.reduceLeDiff, Nat.reduceLT, Nat.reduceBEq, reduceCtorEq, reduceIte, c6, g4_1, g4_3, g4_4, og4_0, og4_1]
      refine swp_for h (fun i row_20 st => IV [(3, .p false [.row 0]), (5, .p false [.row 1]), (6, .p false [.c (.int .i64 ((i : Nat) : Int))])] [.row 3 1 (List.map eInt row_3) 2, .row 3 1 (List.map eInt row_20) 2] st) [] [1, 50] (by decide) ?_ ?_ ?_
      · simp only [go_sem, Int.reduceLT, Int.reduceLE, Int.reduceBEq, Int.reduceBNe, Nat.reduceBNe, Nat.reduceAdd, Nat.reduceMul, Nat.reduceEqDiff, Nat.reduceLeDiff, Nat.reduceLT, Nat.reduceBEq, reduceCtorEq, reduceIte, IV, sts_cons, sts_nil, obs_cons, obs_nil, c6, g4_1, g4_3, g4_4, og4_0, og4_1]
      · rintro i36 x37 row_20 ⟨sl, ob, n⟩ y10 hx11 hI12 hW13 h hy10
        simp only [IV, sts_cons, sts_nil, obs_cons, obs_nil, and_true, true_and, Nat.reduceAdd, str_len] at hI12
        obtain ⟨⟨g14_3, g14_5, g14_6⟩, og14_0, og14_1, hn⟩ := hI12
        subst hn
        have hlhx11 := WF.rowL hW13 og14_0
        try simp only [go_sem, Int.reduceLT, Int.reduceLE, Int.reduceBEq, Int.reduceBNe, Nat.reduceBNe, Nat.reduceAdd, Nat.reduceMul, Nat.reduceEqDiff, Nat.reduceLeDiff, Nat.reduceLT, Nat.reduceBEq, reduceCtorEq, reduceIte, c6, hx11, lt_t hx11, lt_p hx11, nat_in (lt_n hx11) hlhx11, g14_3, g14_5, g14_6, og14_0, og14_1]
        refine swp_for h (fun i u_40 st => IV [(3, .p false [.row 0]), (5, .p false [.row 1]), (6, .p false [.c (.int .i64 ((i36 : Nat) : Int))]), (7, .p false [.c (.bool u_40)]), (8, .p false [.c (.int .i64 ((i : Nat) : Int))])] [.row 3 1 (List.map eInt row_3) 2, .row 3 1 (List.map eInt row_20) 2] st) [] [0, 1] (by decide) ?_ ?_ ?_
        · simp only [go_sem, Int.reduceLT, Int.reduceLE, Int.reduceBEq, Int.reduceBNe, Nat.reduceBNe, Nat.reduceAdd, Nat.reduceMul, Nat.reduceEqDiff, Nat.reduceLeDiff, Nat.reduceLT, Nat.reduceBEq, reduceCtorEq, reduceIte, IV, sts_cons, sts_nil, obs_cons, obs_nil, c6, hx11, lt_t hx11, lt_p hx11, nat_in (lt_n hx11) hlhx11, g14_3, g14_5, g14_6, og14_0, og14_1]
        · rintro i44 x45 u_40 ⟨sl, ob, n⟩ y15 hx16 hI17 hW18 h hy15
          simp only [IV, sts_cons, sts_nil, obs_cons, obs_nil, and_true, true_and, Nat.reduceAdd, str_len] at hI17
          obtain ⟨⟨g19_3, g19_5, g19_6, g19_7, g19_8⟩, og19_0, og19_1, hn⟩ := hI17
          subst hn
          have hlhx16 := WF.rowL hW18 og19_0
          try simp only [go_sem, Int.reduceLT, Int.reduceLE, Int.reduceBEq, Int.reduceBNe, Nat.reduceBNe, Nat.reduceAdd, Nat.reduceMul, Nat.reduceEqDiff, Nat.reduceLeDiff, Nat.reduceLT, Nat.reduceBEq, reduceCtorEq, reduceIte, c6, hx11, lt_t hx11, lt_p hx11, nat_in (lt_n hx11) hlhx11, hx16, lt_t hx16, lt_p hx16, nat_in (lt_n hx16) hlhx16, g19_3, g19_5, g19_6, g19_7, g19_8, og19_0, og19_1]
          refine ite_K h (fun c20 h => ?_) (fun c20 h => ?_)
          · try simp only [go_sem, Int.reduceLT, Int.reduceLE, Int.reduceBEq, Int.reduceBNe, Nat.reduceBNe, Nat.reduceAdd, Nat.reduceMul, Nat.reduceEqDiff, Nat.reduceLeDiff, Nat.reduceLT, Nat.reduceBEq, reduceCtorEq, reduceIte, c6, hx11, lt_t hx11, lt_p hx11, nat_in (lt_n hx11) hlhx11, hx16, lt_t hx16, lt_p hx16, nat_in (lt_n hx16) hlhx16, c20, g19_3, g19_5, g19_6, g19_7, g19_8, og19_0, og19_1]
            obtain ⟨v46, e21, h⟩ := bind_K h
            refine call_K (by first | exact s_IsPart_ok e21 | simpa only [go_sem, Int.reduceLT, Int.reduceLE, Int.reduceBEq, Int.reduceBNe, Nat.reduceBNe, Nat.reduceAdd, Nat.reduceMul, Nat.reduceEqDiff, Nat.reduceLeDiff, Nat.reduceLT, Nat.reduceBEq, reduceCtorEq, reduceIte, c6, hx11, lt_t hx11, lt_p hx11, nat_in (lt_n hx11) hlhx11, hx16, lt_t hx16, lt_p hx16, nat_in (lt_n hx16) hlhx16, c20, g19_3, g19_5, g19_6, g19_7, g19_8, og19_0, og19_1] using s_IsPart_ok e21) ?_
            try simp only [go_sem, Int.reduceLT, Int.reduceLE, Int.reduceBEq, Int.reduceBNe, Nat.reduceBNe, Nat.reduceAdd, Nat.reduceMul, Nat.reduceEqDiff, Nat.reduceLeDiff, Nat.reduceLT, Nat.reduceBEq, reduceCtorEq, reduceIte, c6, hx11, lt_t hx11, lt_p hx11, nat_in (lt_n hx11) hlhx11, hx16, lt_t hx16, lt_p hx16, nat_in (lt_n hx16) hlhx16, c20, g19_3, g19_5, g19_6, g19_7, g19_8, og19_0, og19_1]
            refine ite_K h (fun c22 h => ?_) (fun c22 h => ?_)
            · try simp only [go_sem, Int.reduceLT, Int.reduceLE, Int.reduceBEq, Int.reduceBNe, Nat.reduceBNe, Nat.reduceAdd, Nat.reduceMul, Nat.reduceEqDiff, Nat.reduceLeDiff, Nat.reduceLT, Nat.reduceBEq, reduceCtorEq, reduceIte, c6, hx11, lt_t hx11, lt_p hx11, nat_in (lt_n hx11) hlhx11, hx16, lt_t hx16, lt_p hx16, nat_in (lt_n hx16) hlhx16, c20, c22, g19_3, g19_5, g19_6, g19_7, g19_8, og19_0, og19_1]
              refine ⟨_, [], [0, 1], (Option.some.inj h).symm, by decide, ?_⟩
              try simp only [go_sem, Int.reduceLT, Int.reduceLE, Int.reduceBEq, Int.reduceBNe, Nat.reduceBNe, Nat.reduceAdd, Nat.reduceMul, Nat.reduceEqDiff, Nat.reduceLeDiff, Nat.reduceLT, Nat.reduceBEq, reduceCtorEq, reduceIte, c6, hx11, lt_t hx11, lt_p hx11, nat_in (lt_n hx11) hlhx11, hx16, lt_t hx16, lt_p hx16, nat_in (lt_n hx16) hlhx16, c20, c22, g19_3, g19_5, g19_6, g19_7, g19_8, og19_0, og19_1, IV, sts_cons, sts_nil, obs_cons, obs_nil]
            · try simp only [go_sem, Int.reduceLT, Int.reduceLE, Int.reduceBEq, Int.reduceBNe, Nat.reduceBNe, Nat.reduceAdd, Nat.reduceMul, Nat.reduceEqDiff, Nat.reduceLeDiff, Nat.reduceLT, Nat.reduceBEq, reduceCtorEq, reduceIte, c6, hx11, lt_t hx11, lt_p hx11, nat_in (lt_n hx11) hlhx11, hx16, lt_t hx16, lt_p hx16, nat_in (lt_n hx16) hlhx16, c20, c22, g19_3, g19_5, g19_6, g19_7, g19_8, og19_0, og19_1]
              refine ⟨_, [], [0, 1], (Option.some.inj h).symm, by decide, ?_⟩
              try simp only [go_sem, Int.reduceLT, Int.reduceLE, Int.reduceBEq, Int.reduceBNe, Nat.reduceBNe, Nat.reduceAdd, Nat.reduceMul, Nat.reduceEqDiff, Nat.reduceLeDiff, Nat.reduceLT, Nat.reduceBEq, reduceCtorEq, reduceIte, c6, hx11, lt_t hx11, lt_p hx11, nat_in (lt_n hx11) hlhx11, hx16, lt_t hx16, lt_p hx16, nat_in (lt_n hx16) hlhx16, c20, c22, g19_3, g19_5, g19_6, g19_7, g19_8, og19_0, og19_1, IV, sts_cons, sts_nil, obs_cons, obs_nil]
          · try simp only [go_sem, Int.reduceLT, Int.reduceLE, Int.reduceBEq, Int.reduceBNe, Nat.reduceBNe, Nat.reduceAdd, Nat.reduceMul, Nat.reduceEqDiff, Nat.reduceLeDiff, Nat.reduceLT, Nat.reduceBEq, reduceCtorEq, reduceIte, c6, hx11, lt_t hx11, lt_p hx11, nat_in (lt_n hx11) hlhx11, hx16, lt_t hx16, lt_p hx16, nat_in (lt_n hx16) hlhx16, c20, g19_3, g19_5, g19_6, g19_7, g19_8, og19_0, og19_1]
            refine ⟨_, [], [0, 1], (Option.some.inj h).symm, by decide, ?_⟩
            try simp only [go_sem, Int.reduceLT, Int.reduceLE, Int.reduceBEq, Int.reduceBNe, Nat.reduceBNe, Nat.reduceAdd, Nat.reduceMul, Nat.reduceEqDiff, Nat.reduceLeDiff, Nat.reduceLT, Nat.reduceBEq, reduceCtorEq, reduceIte, c6, hx11, lt_t hx11, lt_p hx11, nat_in (lt_n hx11) hlhx11, hx16, lt_t hx16, lt_p hx16, nat_in (lt_n hx16) hlhx16, c20, g19_3, g19_5, g19_6, g19_7, g19_8, og19_0, og19_1, IV, sts_cons, sts_nil, obs_cons, obs_nil]
        · rintro u_40 ⟨sl, ob, n⟩ hI23 hW24 h
          simp only [IV, sts_cons, sts_nil, obs_cons, obs_nil, and_true, true_and, Nat.reduceAdd, str_len] at hI23
          obtain ⟨⟨g25_3, g25_5, g25_6, g25_7, g25_8⟩, og25_0, og25_1, hn⟩ := hI23
          subst hn
          try simp only [go_sem, Int.reduceLT, Int.reduceLE, Int.reduceBEq, Int.reduceBNe, Nat.reduceBNe, Nat.reduceAdd, Nat.reduceMul, Nat.reduceEqDiff, Nat.reduceLeDiff, Nat.reduceLT, Nat.reduceBEq, reduceCtorEq, reduceIte, c6, hx11, lt_t hx11, lt_p hx11, nat_in (lt_n hx11) hlhx11, lt_f (row_3.length), g25_3, g25_5, g25_6, g25_7, g25_8, og25_0, og25_1]
          refine ite_K h (fun c26 h => ?_) (fun c26 h => ?_)
          · obtain ⟨p27, h⟩ := chk_K h
            try simp only [Nat.reduceLeDiff] at p27
            try simp only [go_sem, Int.reduceLT, Int.reduceLE, Int.reduceBEq, Int.reduceBNe, Nat.reduceBNe, Nat.reduceAdd, Nat.reduceMul, Nat.reduceEqDiff, Nat.reduceLeDiff, Nat.reduceLT, Nat.reduceBEq, reduceCtorEq, reduceIte, c6, hx11, lt_t hx11, lt_p hx11, nat_in (lt_n hx11) hlhx11, lt_f (row_3.length), c26, p27, g25_3, g25_5, g25_6, g25_7, g25_8, og25_0, og25_1]
            refine ⟨_, [], [0, 178], (Option.some.inj h).symm, by decide, ?_⟩
            try simp only [go_sem, Int.reduceLT, Int.reduceLE, Int.reduceBEq, Int.reduceBNe, Nat.reduceBNe, Nat.reduceAdd, Nat.reduceMul, Nat.reduceEqDiff, Nat.reduceLeDiff, Nat.reduceLT, Nat.reduceBEq, reduceCtorEq, reduceIte, c6, hx11, lt_t hx11, lt_p hx11, nat_in (lt_n hx11) hlhx11, lt_f (row_3.length), c26, p27, g25_3, g25_5, g25_6, g25_7, g25_8, og25_0, og25_1, IV, sts_cons, sts_nil, obs_cons, obs_nil]
          · try simp only [go_sem, Int.reduceLT, Int.reduceLE, Int.reduceBEq, Int.reduceBNe, Nat.reduceBNe, Nat.reduceAdd, Nat.reduceMul, Nat.reduceEqDiff, Nat.reduceLeDiff, Nat.reduceLT, Nat.reduceBEq, reduceCtorEq, reduceIte, c6, hx11, lt_t hx11, lt_p hx11, nat_in (lt_n hx11) hlhx11, lt_f (row_3.length), c26, g25_3, g25_5, g25_6, g25_7, g25_8, og25_0, og25_1]
            refine ⟨_, [], [0, 1], (Option.some.inj h).symm, by decide, ?_⟩
            try simp only [go_sem, Int.reduceLT, Int.reduceLE, Int.reduceBEq, Int.reduceBNe, Nat.reduceBNe, Nat.reduceAdd, Nat.reduceMul, Nat.reduceEqDiff, Nat.reduceLeDiff, Nat.reduceLT, Nat.reduceBEq, reduceCtorEq, reduceIte, c6, hx11, lt_t hx11, lt_p hx11, nat_in (lt_n hx11) hlhx11, lt_f (row_3.length), c26, g25_3, g25_5, g25_6, g25_7, g25_8, og25_0, og25_1, IV, sts_cons, sts_nil, obs_cons, obs_nil]
      · rintro row_20 ⟨sl, ob, n⟩ hI28 hW29 h
        simp only [IV, sts_cons, sts_nil, obs_cons, obs_nil, and_true, true_and, Nat.reduceAdd, str_len] at hI28
        obtain ⟨⟨g30_3, g30_5, g30_6⟩, og30_0, og30_1, hn⟩ := hI28
        subst hn
        replace h := inr_K h hy1
        obtain rfl := Option.some.inj h
        try simp only [go_sem, Int.reduceLT, Int.reduceLE, Int.reduceBEq, Int.reduceBNe, Nat.reduceBNe, Nat.reduceAdd, Nat.reduceMul, Nat.reduceEqDiff, Nat.reduceLeDiff, Nat.reduceLT, Nat.reduceBEq, reduceCtorEq, reduceIte, c6, lt_f (row_3.length), g30_3, g30_5, g30_6, og30_0, og30_1]
end Go.Proofs.Ytfbonanbiblkbaa

namespace Go.Proofs.Ytfbonanbiblkbaa
open Go.Proofs.Try
set_option linter.unusedSimpArgs false
set_option linter.unusedVariables false
set_option maxRecDepth 1000000
set_option maxHeartbeats 4000000
theorem w_FnGreatest_ok {code_0 : (List Int)} {r : Bool} (h : w_FnGreatest code_0 = some r) : Sound Try.prog J0 7 [(false, [.sl 5 1 (List.map eByte code_0)])] [(false, [(false, .bool r)])] := by
  refine fnk Try.func7 (by kernel_rfl) rfl (by kernel_rfl) (by kernel_rfl) ?_
  unfold w_FnGreatest at h
  simp only [fnS, f7, argSt, go_sem, Int.reduceLT, Int.reduceLE, Int.reduceBEq, Int.reduceBNe, Nat.reduceBNe, Nat.reduceAdd, Nat.reduceMul, Nat.reduceEqDiff, Nat.reduceLeDiff, Nat.reduceLT, Nat.reduceBEq, reduceCtorEq, reduceIte]
  obtain ⟨v1, e1, h⟩ := bind_K h
  refine call_K (by first | exact w_big_ok e1 | simpa only [go_sem, Int.reduceLT, Int.reduceLE, Int.reduceBEq, Int.reduceBNe, Nat.reduceBNe, Nat.reduceAdd, Nat.reduceMul, Nat.reduceEqDiff, Nat.reduceLeDiff, Nat.reduceLT, Nat.reduceBEq, reduceCtorEq, reduceIte] using w_big_ok e1) ?_
  try simp only [go_sem, Int.reduceLT, Int.reduceLE, Int.reduceBEq, Int.reduceBNe, Nat.reduceBNe, Nat.reduceAdd, Nat.reduceMul, Nat.reduceEqDiff, Nat.reduceLeDiff, Nat.reduceLT, Nat.reduceBEq, reduceCtorEq, reduceIte]
  refine ite_K h (fun c2 h => ?_) (fun c2 h => ?_)
  · obtain rfl := Option.some.inj h
    try simp only [go_sem, Int.reduceLT, Int.reduceLE, Int.reduceBEq, Int.reduceBNe, Nat.reduceBNe, Nat.reduceAdd, Nat.reduceMul, Nat.reduceEqDiff, Nat.reduceLeDiff, Nat.reduceLT, Nat.reduceBEq, reduceCtorEq, reduceIte, c2]
  · try simp only [go_sem, Int.reduceLT, Int.reduceLE, Int.reduceBEq, Int.reduceBNe, Nat.reduceBNe, Nat.reduceAdd, Nat.reduceMul, Nat.reduceEqDiff, Nat.reduceLeDiff, Nat.reduceLT, Nat.reduceBEq, reduceCtorEq, reduceIte, c2]
    obtain ⟨v2, e3, h⟩ := bind_K h
    refine call_K (by first | exact s_DrawGoodFrame_ok e3 | simpa only [go_sem, Int.reduceLT, Int.reduceLE, Int.reduceBEq, Int.reduceBNe, Nat.reduceBNe, Nat.reduceAdd, Nat.reduceMul, Nat.reduceEqDiff, Nat.reduceLeDiff, Nat.reduceLT, Nat.reduceBEq, reduceCtorEq, reduceIte, c2] using s_DrawGoodFrame_ok e3) ?_
    try simp only [go_sem, Int.reduceLT, Int.reduceLE, Int.reduceBEq, Int.reduceBNe, Nat.reduceBNe, Nat.reduceAdd, Nat.reduceMul, Nat.reduceEqDiff, Nat.reduceLeDiff, Nat.reduceLT, Nat.reduceBEq, reduceCtorEq, reduceIte, c2]
    obtain ⟨v3, e4, h⟩ := bind_K h
    refine call_K (by first | exact i_NogoodsOf_ok e4 | simpa only [go_sem, Int.reduceLT, Int.reduceLE, Int.reduceBEq, Int.reduceBNe, Nat.reduceBNe, Nat.reduceAdd, Nat.reduceMul, Nat.reduceEqDiff, Nat.reduceLeDiff, Nat.reduceLT, Nat.reduceBEq, reduceCtorEq, reduceIte, c2] using i_NogoodsOf_ok e4) ?_
    try simp only [go_sem, Int.reduceLT, Int.reduceLE, Int.reduceBEq, Int.reduceBNe, Nat.reduceBNe, Nat.reduceAdd, Nat.reduceMul, Nat.reduceEqDiff, Nat.reduceLeDiff, Nat.reduceLT, Nat.reduceBEq, reduceCtorEq, reduceIte, c2]
    obtain ⟨v4, e5, h⟩ := bind_K h
    refine call_K (by first | exact i_HittingSets_ok e5 | simpa only [go_sem, Int.reduceLT, Int.reduceLE, Int.reduceBEq, Int.reduceBNe, Nat.reduceBNe, Nat.reduceAdd, Nat.reduceMul, Nat.reduceEqDiff, Nat.reduceLeDiff, Nat.reduceLT, Nat.reduceBEq, reduceCtorEq, reduceIte, c2] using i_HittingSets_ok e5) ?_
    try simp only [go_sem, Int.reduceLT, Int.reduceLE, Int.reduceBEq, Int.reduceBNe, Nat.reduceBNe, Nat.reduceAdd, Nat.reduceMul, Nat.reduceEqDiff, Nat.reduceLeDiff, Nat.reduceLT, Nat.reduceBEq, reduceCtorEq, reduceIte, c2]
    obtain ⟨v5, e6, h⟩ := bind_K h
    refine call_K (by first | exact i_GreatestSets_ok e6 | simpa only [go_sem, Int.reduceLT, Int.reduceLE, Int.reduceBEq, Int.reduceBNe, Nat.reduceBNe, Nat.reduceAdd, Nat.reduceMul, Nat.reduceEqDiff, Nat.reduceLeDiff, Nat.reduceLT, Nat.reduceBEq, reduceCtorEq, reduceIte, c2] using i_GreatestSets_ok e6) ?_
    try simp only [go_sem, Int.reduceLT, Int.reduceLE, Int.reduceBEq, Int.reduceBNe, Nat.reduceBNe, Nat.reduceAdd, Nat.reduceMul, Nat.reduceEqDiff, Nat.reduceLeDiff, Nat.reduceLT, Nat.reduceBEq, reduceCtorEq, reduceIte, c2]
    obtain ⟨v6, e7, h⟩ := bind_K h
    refine call_K (by first | exact s_GreatestSets_ok e7 | simpa only [go_sem, Int.reduceLT, Int.reduceLE, Int.reduceBEq, Int.reduceBNe, Nat.reduceBNe, Nat.reduceAdd, Nat.reduceMul, Nat.reduceEqDiff, Nat.reduceLeDiff, Nat.reduceLT, Nat.reduceBEq, reduceCtorEq, reduceIte, c2] using s_GreatestSets_ok e7) ?_
    try simp only [go_sem, Int.reduceLT, Int.reduceLE, Int.reduceBEq, Int.reduceBNe, Nat.reduceBNe, Nat.reduceAdd, Nat.reduceMul, Nat.reduceEqDiff, Nat.reduceLeDiff, Nat.reduceLT, Nat.reduceBEq, reduceCtorEq, reduceIte, c2]
    refine ite_K h (fun c8 h => ?_) (fun c8 h => ?_)
    · obtain rfl := Option.some.inj h
      try simp only [go_sem, Int.reduceLT, Int.reduceLE, Int.reduceBEq, Int.reduceBNe, Nat.reduceBNe, Nat.reduceAdd, Nat.reduceMul, Nat.reduceEqDiff, Nat.reduceLeDiff, Nat.reduceLT, Nat.reduceBEq, reduceCtorEq, reduceIte, c2, c8]
    · try simp only [go_sem, Int.reduceLT, Int.reduceLE, Int.reduceBEq, Int.reduceBNe, Nat.reduceBNe, Nat.reduceAdd, Nat.reduceMul, Nat.reduceEqDiff, Nat.reduceLeDiff, Nat.reduceLT, Nat.reduceBEq, reduceCtorEq, reduceIte, c2, c8]
      refine ite_K h (fun c9 h => ?_) (fun c9 h => ?_)
      · obtain rfl := Option.some.inj h
        try simp only [go_sem, Int.reduceLT, Int.reduceLE, Int.reduceBEq, Int.reduceBNe, Nat.reduceBNe, Nat.reduceAdd, Nat.reduceMul, Nat.reduceEqDiff, Nat.reduceLeDiff, Nat.reduceLT, Nat.reduceBEq, reduceCtorEq, reduceIte, c2, c8, c9]
      · try simp only [go_sem, Int.reduceLT, Int.reduceLE, Int.reduceBEq, Int.reduceBNe, Nat.reduceBNe, Nat.reduceAdd, Nat.reduceMul, Nat.reduceEqDiff, Nat.reduceLeDiff, Nat.reduceLT, Nat.reduceBEq, reduceCtorEq, reduceIte, c2, c8, c9]
        refine swp_for h (fun i _ st => IV [(4, .p false [.c (.int .i64 ((v2.assumed.length : Nat) : Int))]), (5, .p false [.row 0]), (6, .p false [.row 1]), (7, .p false [.c (.int .i64 ((i : Nat) : Int))])] [.row 3 1 (List.map eInt v4) 2, .row 3 1 (List.map eInt v5) 2] st) [] [224, 272] (by decide) ?_ ?_ ?_
        · simp only [go_sem, Int.reduceLT, Int.reduceLE, Int.reduceBEq, Int.reduceBNe, Nat.reduceBNe, Nat.reduceAdd, Nat.reduceMul, Nat.reduceEqDiff, Nat.reduceLeDiff, Nat.reduceLT, Nat.reduceBEq, reduceCtorEq, reduceIte, IV, sts_cons, sts_nil, obs_cons, obs_nil, c2, c8, c9]
        · rintro i12 x13 ⟨⟩ ⟨sl, ob, n⟩ y10 hx11 hI12 hW13 h hy10
          simp only [IV, sts_cons, sts_nil, obs_cons, obs_nil, and_true, true_and, Nat.reduceAdd, str_len] at hI12
          obtain ⟨⟨g14_4, g14_5, g14_6, g14_7⟩, og14_0, og14_1, hn⟩ := hI12
          subst hn
          have hlhx11 := WF.rowL hW13 og14_0
          obtain ⟨p15, h⟩ := chk_K h
          try simp only [go_sem, Int.reduceLT, Int.reduceLE, Int.reduceBEq, Int.reduceBNe, Nat.reduceBNe, Nat.reduceAdd, Nat.reduceMul, Nat.reduceEqDiff, Nat.reduceLeDiff, Nat.reduceLT, Nat.reduceBEq, reduceCtorEq, reduceIte, c2, c8, c9, hx11, lt_t hx11, lt_p hx11, nat_in (lt_n hx11) hlhx11, p15, g14_4, g14_5, g14_6, g14_7, og14_0, og14_1]
          obtain ⟨v14, e16, h⟩ := bind_K h
          refine call_K (by first | exact w_hasInt_ok e16 | simpa only [go_sem, Int.reduceLT, Int.reduceLE, Int.reduceBEq, Int.reduceBNe, Nat.reduceBNe, Nat.reduceAdd, Nat.reduceMul, Nat.reduceEqDiff, Nat.reduceLeDiff, Nat.reduceLT, Nat.reduceBEq, reduceCtorEq, reduceIte, c2, c8, c9, hx11, lt_t hx11, lt_p hx11, nat_in (lt_n hx11) hlhx11, p15, g14_4, g14_5, g14_6, g14_7, og14_0, og14_1] using w_hasInt_ok e16) ?_
          try simp only [go_sem, Int.reduceLT, Int.reduceLE, Int.reduceBEq, Int.reduceBNe, Nat.reduceBNe, Nat.reduceAdd, Nat.reduceMul, Nat.reduceEqDiff, Nat.reduceLeDiff, Nat.reduceLT, Nat.reduceBEq, reduceCtorEq, reduceIte, c2, c8, c9, hx11, lt_t hx11, lt_p hx11, nat_in (lt_n hx11) hlhx11, p15, g14_4, g14_5, g14_6, g14_7, og14_0, og14_1]
          refine ite_K h (fun c17 h => ?_) (fun c17 h => ?_)
          · try simp only [go_sem, Int.reduceLT, Int.reduceLE, Int.reduceBEq, Int.reduceBNe, Nat.reduceBNe, Nat.reduceAdd, Nat.reduceMul, Nat.reduceEqDiff, Nat.reduceLeDiff, Nat.reduceLT, Nat.reduceBEq, reduceCtorEq, reduceIte, c2, c8, c9, hx11, lt_t hx11, lt_p hx11, nat_in (lt_n hx11) hlhx11, p15, c17, g14_4, g14_5, g14_6, g14_7, og14_0, og14_1]
            refine ⟨_, [], [0, 1], (Option.some.inj h).symm, by decide, ?_⟩
            try simp only [go_sem, Int.reduceLT, Int.reduceLE, Int.reduceBEq, Int.reduceBNe, Nat.reduceBNe, Nat.reduceAdd, Nat.reduceMul, Nat.reduceEqDiff, Nat.reduceLeDiff, Nat.reduceLT, Nat.reduceBEq, reduceCtorEq, reduceIte, c2, c8, c9, hx11, lt_t hx11, lt_p hx11, nat_in (lt_n hx11) hlhx11, p15, c17, g14_4, g14_5, g14_6, g14_7, og14_0, og14_1, IV, sts_cons, sts_nil, obs_cons, obs_nil]
          · replace h := inr_K h hy10
            obtain rfl := Option.some.inj h
            try simp only [go_sem, Int.reduceLT, Int.reduceLE, Int.reduceBEq, Int.reduceBNe, Nat.reduceBNe, Nat.reduceAdd, Nat.reduceMul, Nat.reduceEqDiff, Nat.reduceLeDiff, Nat.reduceLT, Nat.reduceBEq, reduceCtorEq, reduceIte, c2, c8, c9, hx11, lt_t hx11, lt_p hx11, nat_in (lt_n hx11) hlhx11, p15, c17, g14_4, g14_5, g14_6, g14_7, og14_0, og14_1]
        · rintro ⟨⟩ ⟨sl, ob, n⟩ hI18 hW19 h
          simp only [IV, sts_cons, sts_nil, obs_cons, obs_nil, and_true, true_and, Nat.reduceAdd, str_len] at hI18
          obtain ⟨⟨g20_4, g20_5, g20_6, g20_7⟩, og20_0, og20_1, hn⟩ := hI18
          subst hn
          obtain rfl := Option.some.inj h
          try simp only [go_sem, Int.reduceLT, Int.reduceLE, Int.reduceBEq, Int.reduceBNe, Nat.reduceBNe, Nat.reduceAdd, Nat.reduceMul, Nat.reduceEqDiff, Nat.reduceLeDiff, Nat.reduceLT, Nat.reduceBEq, reduceCtorEq, reduceIte, c2, c8, c9, lt_f (v4.length), g20_4, g20_5, g20_6, g20_7, og20_0, og20_1]
end Go.Proofs.Ytfbonanbiblkbaa

namespace Go.Proofs.Ytfbonanbiblkbaa
open Go.RowKit
/-- a codec and trees say the same -/
structure Enc {α : Type} (c : Codec α) (f : α → List CT) : Prop where
  to : ∀ {w : World} {cs : List Value} {x : α} {L : List Nat}, c.rep w cs x L → RCs w (f x) cs L
  of : ∀ {w : World} {cs : List Value} {x : α} {L : List Nat}, RCs w (f x) cs L → c.rep w cs x L
section
variable {α : Type} {c : Codec α} {f : α → List CT} {w : World}
theorem Enc.reps (h : Enc c f) : ∀ {ds : List α} {xs : List Value} {L : List Nat}, c.reps w xs ds L → REs w c.size (ds.map f) xs L
  | [], _, _, h1 => h1
  | _ :: _, _, _, ⟨c1, c2, L1, L2, h1, h2, h3, h4⟩ => ⟨c1, c2, L1, L2, h1, h2, ⟨h.to h3, c.len h3⟩, h.reps h4⟩
theorem Enc.reps_of (h : Enc c f) : ∀ {ds : List α} {xs : List Value} {L : List Nat}, REs w c.size (ds.map f) xs L → c.reps w xs ds L
  | [], _, _, h1 => h1
  | _ :: _, _, _, ⟨c1, c2, L1, L2, h1, h2, h3, h4⟩ => ⟨c1, c2, L1, L2, h1, h2, h.of h3.1, h.reps_of h4⟩
theorem Enc.sl (h : Enc c f) (e : Nat) {v : Value} {ds : List α} {L : List Nat} : (sliceC c).rep w [v] ds L ↔ RC w (.sl e c.size (ds.map f)) v L := by
  constructor
  · rintro ⟨A, cap, hv, h1, h2, xs, L0, L1, hL, h3, h4⟩
    obtain rfl : v = _ := by simpa using hv
    exact ⟨A, cap, xs, L0, L1, by simp, by simpa using h1, h2, hL, c.pos, by simpa using h3, h.reps h4⟩
  · rintro ⟨A, cap, xs, L0, L1, hv, h1, h2, hL, h0, h3, h4⟩
    exact ⟨A, cap, by simpa using hv, by simpa using h1, h2, xs, L0, L1, hL, by simpa using h3, h.reps_of h4⟩
theorem RCs.solo {x : CT} {v : Value} {L : List Nat} (h : RC w x v L) : RCs w [x] [v] L := ⟨v, [], L, [], rfl, by simp, h, rfl, rfl⟩
theorem RCs.more {x : CT} {v : Value} {L M : List Nat} {r : List CT} {cs : List Value} (h : RC w x v L) (k : RCs w r cs M) : RCs w (x :: r) (v :: cs) (L ++ M) := ⟨v, cs, L, M, rfl, rfl, h, k⟩
theorem Enc.slice (h : Enc c f) (e : Nat) : Enc (sliceC c) (fun l => [.sl e c.size (l.map f)]) where
  to := fun {w cs x L} hr => by
    obtain ⟨A, cap, rfl, h1⟩ := id hr
    exact RCs.solo ((h.sl e).1 hr)
  of := fun {w cs x L} hr => by
    obtain ⟨v, cs', L1, L2, rfl, rfl, h1, rfl, rfl⟩ := hr
    rw [List.append_nil]
    exact (h.sl e).2 h1
end
theorem encInt : Enc intC eInt where
  to := fun ⟨h1, h2⟩ => by subst h1; subst h2; exact RCs.solo ⟨rfl, rfl⟩
  of := fun ⟨v, cs', L1, L2, h1, h2, h3, h4, h5⟩ => by
    obtain ⟨rfl, rfl⟩ := h3
    subst h4; subst h5; exact ⟨h1, h2⟩
theorem encByte : Enc byteC eByte where
  to := fun ⟨h1, h2⟩ => by subst h1; subst h2; exact RCs.solo ⟨rfl, rfl⟩
  of := fun ⟨v, cs', L1, L2, h1, h2, h3, h4, h5⟩ => by
    obtain ⟨rfl, rfl⟩ := h3
    subst h4; subst h5; exact ⟨h1, h2⟩
theorem encBool : Enc boolC eBool where
  to := fun ⟨h1, h2⟩ => by subst h1; subst h2; exact RCs.solo ⟨rfl, rfl⟩
  of := fun ⟨v, cs', L1, L2, h1, h2, h3, h4, h5⟩ => by
    obtain ⟨rfl, rfl⟩ := h3
    subst h4; subst h5; exact ⟨h1, h2⟩
theorem encStr : Enc strC eStr where
  to := fun ⟨h1, h2, h3⟩ => by subst h1; subst h2; exact RCs.solo ⟨rfl, rfl, h3⟩
  of := fun ⟨v, cs', L1, L2, h1, h2, h3, h4, h5⟩ => by
    obtain ⟨rfl, rfl, t⟩ := h3
    subst h4; subst h5; exact ⟨h1, h2, t⟩
/-- an argument; nothing is written to in the meantime -/
def Arg0 (w : World) : Bool × List CT → Value → Prop := ArgR w fun _ => False
theorem arg_sl {α : Type} {c : Codec α} {f : α → List CT} (h : Enc c f) (e : Nat) {w : World} {v : Value} {ds : List α} {L : List Nat} (hr : (sliceC c).rep w [v] ds L) : Arg0 w (false, [.sl e c.size (ds.map f)]) v := .inr ⟨rfl, _, L, rfl, (h.sl e).1 hr, fun _ _ h => h⟩
theorem arg_int (w : World) (n : Int) : Arg0 w (false, [.int .i64 n]) (.int .i64 n) := .inr ⟨rfl, _, [], rfl, ⟨rfl, rfl⟩, fun _ _ h => h⟩
theorem arg_bool (w : World) (b : Bool) : Arg0 w (false, [.bool b]) (.bool b) := .inr ⟨rfl, _, [], rfl, ⟨rfl, rfl⟩, fun _ _ h => h⟩
theorem arg_str (w : World) (s : ByteArray) (h : s.size ≤ 9223372036854775807) : Arg0 w (false, [.str s]) (.string s) := .inr ⟨rfl, _, [], rfl, ⟨rfl, rfl, h⟩, fun _ _ h => h⟩
theorem arg_agg {α : Type} {c : Codec α} {f : α → List CT} (h : Enc c f) {w : World} {vs : List Value} {x : α} {L : List Nat} (hr : c.rep w vs x L) : Arg0 w (true, f x) (.agg vs.toArray) := .inl ⟨rfl, vs, L, rfl, h.to hr, fun _ _ h => h⟩
section
variable {w w' : World} {v : Value} {e : Ending}
theorem res_one {B : Nat} {n : Nat → Prop} {x : RT} (h : ResR w B n [x] v) : ∃ F, OP w B n x v F ∧ Own w B F := by
  obtain ⟨vs, F, ⟨u, vs', F1, F2, rfl, rfl, h1, rfl, rfl⟩, h2, rfl⟩ := h
  rw [List.append_nil] at h2
  exact ⟨F1, by simpa using h1, h2⟩
theorem res_sl {α : Type} {c : Codec α} {f : α → List CT} (h : Enc c f) {t : Nat} {ds : List α} {n : Nat → Prop} (hr : ResR w' w.heap.size n [(false, [(false, .sl t c.size (ds.map f))])] v) (hb : Below w.heap.size w w') : AccC c t w v ds w' := by
  obtain ⟨F, h1, h2⟩ := res_one hr
  rcases h1 with ⟨h1, _⟩ | ⟨_, ct, h1, h3⟩
  · simp at h1
  · obtain rfl : _ = ct := by simpa using h1
    obtain ⟨_, cs, L, h4, h5, rfl, _⟩ := h3
    exact ⟨⟨cs, L, by simpa using h4, h.reps_of h5, h2⟩, hb⟩
theorem res_int {n : Int} {B : Nat} {m : Nat → Prop} (hr : ResR w B m [(false, [(false, .int .i64 n)])] v) : v = .int .i64 n := by
  obtain ⟨F, h1, h2⟩ := res_one hr
  rcases h1 with ⟨h1, _⟩ | ⟨_, ct, h1, h3⟩
  · simp at h1
  · obtain rfl : _ = ct := by simpa using h1
    exact h3.1.1
theorem res_bool {b : Bool} {B : Nat} {m : Nat → Prop} (hr : ResR w B m [(false, [(false, .bool b)])] v) : v = .bool b := by
  obtain ⟨F, h1, h2⟩ := res_one hr
  rcases h1 with ⟨h1, _⟩ | ⟨_, ct, h1, h3⟩
  · simp at h1
  · obtain rfl : _ = ct := by simpa using h1
    exact h3.1.1
theorem res_str {s : ByteArray} {B : Nat} {m : Nat → Prop} (hr : ResR w B m [(false, [(false, .str s)])] v) : v = .string s := by
  obtain ⟨F, h1, h2⟩ := res_one hr
  rcases h1 with ⟨h1, _⟩ | ⟨_, ct, h1, h3⟩
  · simp at h1
  · obtain rfl : _ = ct := by simpa using h1
    exact h3.1.1
/-- a slice that is only lent: what it leads to lies in the world -/
theorem res_lent {α : Type} {c : Codec α} {f : α → List CT} (h : Enc c f) {t B : Nat} {ds : List α} {n : Nat → Prop} (hr : ResR w B n [(false, [(true, .sl t c.size (ds.map f))])] v) : ∃ L, (sliceC c).rep w [v] ds L := by
  obtain ⟨F, h1, h2⟩ := res_one hr
  rcases h1 with ⟨h1, _⟩ | ⟨_, ct, h1, h3⟩
  · simp at h1
  · obtain rfl : _ = ct := by simpa using h1
    obtain ⟨_, L, h4, _⟩ := h3
    exact ⟨L, (h.sl t).2 h4⟩
end
section
variable {P : Program} {J : World → Prop} {f : FuncId} {args : List (Bool × List CT)} {res : List RT}
theorem Sound.calls (h : Sound P J f args res) {w : World} {vs : List Value} (hj : J w) (ha : All2 (Arg0 w) args vs) : Calls P f vs.toArray w fun e w' => ∃ v n, e = .returned v ∧ ResR w' w.heap.size n res v ∧ Below w.heap.size w w' :=
  (h.2 w (fun _ => False) vs hj (fun _ h => h.elim) ha).mono fun _ _ ⟨v, n, h1, h2, _, h3⟩ => ⟨v, n, h1, h2, h3⟩
/-- a slice as the result -/
theorem Sound.givesS {α : Type} {c : Codec α} {g : α → List CT} {t : Nat} {ds : List α} (h : Sound P J f args [(false, [(false, .sl t c.size (ds.map g))])]) (hg : Enc c g) {w : World} {vs : List Value} (hj : J w) (ha : All2 (Arg0 w) args vs) : Calls P f vs.toArray w (GivesS c t w ds) :=
  (h.calls hj ha).mono fun _ _ ⟨v, _, h1, h2, h3⟩ => ⟨v, h1, res_sl hg h2 h3⟩
theorem Sound.givesB {b : Bool} (h : Sound P J f args [(false, [(false, .bool b)])]) {w : World} {vs : List Value} (hj : J w) (ha : All2 (Arg0 w) args vs) : Calls P f vs.toArray w fun e w' => e = .returned (.bool b) ∧ Below w.heap.size w w' :=
  (h.calls hj ha).mono fun _ _ ⟨v, _, h1, h2, h3⟩ => ⟨by rw [h1, res_bool h2], h3⟩
theorem Sound.givesI {b : Int} (h : Sound P J f args [(false, [(false, .int .i64 b)])]) {w : World} {vs : List Value} (hj : J w) (ha : All2 (Arg0 w) args vs) : Calls P f vs.toArray w fun e w' => e = .returned (.int .i64 b) ∧ Below w.heap.size w w' :=
  (h.calls hj ha).mono fun _ _ ⟨v, _, h1, h2, h3⟩ => ⟨by rw [h1, res_int h2], h3⟩
theorem Sound.givesT {b : ByteArray} (h : Sound P J f args [(false, [(false, .str b)])]) {w : World} {vs : List Value} (hj : J w) (ha : All2 (Arg0 w) args vs) : Calls P f vs.toArray w fun e w' => e = .returned (.string b) ∧ Below w.heap.size w w' :=
  (h.calls hj ha).mono fun _ _ ⟨v, _, h1, h2, h3⟩ => ⟨by rw [h1, res_str h2], h3⟩
end
end Go.Proofs.Ytfbonanbiblkbaa

namespace Go.Proofs.Ytfbonanbiblkbaa
open Go.RowKit Go.Deep

def Opens {α : Type} (P : Program) (t : TypeId) (c : Codec α) (wf : α → Prop) : Prop :=
  ∀ {H : Type} {enc : TypeId × Value → H} {w : World} {base : Nat} {spare : Nat → Bool} {held : Bool} {fuel : Nat} {cs : List Value} {x : DataW H × List MemPlace},
    DataW.trod enc P w base spare held fuel t cs = some x → ∃ d L, c.rep w cs d L ∧ wf d

theorem opens_byte {P : Program} {t : TypeId} (ht : P.underlying t = some (.int .u8)) : Opens P t byteC (fun n => 0 ≤ n ∧ n ≤ 255) := by
  intro H enc w base spare held fuel cs x h
  obtain ⟨n, rfl, _, hw⟩ := DataW.trod_int ht h
  refine ⟨n, [], ⟨rfl, rfl⟩, ?_⟩
  simp [Lit.wf, IntKind.min, IntKind.max, IntKind.signed, IntKind.bits] at hw
  exact ⟨by omega, by omega⟩
theorem opens_slice {α : Type} {c : Codec α} {wf : α → Prop} {P : Program} {t e : TypeId} (ht : P.underlying t = some (.slice e)) (hc : P.cellsOf e = c.size) (ho : Opens P e c wf) : Opens P t (sliceC c) (fun ds => ∀ d ∈ ds, wf d) := by
  intro H enc w base spare held fuel cs x h
  rcases open_slice ht h with ⟨rfl, _⟩ | ⟨a, len, cap, m, n, D, Pl, rfl, hb, hl, hm, hmm, _, hx⟩
  · exact ⟨[], [], ⟨none, 0, rfl, Nat.le_refl _, Nat.zero_le _, Sli.nil _ _⟩, by simp⟩
  · have hlm : len ≤ m := by rw [hmm]; split <;> omega
    have key : ∀ q, q ≤ len → ∃ (xs : List Value) (ds : List α) (L : List Nat), ds.length = q ∧ (∀ j u, xs[j]? = some u → w.cell? (a.add j) = some u) ∧ c.reps w xs ds L ∧ ∀ d ∈ ds, wf d := by
      intro q
      induction q with
      | zero => exact fun _ => ⟨[], [], [], rfl, by simp, ⟨rfl, rfl⟩, by simp⟩
      | succ q ih =>
        intro hq
        obtain ⟨xs, ds, L, hd, hcell, hr, hwf⟩ := ih (by omega)
        obtain ⟨cs', h1, h2⟩ := hx q (by omega)
        obtain ⟨d, Lq, hrep, hwd⟩ := ho h2
        obtain ⟨_, hlen, hat⟩ := World.cells?_some h1
        refine ⟨xs ++ cs', ds ++ [d], L ++ Lq, by simp [hd], fun j u hu => ?_, reps_append hr (reps_one_of hrep), ?_⟩
        · have hxl : xs.length = q * c.size := by rw [reps_len hr, hd]
          rw [List.getElem?_append] at hu
          split at hu
          · exact hcell j u hu
          · rename_i hj
            have hj2 := (List.getElem?_eq_some_iff.1 hu).1
            have := hat (j - xs.length) (by omega)
            rw [← hu, ← this, Go.Deep.add_add, hc, ← hxl]
            congr 2
            omega
        · intro y hy
          rcases List.mem_append.1 hy with hy | hy
          · exact hwf y hy
          · simp at hy; subst hy; exact hwd
    obtain ⟨xs, ds, L, hd, hcell, hr, hwf⟩ := key len (Nat.le_refl _)
    have hxl := reps_len hr
    rcases Nat.eq_zero_or_pos len with h0 | h0
    · have : ds = [] := List.eq_nil_of_length_eq_zero (by omega)
      subst this
      refine ⟨[], [], ⟨some a, cap, by simp at hd; rw [← hd]; rfl, by simp, hm, Sli.nil _ _⟩, by simp⟩
    · obtain ⟨b, off, sp⟩ := a
      have hp : 0 < xs.length := by rw [hxl, hd]; exact Nat.mul_pos h0 c.pos
      have hsp : sp = none := by
        have h1 := hcell 0 _ (List.getElem?_eq_getElem hp)
        have e : (⟨b, off, sp⟩ : Addr).add 0 = ⟨b, off, sp⟩ := by simp [Addr.add]
        rw [e] at h1
        cases sp with
        | none => rfl
        | some q =>
          simp only [World.cell?] at h1
          split at h1 <;> simp at h1
      subst hsp
      refine ⟨ds, [b] ++ L, ⟨some ⟨b, off, none⟩, cap, by rw [hd], by omega, hm, xs, [b], L, rfl, ⟨by rw [hxl], .inr ⟨by omega, b, off, rfl, rfl, fun j u hu => ?_⟩⟩, hr⟩, hwf⟩
      have := hcell j u hu
      rwa [add_lit0] at this

end Go.Proofs.Ytfbonanbiblkbaa

namespace Go.Proofs.Ytfbonanbiblkbaa
open Go.RowKit

theorem FnGreatest_walk (w : World) (A : Option Addr) (c : Nat) (code : List Int) (L : List Nat) (h : (sliceC byteC).rep w [.slice A code.length c] code L) :
    Calls Try.prog 7 #[.slice A code.length c] w (fun e w' => e = .returned (.bool true) ∧ Below w.heap.size w w') :=
  Sound.givesB (w_FnGreatest_ok (FnGreatest_plain code)) trivial (vs := [_]) ⟨arg_sl encByte _ h, trivial⟩

end Go.Proofs.Ytfbonanbiblkbaa
