/- Texts of this proof, joined: Dp1, Dp5, Dp4, Dp2, Dp6, Dp8, Dp3, Dp10, Dp12, Dp13, Dp16, Dp15, Dp17, Dp19, BStd, DE, Sz, To, Eq, Mk. What each holds is said at its theorems. -/
import Derived.Test.YtccbhhglghboaaaLabelForQ3
import Derived.Test.YtccbhhglghboaaaLabelForQ2
import Derived.Test.YtccbhhglghboaaaLabelForQ1
import Derived.Test.YtccbhhglghboaaaProg
import Derived.Outline
import Derived.WalkSpells
import Derived.StillTailTactics
set_option linter.unusedSimpArgs false
set_option linter.unusedVariables false
namespace Go.Proofs.Ytccbhhglghboaaa
open Go.Proofs.Try
set_option linter.unusedSimpArgs false
set_option linter.unusedVariables false
set_option maxRecDepth 1000000
set_option maxHeartbeats 4000000
theorem s_l13Put_ok {l_0 : (List Int)} {x_1 : Int} {r : (List Int)} (h : s_l13Put l_0 x_1 = some r) : Sound Try.prog J0 115 [(false, [.sl 3 1 (List.map eInt l_0)]), (false, [.int .i64 x_1])] [(false, [(false, .sl 3 1 (List.map eInt r))])] := by
  refine fnk Try.func115 (by kernel_rfl) rfl (by kernel_rfl) (by kernel_rfl) ?_
  unfold s_l13Put at h
  simp only [fnS, f115, argSt, go_sem, Int.reduceLT, Int.reduceLE, Int.reduceBEq, Int.reduceBNe, Nat.reduceBNe, Nat.reduceAdd, Nat.reduceMul, Nat.reduceEqDiff, Nat.reduceLeDiff, Nat.reduceLT, Nat.reduceBEq, reduceCtorEq, reduceIte]
  refine swp_for h (fun i s st => match s with | (row_2, done_3) => IV [(0, .p false [.c (.sl 3 1 (List.map eInt l_0))]), (1, .p false [.c (.int .i64 x_1)]), (5, .p false [.row 0]), (6, .p false [.c (.bool done_3)]), (7, .p false [.c (.int .i64 ((i : Nat) : Int))])] [.row 3 1 (List.map eInt row_2) 2] st) [] [16] (by decide) ?_ ?_ ?_
  · simp only [go_sem, Int.reduceLT, Int.reduceLE, Int.reduceBEq, Int.reduceBNe, Nat.reduceBNe, Nat.reduceAdd, Nat.reduceMul, Nat.reduceEqDiff, Nat.reduceLeDiff, Nat.reduceLT, Nat.reduceBEq, reduceCtorEq, reduceIte, IV, sts_cons, sts_nil, obs_cons, obs_nil]
  · rintro i7 x8 ⟨row_2, done_3⟩ ⟨sl, ob, n⟩ y1 hx2 hI3 hW4 h hy1
    simp only [IV, sts_cons, sts_nil, obs_cons, obs_nil, and_true, true_and, Nat.reduceAdd, str_len] at hI3
    obtain ⟨⟨g5_0, g5_1, g5_5, g5_6, g5_7⟩, og5_0, hn⟩ := hI3
    subst hn
    have hlhx2 := WF.slotL hW4 g5_0 (j := 0) rfl
    try simp only [go_sem, Int.reduceLT, Int.reduceLE, Int.reduceBEq, Int.reduceBNe, Nat.reduceBNe, Nat.reduceAdd, Nat.reduceMul, Nat.reduceEqDiff, Nat.reduceLeDiff, Nat.reduceLT, Nat.reduceBEq, reduceCtorEq, reduceIte, hx2, lt_t hx2, lt_p hx2, nat_in (lt_n hx2) hlhx2, g5_0, g5_1, g5_5, g5_6, g5_7, og5_0]
    refine ite_K h (fun c6 h => ?_) (fun c6 h => ?_)
    · obtain ⟨p7, h⟩ := chk_K h
      try simp only [Nat.reduceLeDiff] at p7
      try simp only [go_sem, Int.reduceLT, Int.reduceLE, Int.reduceBEq, Int.reduceBNe, Nat.reduceBNe, Nat.reduceAdd, Nat.reduceMul, Nat.reduceEqDiff, Nat.reduceLeDiff, Nat.reduceLT, Nat.reduceBEq, reduceCtorEq, reduceIte, hx2, lt_t hx2, lt_p hx2, nat_in (lt_n hx2) hlhx2, c6, p7, g5_0, g5_1, g5_5, g5_6, g5_7, og5_0]
      refine ⟨_, [], [321], (Option.some.inj h).symm, by decide, ?_⟩
      try simp only [go_sem, Int.reduceLT, Int.reduceLE, Int.reduceBEq, Int.reduceBNe, Nat.reduceBNe, Nat.reduceAdd, Nat.reduceMul, Nat.reduceEqDiff, Nat.reduceLeDiff, Nat.reduceLT, Nat.reduceBEq, reduceCtorEq, reduceIte, hx2, lt_t hx2, lt_p hx2, nat_in (lt_n hx2) hlhx2, c6, p7, g5_0, g5_1, g5_5, g5_6, g5_7, og5_0, IV, sts_cons, sts_nil, obs_cons, obs_nil]
    · try simp only [go_sem, Int.reduceLT, Int.reduceLE, Int.reduceBEq, Int.reduceBNe, Nat.reduceBNe, Nat.reduceAdd, Nat.reduceMul, Nat.reduceEqDiff, Nat.reduceLeDiff, Nat.reduceLT, Nat.reduceBEq, reduceCtorEq, reduceIte, hx2, lt_t hx2, lt_p hx2, nat_in (lt_n hx2) hlhx2, c6, g5_0, g5_1, g5_5, g5_6, g5_7, og5_0]
      refine ite_K h (fun c8 h => ?_) (fun c8 h => ?_)
      · try simp only [go_sem, Int.reduceLT, Int.reduceLE, Int.reduceBEq, Int.reduceBNe, Nat.reduceBNe, Nat.reduceAdd, Nat.reduceMul, Nat.reduceEqDiff, Nat.reduceLeDiff, Nat.reduceLT, Nat.reduceBEq, reduceCtorEq, reduceIte, hx2, lt_t hx2, lt_p hx2, nat_in (lt_n hx2) hlhx2, c6, c8, g5_0, g5_1, g5_5, g5_6, g5_7, og5_0]
        refine ite_K h (fun c9 h => ?_) (fun c9 h => ?_)
        · obtain ⟨p10, h⟩ := chk_K h
          try simp only [Nat.reduceLeDiff] at p10
          obtain ⟨p11, h⟩ := chk_K h
          try simp only [Nat.reduceLeDiff] at p11
          try simp only [go_sem, Int.reduceLT, Int.reduceLE, Int.reduceBEq, Int.reduceBNe, Nat.reduceBNe, Nat.reduceAdd, Nat.reduceMul, Nat.reduceEqDiff, Nat.reduceLeDiff, Nat.reduceLT, Nat.reduceBEq, reduceCtorEq, reduceIte, hx2, lt_t hx2, lt_p hx2, nat_in (lt_n hx2) hlhx2, c6, c8, c9, p10, p11, g5_0, g5_1, g5_5, g5_6, g5_7, og5_0]
          refine ⟨_, [], [513], (Option.some.inj h).symm, by decide, ?_⟩
          try simp only [go_sem, Int.reduceLT, Int.reduceLE, Int.reduceBEq, Int.reduceBNe, Nat.reduceBNe, Nat.reduceAdd, Nat.reduceMul, Nat.reduceEqDiff, Nat.reduceLeDiff, Nat.reduceLT, Nat.reduceBEq, reduceCtorEq, reduceIte, hx2, lt_t hx2, lt_p hx2, nat_in (lt_n hx2) hlhx2, c6, c8, c9, p10, p11, g5_0, g5_1, g5_5, g5_6, g5_7, og5_0, IV, sts_cons, sts_nil, obs_cons, obs_nil]
        · obtain ⟨p12, h⟩ := chk_K h
          try simp only [Nat.reduceLeDiff] at p12
          try simp only [go_sem, Int.reduceLT, Int.reduceLE, Int.reduceBEq, Int.reduceBNe, Nat.reduceBNe, Nat.reduceAdd, Nat.reduceMul, Nat.reduceEqDiff, Nat.reduceLeDiff, Nat.reduceLT, Nat.reduceBEq, reduceCtorEq, reduceIte, hx2, lt_t hx2, lt_p hx2, nat_in (lt_n hx2) hlhx2, c6, c8, c9, p12, g5_0, g5_1, g5_5, g5_6, g5_7, og5_0]
          refine ⟨_, [], [433], (Option.some.inj h).symm, by decide, ?_⟩
          try simp only [go_sem, Int.reduceLT, Int.reduceLE, Int.reduceBEq, Int.reduceBNe, Nat.reduceBNe, Nat.reduceAdd, Nat.reduceMul, Nat.reduceEqDiff, Nat.reduceLeDiff, Nat.reduceLT, Nat.reduceBEq, reduceCtorEq, reduceIte, hx2, lt_t hx2, lt_p hx2, nat_in (lt_n hx2) hlhx2, c6, c8, c9, p12, g5_0, g5_1, g5_5, g5_6, g5_7, og5_0, IV, sts_cons, sts_nil, obs_cons, obs_nil]
      · obtain ⟨p13, h⟩ := chk_K h
        try simp only [Nat.reduceLeDiff] at p13
        try simp only [go_sem, Int.reduceLT, Int.reduceLE, Int.reduceBEq, Int.reduceBNe, Nat.reduceBNe, Nat.reduceAdd, Nat.reduceMul, Nat.reduceEqDiff, Nat.reduceLeDiff, Nat.reduceLT, Nat.reduceBEq, reduceCtorEq, reduceIte, hx2, lt_t hx2, lt_p hx2, nat_in (lt_n hx2) hlhx2, c6, c8, p13, g5_0, g5_1, g5_5, g5_6, g5_7, og5_0]
        refine ⟨_, [], [321], (Option.some.inj h).symm, by decide, ?_⟩
        try simp only [go_sem, Int.reduceLT, Int.reduceLE, Int.reduceBEq, Int.reduceBNe, Nat.reduceBNe, Nat.reduceAdd, Nat.reduceMul, Nat.reduceEqDiff, Nat.reduceLeDiff, Nat.reduceLT, Nat.reduceBEq, reduceCtorEq, reduceIte, hx2, lt_t hx2, lt_p hx2, nat_in (lt_n hx2) hlhx2, c6, c8, p13, g5_0, g5_1, g5_5, g5_6, g5_7, og5_0, IV, sts_cons, sts_nil, obs_cons, obs_nil]
  · rintro ⟨row_2, done_3⟩ ⟨sl, ob, n⟩ hI14 hW15 h
    simp only [IV, sts_cons, sts_nil, obs_cons, obs_nil, and_true, true_and, Nat.reduceAdd, str_len] at hI14
    obtain ⟨⟨g16_0, g16_1, g16_5, g16_6, g16_7⟩, og16_0, hn⟩ := hI14
    subst hn
    try simp only [go_sem, Int.reduceLT, Int.reduceLE, Int.reduceBEq, Int.reduceBNe, Nat.reduceBNe, Nat.reduceAdd, Nat.reduceMul, Nat.reduceEqDiff, Nat.reduceLeDiff, Nat.reduceLT, Nat.reduceBEq, reduceCtorEq, reduceIte, lt_f (l_0.length), g16_0, g16_1, g16_5, g16_6, g16_7, og16_0]
    refine ite_K h (fun c17 h => ?_) (fun c17 h => ?_)
    · obtain rfl := Option.some.inj h
      try simp only [go_sem, Int.reduceLT, Int.reduceLE, Int.reduceBEq, Int.reduceBNe, Nat.reduceBNe, Nat.reduceAdd, Nat.reduceMul, Nat.reduceEqDiff, Nat.reduceLeDiff, Nat.reduceLT, Nat.reduceBEq, reduceCtorEq, reduceIte, lt_f (l_0.length), c17, g16_0, g16_1, g16_5, g16_6, g16_7, og16_0]
    · obtain ⟨p18, h⟩ := chk_K h
      try simp only [Nat.reduceLeDiff] at p18
      obtain rfl := Option.some.inj h
      try simp only [go_sem, Int.reduceLT, Int.reduceLE, Int.reduceBEq, Int.reduceBNe, Nat.reduceBNe, Nat.reduceAdd, Nat.reduceMul, Nat.reduceEqDiff, Nat.reduceLeDiff, Nat.reduceLT, Nat.reduceBEq, reduceCtorEq, reduceIte, lt_f (l_0.length), c17, p18, g16_0, g16_1, g16_5, g16_6, g16_7, og16_0]
theorem i_ascendingNodes_ok {l_0 : (List Int)} {nodes_1 : Int} {r : Bool} (h : i_ascendingNodes l_0 nodes_1 = some r) : Sound Try.prog J0 118 [(false, [.sl 3 1 (List.map eInt l_0)]), (false, [.int .i64 nodes_1])] [(false, [(false, .bool r)])] := by
  refine fnk Try.func118 (by kernel_rfl) rfl (by kernel_rfl) (by kernel_rfl) ?_
  unfold i_ascendingNodes at h
  simp only [fnS, f118, argSt, go_sem, Int.reduceLT, Int.reduceLE, Int.reduceBEq, Int.reduceBNe, Nat.reduceBNe, Nat.reduceAdd, Nat.reduceMul, Nat.reduceEqDiff, Nat.reduceLeDiff, Nat.reduceLT, Nat.reduceBEq, reduceCtorEq, reduceIte]
  refine swp_for h (fun i _ st => IV [(0, .p false [.c (.sl 3 1 (List.map eInt l_0))]), (1, .p false [.c (.int .i64 nodes_1)]), (7, .p false [.c (.sl 3 1 (List.map eInt l_0))]), (8, .p false [.c (.int .i64 ((l_0.length : Nat) : Int))]), (9, .p false [.c (.int .i64 ((i : Nat) : Int))])] [] st) [] [] (by decide) ?_ ?_ ?_
  · simp only [go_sem, Int.reduceLT, Int.reduceLE, Int.reduceBEq, Int.reduceBNe, Nat.reduceBNe, Nat.reduceAdd, Nat.reduceMul, Nat.reduceEqDiff, Nat.reduceLeDiff, Nat.reduceLT, Nat.reduceBEq, reduceCtorEq, reduceIte, IV, sts_cons, sts_nil, obs_cons, obs_nil]
  · rintro i5 x6 ⟨⟩ ⟨sl, ob, n⟩ y1 hx2 hI3 hW4 h hy1
    simp only [IV, sts_cons, sts_nil, obs_cons, obs_nil, and_true, true_and, Nat.reduceAdd, str_len] at hI3
    obtain ⟨⟨g5_0, g5_1, g5_7, g5_8, g5_9⟩, hn⟩ := hI3
    subst hn
    have hlhx2 := WF.slotL hW4 g5_0 (j := 0) rfl
    try simp only [go_sem, Int.reduceLT, Int.reduceLE, Int.reduceBEq, Int.reduceBNe, Nat.reduceBNe, Nat.reduceAdd, Nat.reduceMul, Nat.reduceEqDiff, Nat.reduceLeDiff, Nat.reduceLT, Nat.reduceBEq, reduceCtorEq, reduceIte, hx2, lt_t hx2, lt_p hx2, nat_in (lt_n hx2) hlhx2, g5_0, g5_1, g5_7, g5_8, g5_9]
    refine ite_K h (fun c6 h => ?_) (fun c6 h => ?_)
    · replace h := inr_K h hy1
      obtain rfl := Option.some.inj h
      try simp only [go_sem, Int.reduceLT, Int.reduceLE, Int.reduceBEq, Int.reduceBNe, Nat.reduceBNe, Nat.reduceAdd, Nat.reduceMul, Nat.reduceEqDiff, Nat.reduceLeDiff, Nat.reduceLT, Nat.reduceBEq, reduceCtorEq, reduceIte, hx2, lt_t hx2, lt_p hx2, nat_in (lt_n hx2) hlhx2, c6, g5_0, g5_1, g5_7, g5_8, g5_9]
    · try simp only [go_sem, Int.reduceLT, Int.reduceLE, Int.reduceBEq, Int.reduceBNe, Nat.reduceBNe, Nat.reduceAdd, Nat.reduceMul, Nat.reduceEqDiff, Nat.reduceLeDiff, Nat.reduceLT, Nat.reduceBEq, reduceCtorEq, reduceIte, hx2, lt_t hx2, lt_p hx2, nat_in (lt_n hx2) hlhx2, c6, g5_0, g5_1, g5_7, g5_8, g5_9]
      refine ite_K h (fun c7 h => ?_) (fun c7 h => ?_)
      · replace h := inr_K h hy1
        obtain rfl := Option.some.inj h
        try simp only [go_sem, Int.reduceLT, Int.reduceLE, Int.reduceBEq, Int.reduceBNe, Nat.reduceBNe, Nat.reduceAdd, Nat.reduceMul, Nat.reduceEqDiff, Nat.reduceLeDiff, Nat.reduceLT, Nat.reduceBEq, reduceCtorEq, reduceIte, hx2, lt_t hx2, lt_p hx2, nat_in (lt_n hx2) hlhx2, c6, c7, g5_0, g5_1, g5_7, g5_8, g5_9]
      · try simp only [go_sem, Int.reduceLT, Int.reduceLE, Int.reduceBEq, Int.reduceBNe, Nat.reduceBNe, Nat.reduceAdd, Nat.reduceMul, Nat.reduceEqDiff, Nat.reduceLeDiff, Nat.reduceLT, Nat.reduceBEq, reduceCtorEq, reduceIte, hx2, lt_t hx2, lt_p hx2, nat_in (lt_n hx2) hlhx2, c6, c7, g5_0, g5_1, g5_7, g5_8, g5_9]
        refine ite_K h (fun c8 h => ?_) (fun c8 h => ?_)
        · obtain ⟨x7, a9, a10, e11, h⟩ := at_K h
          try simp only [go_sem, Int.reduceLT, Int.reduceLE, Int.reduceBEq, Int.reduceBNe, Nat.reduceBNe, Nat.reduceAdd, Nat.reduceMul, Nat.reduceEqDiff, Nat.reduceLeDiff, Nat.reduceLT, Nat.reduceBEq, reduceCtorEq, reduceIte, hx2, lt_t hx2, lt_p hx2, nat_in (lt_n hx2) hlhx2, c6, c7, c8, a9, a10, e11, g5_0, g5_1, g5_7, g5_8, g5_9]
          refine ite_K h (fun c12 h => ?_) (fun c12 h => ?_)
          · replace h := inr_K h hy1
            obtain rfl := Option.some.inj h
            try simp only [go_sem, Int.reduceLT, Int.reduceLE, Int.reduceBEq, Int.reduceBNe, Nat.reduceBNe, Nat.reduceAdd, Nat.reduceMul, Nat.reduceEqDiff, Nat.reduceLeDiff, Nat.reduceLT, Nat.reduceBEq, reduceCtorEq, reduceIte, hx2, lt_t hx2, lt_p hx2, nat_in (lt_n hx2) hlhx2, c6, c7, c8, a9, a10, e11, c12, g5_0, g5_1, g5_7, g5_8, g5_9]
          · try simp only [go_sem, Int.reduceLT, Int.reduceLE, Int.reduceBEq, Int.reduceBNe, Nat.reduceBNe, Nat.reduceAdd, Nat.reduceMul, Nat.reduceEqDiff, Nat.reduceLeDiff, Nat.reduceLT, Nat.reduceBEq, reduceCtorEq, reduceIte, hx2, lt_t hx2, lt_p hx2, nat_in (lt_n hx2) hlhx2, c6, c7, c8, a9, a10, e11, c12, g5_0, g5_1, g5_7, g5_8, g5_9]
            refine ⟨_, [], [], (Option.some.inj h).symm, by decide, ?_⟩
            try simp only [go_sem, Int.reduceLT, Int.reduceLE, Int.reduceBEq, Int.reduceBNe, Nat.reduceBNe, Nat.reduceAdd, Nat.reduceMul, Nat.reduceEqDiff, Nat.reduceLeDiff, Nat.reduceLT, Nat.reduceBEq, reduceCtorEq, reduceIte, hx2, lt_t hx2, lt_p hx2, nat_in (lt_n hx2) hlhx2, c6, c7, c8, a9, a10, e11, c12, g5_0, g5_1, g5_7, g5_8, g5_9, IV, sts_cons, sts_nil, obs_cons, obs_nil]
        · try simp only [go_sem, Int.reduceLT, Int.reduceLE, Int.reduceBEq, Int.reduceBNe, Nat.reduceBNe, Nat.reduceAdd, Nat.reduceMul, Nat.reduceEqDiff, Nat.reduceLeDiff, Nat.reduceLT, Nat.reduceBEq, reduceCtorEq, reduceIte, hx2, lt_t hx2, lt_p hx2, nat_in (lt_n hx2) hlhx2, c6, c7, c8, g5_0, g5_1, g5_7, g5_8, g5_9]
          refine ⟨_, [], [], (Option.some.inj h).symm, by decide, ?_⟩
          try simp only [go_sem, Int.reduceLT, Int.reduceLE, Int.reduceBEq, Int.reduceBNe, Nat.reduceBNe, Nat.reduceAdd, Nat.reduceMul, Nat.reduceEqDiff, Nat.reduceLeDiff, Nat.reduceLT, Nat.reduceBEq, reduceCtorEq, reduceIte, hx2, lt_t hx2, lt_p hx2, nat_in (lt_n hx2) hlhx2, c6, c7, c8, g5_0, g5_1, g5_7, g5_8, g5_9, IV, sts_cons, sts_nil, obs_cons, obs_nil]
  · rintro ⟨⟩ ⟨sl, ob, n⟩ hI13 hW14 h
    simp only [IV, sts_cons, sts_nil, obs_cons, obs_nil, and_true, true_and, Nat.reduceAdd, str_len] at hI13
    obtain ⟨⟨g15_0, g15_1, g15_7, g15_8, g15_9⟩, hn⟩ := hI13
    subst hn
    obtain rfl := Option.some.inj h
    try simp only [go_sem, Int.reduceLT, Int.reduceLE, Int.reduceBEq, Int.reduceBNe, Nat.reduceBNe, Nat.reduceAdd, Nat.reduceMul, Nat.reduceEqDiff, Nat.reduceLeDiff, Nat.reduceLT, Nat.reduceBEq, reduceCtorEq, reduceIte, lt_f (l_0.length), g15_0, g15_1, g15_7, g15_8, g15_9]
theorem i_hasInt_ok {l_0 : (List Int)} {n_1 : Int} {r : Bool} (h : i_hasInt l_0 n_1 = some r) : Sound Try.prog J0 119 [(false, [.sl 3 1 (List.map eInt l_0)]), (false, [.int .i64 n_1])] [(false, [(false, .bool r)])] := by
  refine fnk Try.func119 (by kernel_rfl) rfl (by kernel_rfl) (by kernel_rfl) ?_
  unfold i_hasInt at h
  simp only [fnS, f119, argSt, go_sem, Int.reduceLT, Int.reduceLE, Int.reduceBEq, Int.reduceBNe, Nat.reduceBNe, Nat.reduceAdd, Nat.reduceMul, Nat.reduceEqDiff, Nat.reduceLeDiff, Nat.reduceLT, Nat.reduceBEq, reduceCtorEq, reduceIte]
  refine swp_for h (fun i _ st => IV [(1, .p false [.c (.int .i64 n_1)]), (7, .p false [.c (.sl 3 1 (List.map eInt l_0))]), (8, .p false [.c (.int .i64 ((l_0.length : Nat) : Int))]), (9, .p false [.c (.int .i64 ((i : Nat) : Int))])] [] st) [] [] (by decide) ?_ ?_ ?_
  · simp only [go_sem, Int.reduceLT, Int.reduceLE, Int.reduceBEq, Int.reduceBNe, Nat.reduceBNe, Nat.reduceAdd, Nat.reduceMul, Nat.reduceEqDiff, Nat.reduceLeDiff, Nat.reduceLT, Nat.reduceBEq, reduceCtorEq, reduceIte, IV, sts_cons, sts_nil, obs_cons, obs_nil]
  · rintro i4 x5 ⟨⟩ ⟨sl, ob, n⟩ y1 hx2 hI3 hW4 h hy1
    simp only [IV, sts_cons, sts_nil, obs_cons, obs_nil, and_true, true_and, Nat.reduceAdd, str_len] at hI3
    obtain ⟨⟨g5_1, g5_7, g5_8, g5_9⟩, hn⟩ := hI3
    subst hn
    have hlhx2 := WF.slotL hW4 g5_7 (j := 0) rfl
    try simp only [go_sem, Int.reduceLT, Int.reduceLE, Int.reduceBEq, Int.reduceBNe, Nat.reduceBNe, Nat.reduceAdd, Nat.reduceMul, Nat.reduceEqDiff, Nat.reduceLeDiff, Nat.reduceLT, Nat.reduceBEq, reduceCtorEq, reduceIte, hx2, lt_t hx2, lt_p hx2, nat_in (lt_n hx2) hlhx2, g5_1, g5_7, g5_8, g5_9]
    refine ite_K h (fun c6 h => ?_) (fun c6 h => ?_)
    · replace h := inr_K h hy1
      obtain rfl := Option.some.inj h
      try simp only [go_sem, Int.reduceLT, Int.reduceLE, Int.reduceBEq, Int.reduceBNe, Nat.reduceBNe, Nat.reduceAdd, Nat.reduceMul, Nat.reduceEqDiff, Nat.reduceLeDiff, Nat.reduceLT, Nat.reduceBEq, reduceCtorEq, reduceIte, hx2, lt_t hx2, lt_p hx2, nat_in (lt_n hx2) hlhx2, c6, g5_1, g5_7, g5_8, g5_9]
    · try simp only [go_sem, Int.reduceLT, Int.reduceLE, Int.reduceBEq, Int.reduceBNe, Nat.reduceBNe, Nat.reduceAdd, Nat.reduceMul, Nat.reduceEqDiff, Nat.reduceLeDiff, Nat.reduceLT, Nat.reduceBEq, reduceCtorEq, reduceIte, hx2, lt_t hx2, lt_p hx2, nat_in (lt_n hx2) hlhx2, c6, g5_1, g5_7, g5_8, g5_9]
      refine ⟨_, [], [], (Option.some.inj h).symm, by decide, ?_⟩
      try simp only [go_sem, Int.reduceLT, Int.reduceLE, Int.reduceBEq, Int.reduceBNe, Nat.reduceBNe, Nat.reduceAdd, Nat.reduceMul, Nat.reduceEqDiff, Nat.reduceLeDiff, Nat.reduceLT, Nat.reduceBEq, reduceCtorEq, reduceIte, hx2, lt_t hx2, lt_p hx2, nat_in (lt_n hx2) hlhx2, c6, g5_1, g5_7, g5_8, g5_9, IV, sts_cons, sts_nil, obs_cons, obs_nil]
  · rintro ⟨⟩ ⟨sl, ob, n⟩ hI7 hW8 h
    simp only [IV, sts_cons, sts_nil, obs_cons, obs_nil, and_true, true_and, Nat.reduceAdd, str_len] at hI7
    obtain ⟨⟨g9_1, g9_7, g9_8, g9_9⟩, hn⟩ := hI7
    subst hn
    obtain rfl := Option.some.inj h
    try simp only [go_sem, Int.reduceLT, Int.reduceLE, Int.reduceBEq, Int.reduceBNe, Nat.reduceBNe, Nat.reduceAdd, Nat.reduceMul, Nat.reduceEqDiff, Nat.reduceLeDiff, Nat.reduceLT, Nat.reduceBEq, reduceCtorEq, reduceIte, lt_f (l_0.length), g9_1, g9_7, g9_8, g9_9]
theorem i_IsPart_ok {a_0 : Int} {b_1 : Int} {r : Bool} (h : i_IsPart a_0 b_1 = some r) : Sound Try.prog J0 120 [(false, [.int .i64 a_0]), (false, [.int .i64 b_1])] [(false, [(false, .bool r)])] := by
  refine fnk Try.func120 (by kernel_rfl) rfl (by kernel_rfl) (by kernel_rfl) ?_
  unfold i_IsPart at h
  simp only [fnS, f120, argSt, go_sem, Int.reduceLT, Int.reduceLE, Int.reduceBEq, Int.reduceBNe, Nat.reduceBNe, Nat.reduceAdd, Nat.reduceMul, Nat.reduceEqDiff, Nat.reduceLeDiff, Nat.reduceLT, Nat.reduceBEq, reduceCtorEq, reduceIte]
  refine ite_K h (fun c1 h => ?_) (fun c1 h => ?_)
  · try simp only [go_sem, Int.reduceLT, Int.reduceLE, Int.reduceBEq, Int.reduceBNe, Nat.reduceBNe, Nat.reduceAdd, Nat.reduceMul, Nat.reduceEqDiff, Nat.reduceLeDiff, Nat.reduceLT, Nat.reduceBEq, reduceCtorEq, reduceIte, c1]
    refine ite_K h (fun c2 h => ?_) (fun c2 h => ?_)
    · obtain rfl := Option.some.inj h
      try simp only [go_sem, Int.reduceLT, Int.reduceLE, Int.reduceBEq, Int.reduceBNe, Nat.reduceBNe, Nat.reduceAdd, Nat.reduceMul, Nat.reduceEqDiff, Nat.reduceLeDiff, Nat.reduceLT, Nat.reduceBEq, reduceCtorEq, reduceIte, c1, c2]
    · obtain rfl := Option.some.inj h
      try simp only [go_sem, Int.reduceLT, Int.reduceLE, Int.reduceBEq, Int.reduceBNe, Nat.reduceBNe, Nat.reduceAdd, Nat.reduceMul, Nat.reduceEqDiff, Nat.reduceLeDiff, Nat.reduceLT, Nat.reduceBEq, reduceCtorEq, reduceIte, c1, c2]
  · obtain rfl := Option.some.inj h
    try simp only [go_sem, Int.reduceLT, Int.reduceLE, Int.reduceBEq, Int.reduceBNe, Nat.reduceBNe, Nat.reduceAdd, Nat.reduceMul, Nat.reduceEqDiff, Nat.reduceLeDiff, Nat.reduceLT, Nat.reduceBEq, reduceCtorEq, reduceIte, c1]
theorem i_setsWith_ok {f_0 : FrameD} {keep_1 : (Int → Option Bool)} {kkeep_1 : Nat} {ckeep_1 : List CT} (hkeep_1 : (SC Try.prog J0 JF0 hds).hd kkeep_1 = 0) (skeep_1 : ∀ {x0} {r : Bool}, keep_1 x0 = some r → Sound Try.prog J0 kkeep_1 ([(false, [.int .i64 x0])] ++ ckeep_1.map fun c => (false, [c])) [(false, [(false, .bool r)])]) {r : (List Int)} (h : i_setsWith f_0 keep_1 = some r) : Sound Try.prog J0 71 [(true, eFrame f_0), (false, [.fn kkeep_1 ckeep_1])] [(false, [(false, .sl 3 1 (List.map eInt r))])] := by
  refine fnk Try.func71 (by kernel_rfl) rfl (by kernel_rfl) (by kernel_rfl) ?_
  unfold i_setsWith at h
  simp only [fnS, f71, argSt, go_sem, Int.reduceLT, Int.reduceLE, Int.reduceBEq, Int.reduceBNe, Nat.reduceBNe, Nat.reduceAdd, Nat.reduceMul, Nat.reduceEqDiff, Nat.reduceLeDiff, Nat.reduceLT, Nat.reduceBEq, reduceCtorEq, reduceIte, hkeep_1]
  obtain ⟨p1, h⟩ := chk_K h
  try simp only [go_sem, Int.reduceLT, Int.reduceLE, Int.reduceBEq, Int.reduceBNe, Nat.reduceBNe, Nat.reduceAdd, Nat.reduceMul, Nat.reduceEqDiff, Nat.reduceLeDiff, Nat.reduceLT, Nat.reduceBEq, reduceCtorEq, reduceIte, hkeep_1, p1]
  refine swp_iter h (fun s st => match s with | (row_3, u_4) => IV [(1, .p false [.c (.fn kkeep_1 ckeep_1)]), (5, .p false [.row 0]), (10, .p false [.c (.int .i64 (shlI .i64 1 ((f_0.assumed.length : Nat) : Int)))]), (11, .p false [.c (.int .i64 u_4)])] [.row 3 1 (List.map eInt row_3) 2] st) [(false, 5, 0)] [128] (by decide) ?_ ?_
  · simp only [go_sem, Int.reduceLT, Int.reduceLE, Int.reduceBEq, Int.reduceBNe, Nat.reduceBNe, Nat.reduceAdd, Nat.reduceMul, Nat.reduceEqDiff, Nat.reduceLeDiff, Nat.reduceLT, Nat.reduceBEq, reduceCtorEq, reduceIte, IV, sts_cons, sts_nil, obs_cons, obs_nil, hkeep_1, p1]
  · rintro ⟨row_3, u_4⟩ ⟨sl, ob, n⟩ y2 hI3 hW4 h hy2
    simp only [IV, sts_cons, sts_nil, obs_cons, obs_nil, and_true, true_and, Nat.reduceAdd, str_len] at hI3
    obtain ⟨⟨g5_1, g5_5, g5_10, g5_11⟩, og5_0, hn⟩ := hI3
    subst hn
    try simp only [go_sem, Int.reduceLT, Int.reduceLE, Int.reduceBEq, Int.reduceBNe, Nat.reduceBNe, Nat.reduceAdd, Nat.reduceMul, Nat.reduceEqDiff, Nat.reduceLeDiff, Nat.reduceLT, Nat.reduceBEq, reduceCtorEq, reduceIte, hkeep_1, p1, g5_1, g5_5, g5_10, g5_11, og5_0]
    refine ite_K h (fun c6 h => ?_) (fun c6 h => ?_)
    · try simp only [go_sem, Int.reduceLT, Int.reduceLE, Int.reduceBEq, Int.reduceBNe, Nat.reduceBNe, Nat.reduceAdd, Nat.reduceMul, Nat.reduceEqDiff, Nat.reduceLeDiff, Nat.reduceLT, Nat.reduceBEq, reduceCtorEq, reduceIte, hkeep_1, p1, c6, g5_1, g5_5, g5_10, g5_11, og5_0]
      obtain ⟨v5, e7, h⟩ := bind_K h
      refine call_K (by first | exact skeep_1 e7 | simpa only [go_sem, Int.reduceLT, Int.reduceLE, Int.reduceBEq, Int.reduceBNe, Nat.reduceBNe, Nat.reduceAdd, Nat.reduceMul, Nat.reduceEqDiff, Nat.reduceLeDiff, Nat.reduceLT, Nat.reduceBEq, reduceCtorEq, reduceIte, hkeep_1, p1, c6, g5_1, g5_5, g5_10, g5_11, og5_0] using skeep_1 e7) ?_
      try simp only [go_sem, Int.reduceLT, Int.reduceLE, Int.reduceBEq, Int.reduceBNe, Nat.reduceBNe, Nat.reduceAdd, Nat.reduceMul, Nat.reduceEqDiff, Nat.reduceLeDiff, Nat.reduceLT, Nat.reduceBEq, reduceCtorEq, reduceIte, hkeep_1, p1, c6, g5_1, g5_5, g5_10, g5_11, og5_0]
      refine ite_K h (fun c8 h => ?_) (fun c8 h => ?_)
      · obtain ⟨p9, h⟩ := chk_K h
        try simp only [Nat.reduceLeDiff] at p9
        try simp only [go_sem, Int.reduceLT, Int.reduceLE, Int.reduceBEq, Int.reduceBNe, Nat.reduceBNe, Nat.reduceAdd, Nat.reduceMul, Nat.reduceEqDiff, Nat.reduceLeDiff, Nat.reduceLT, Nat.reduceBEq, reduceCtorEq, reduceIte, hkeep_1, p1, c6, c8, p9, g5_1, g5_5, g5_10, g5_11, og5_0]
        refine ⟨_, [], [145], (Option.some.inj h).symm, by decide, ?_⟩
        try simp only [go_sem, Int.reduceLT, Int.reduceLE, Int.reduceBEq, Int.reduceBNe, Nat.reduceBNe, Nat.reduceAdd, Nat.reduceMul, Nat.reduceEqDiff, Nat.reduceLeDiff, Nat.reduceLT, Nat.reduceBEq, reduceCtorEq, reduceIte, hkeep_1, p1, c6, c8, p9, g5_1, g5_5, g5_10, g5_11, og5_0, IV, sts_cons, sts_nil, obs_cons, obs_nil]
      · try simp only [go_sem, Int.reduceLT, Int.reduceLE, Int.reduceBEq, Int.reduceBNe, Nat.reduceBNe, Nat.reduceAdd, Nat.reduceMul, Nat.reduceEqDiff, Nat.reduceLeDiff, Nat.reduceLT, Nat.reduceBEq, reduceCtorEq, reduceIte, hkeep_1, p1, c6, c8, g5_1, g5_5, g5_10, g5_11, og5_0]
        refine ⟨_, [], [0], (Option.some.inj h).symm, by decide, ?_⟩
        try simp only [go_sem, Int.reduceLT, Int.reduceLE, Int.reduceBEq, Int.reduceBNe, Nat.reduceBNe, Nat.reduceAdd, Nat.reduceMul, Nat.reduceEqDiff, Nat.reduceLeDiff, Nat.reduceLT, Nat.reduceBEq, reduceCtorEq, reduceIte, hkeep_1, p1, c6, c8, g5_1, g5_5, g5_10, g5_11, og5_0, IV, sts_cons, sts_nil, obs_cons, obs_nil]
    · replace h := inr_K h hy2
      obtain rfl := Option.some.inj h
      try simp only [go_sem, Int.reduceLT, Int.reduceLE, Int.reduceBEq, Int.reduceBNe, Nat.reduceBNe, Nat.reduceAdd, Nat.reduceMul, Nat.reduceEqDiff, Nat.reduceLeDiff, Nat.reduceLT, Nat.reduceBEq, reduceCtorEq, reduceIte, hkeep_1, p1, c6, g5_1, g5_5, g5_10, g5_11, og5_0]
theorem i_noneIn_ok {l_0 : (List Int)} {a_1 : (List Bool)} {r : Bool} (h : i_noneIn l_0 a_1 = some r) : Sound Try.prog J0 73 [(false, [.sl 3 1 (List.map eInt l_0)]), (false, [.sl 4 1 (List.map eBool a_1)])] [(false, [(false, .bool r)])] := by
  refine fnk Try.func73 (by kernel_rfl) rfl (by kernel_rfl) (by kernel_rfl) ?_
  unfold i_noneIn at h
  simp only [fnS, f73, argSt, go_sem, Int.reduceLT, Int.reduceLE, Int.reduceBEq, Int.reduceBNe, Nat.reduceBNe, Nat.reduceAdd, Nat.reduceMul, Nat.reduceEqDiff, Nat.reduceLeDiff, Nat.reduceLT, Nat.reduceBEq, reduceCtorEq, reduceIte]
  refine swp_for h (fun i _ st => IV [(1, .p false [.c (.sl 4 1 (List.map eBool a_1))]), (7, .p false [.c (.sl 3 1 (List.map eInt l_0))]), (8, .p false [.c (.int .i64 ((l_0.length : Nat) : Int))]), (9, .p false [.c (.int .i64 ((i : Nat) : Int))])] [] st) [] [] (by decide) ?_ ?_ ?_
  · simp only [go_sem, Int.reduceLT, Int.reduceLE, Int.reduceBEq, Int.reduceBNe, Nat.reduceBNe, Nat.reduceAdd, Nat.reduceMul, Nat.reduceEqDiff, Nat.reduceLeDiff, Nat.reduceLT, Nat.reduceBEq, reduceCtorEq, reduceIte, IV, sts_cons, sts_nil, obs_cons, obs_nil]
  · rintro i6 x7 ⟨⟩ ⟨sl, ob, n⟩ y1 hx2 hI3 hW4 h hy1
    simp only [IV, sts_cons, sts_nil, obs_cons, obs_nil, and_true, true_and, Nat.reduceAdd, str_len] at hI3
    obtain ⟨⟨g5_1, g5_7, g5_8, g5_9⟩, hn⟩ := hI3
    subst hn
    have hlhx2 := WF.slotL hW4 g5_7 (j := 0) rfl
    obtain ⟨x8, a6, a7, e8, h⟩ := at_K h
    try simp only [go_sem, Int.reduceLT, Int.reduceLE, Int.reduceBEq, Int.reduceBNe, Nat.reduceBNe, Nat.reduceAdd, Nat.reduceMul, Nat.reduceEqDiff, Nat.reduceLeDiff, Nat.reduceLT, Nat.reduceBEq, reduceCtorEq, reduceIte, hx2, lt_t hx2, lt_p hx2, nat_in (lt_n hx2) hlhx2, a6, a7, e8, g5_1, g5_7, g5_8, g5_9]
    refine ite_K h (fun c9 h => ?_) (fun c9 h => ?_)
    · replace h := inr_K h hy1
      obtain rfl := Option.some.inj h
      try simp only [go_sem, Int.reduceLT, Int.reduceLE, Int.reduceBEq, Int.reduceBNe, Nat.reduceBNe, Nat.reduceAdd, Nat.reduceMul, Nat.reduceEqDiff, Nat.reduceLeDiff, Nat.reduceLT, Nat.reduceBEq, reduceCtorEq, reduceIte, hx2, lt_t hx2, lt_p hx2, nat_in (lt_n hx2) hlhx2, a6, a7, e8, c9, g5_1, g5_7, g5_8, g5_9]
    · try simp only [go_sem, Int.reduceLT, Int.reduceLE, Int.reduceBEq, Int.reduceBNe, Nat.reduceBNe, Nat.reduceAdd, Nat.reduceMul, Nat.reduceEqDiff, Nat.reduceLeDiff, Nat.reduceLT, Nat.reduceBEq, reduceCtorEq, reduceIte, hx2, lt_t hx2, lt_p hx2, nat_in (lt_n hx2) hlhx2, a6, a7, e8, c9, g5_1, g5_7, g5_8, g5_9]
      refine ⟨_, [], [], (Option.some.inj h).symm, by decide, ?_⟩
      try simp only [go_sem, Int.reduceLT, Int.reduceLE, Int.reduceBEq, Int.reduceBNe, Nat.reduceBNe, Nat.reduceAdd, Nat.reduceMul, Nat.reduceEqDiff, Nat.reduceLeDiff, Nat.reduceLT, Nat.reduceBEq, reduceCtorEq, reduceIte, hx2, lt_t hx2, lt_p hx2, nat_in (lt_n hx2) hlhx2, a6, a7, e8, c9, g5_1, g5_7, g5_8, g5_9, IV, sts_cons, sts_nil, obs_cons, obs_nil]
  · rintro ⟨⟩ ⟨sl, ob, n⟩ hI10 hW11 h
    simp only [IV, sts_cons, sts_nil, obs_cons, obs_nil, and_true, true_and, Nat.reduceAdd, str_len] at hI10
    obtain ⟨⟨g12_1, g12_7, g12_8, g12_9⟩, hn⟩ := hI10
    subst hn
    obtain rfl := Option.some.inj h
    try simp only [go_sem, Int.reduceLT, Int.reduceLE, Int.reduceBEq, Int.reduceBNe, Nat.reduceBNe, Nat.reduceAdd, Nat.reduceMul, Nat.reduceEqDiff, Nat.reduceLeDiff, Nat.reduceLT, Nat.reduceBEq, reduceCtorEq, reduceIte, lt_f (l_0.length), g12_1, g12_7, g12_8, g12_9]
theorem i_copyInts_ok {l_0 : (List Int)} {r : (List Int)} (h : i_copyInts l_0 = some r) : Sound Try.prog J0 183 [(false, [.sl 3 1 (List.map eInt l_0)])] [(false, [(false, .sl 3 1 (List.map eInt r))])] := by
  refine fnk Try.func183 (by kernel_rfl) rfl (by kernel_rfl) (by kernel_rfl) ?_
  unfold i_copyInts at h
  simp only [fnS, f183, argSt, go_sem, Int.reduceLT, Int.reduceLE, Int.reduceBEq, Int.reduceBNe, Nat.reduceBNe, Nat.reduceAdd, Nat.reduceMul, Nat.reduceEqDiff, Nat.reduceLeDiff, Nat.reduceLT, Nat.reduceBEq, reduceCtorEq, reduceIte]
  obtain ⟨p1, h⟩ := chk_K h
  try simp only [Nat.reduceLeDiff] at p1
  obtain rfl := Option.some.inj h
  try simp only [go_sem, Int.reduceLT, Int.reduceLE, Int.reduceBEq, Int.reduceBNe, Nat.reduceBNe, Nat.reduceAdd, Nat.reduceMul, Nat.reduceEqDiff, Nat.reduceLeDiff, Nat.reduceLT, Nat.reduceBEq, reduceCtorEq, reduceIte, p1]
theorem i_chosen_ok {l_0 : (List Int)} {set_1 : Int} {r : (List Int)} (h : i_chosen l_0 set_1 = some r) : Sound Try.prog J0 123 [(false, [.sl 3 1 (List.map eInt l_0)]), (false, [.int .i64 set_1])] [(false, [(false, .sl 3 1 (List.map eInt r))])] := by
  refine fnk Try.func123 (by kernel_rfl) rfl (by kernel_rfl) (by kernel_rfl) ?_
  unfold i_chosen at h
  have kn0 : ¬ ((0 : Int) < 0) := by decide
  simp only [fnS, f123, argSt, go_sem, Int.reduceLT, Int.reduceLE, Int.reduceBEq, Int.reduceBNe, Nat.reduceBNe, Nat.reduceAdd, Nat.reduceMul, Nat.reduceEqDiff, Nat.reduceLeDiff, Nat.reduceLT, Nat.reduceBEq, reduceCtorEq, reduceIte, kn0]
  refine swp_for h (fun i row_3 st => IV [(1, .p false [.c (.int .i64 set_1)]), (5, .p false [.row 0]), (8, .p false [.c (.sl 3 1 (List.map eInt l_0))]), (9, .p false [.c (.int .i64 ((l_0.length : Nat) : Int))]), (10, .p false [.c (.int .i64 ((i : Nat) : Int))])] [.row 3 1 (List.map eInt row_3) 2] st) [(false, 5, 0)] [80] (by decide) ?_ ?_ ?_
  · simp only [go_sem, Int.reduceLT, Int.reduceLE, Int.reduceBEq, Int.reduceBNe, Nat.reduceBNe, Nat.reduceAdd, Nat.reduceMul, Nat.reduceEqDiff, Nat.reduceLeDiff, Nat.reduceLT, Nat.reduceBEq, reduceCtorEq, reduceIte, IV, sts_cons, sts_nil, obs_cons, obs_nil, kn0]
  · rintro i6 x7 row_3 ⟨sl, ob, n⟩ y1 hx2 hI3 hW4 h hy1
    simp only [IV, sts_cons, sts_nil, obs_cons, obs_nil, and_true, true_and, Nat.reduceAdd, str_len] at hI3
    obtain ⟨⟨g5_1, g5_5, g5_8, g5_9, g5_10⟩, og5_0, hn⟩ := hI3
    subst hn
    have hlhx2 := WF.slotL hW4 g5_8 (j := 0) rfl
    obtain ⟨p6, h⟩ := chk_K h
    try simp only [go_sem, Int.reduceLT, Int.reduceLE, Int.reduceBEq, Int.reduceBNe, Nat.reduceBNe, Nat.reduceAdd, Nat.reduceMul, Nat.reduceEqDiff, Nat.reduceLeDiff, Nat.reduceLT, Nat.reduceBEq, reduceCtorEq, reduceIte, kn0, hx2, lt_t hx2, lt_p hx2, nat_in (lt_n hx2) hlhx2, p6, g5_1, g5_5, g5_8, g5_9, g5_10, og5_0]
    refine ite_K h (fun c7 h => ?_) (fun c7 h => ?_)
    · obtain ⟨p8, h⟩ := chk_K h
      try simp only [Nat.reduceLeDiff] at p8
      try simp only [go_sem, Int.reduceLT, Int.reduceLE, Int.reduceBEq, Int.reduceBNe, Nat.reduceBNe, Nat.reduceAdd, Nat.reduceMul, Nat.reduceEqDiff, Nat.reduceLeDiff, Nat.reduceLT, Nat.reduceBEq, reduceCtorEq, reduceIte, kn0, hx2, lt_t hx2, lt_p hx2, nat_in (lt_n hx2) hlhx2, p6, c7, p8, g5_1, g5_5, g5_8, g5_9, g5_10, og5_0]
      refine ⟨_, [], [225], (Option.some.inj h).symm, by decide, ?_⟩
      try simp only [go_sem, Int.reduceLT, Int.reduceLE, Int.reduceBEq, Int.reduceBNe, Nat.reduceBNe, Nat.reduceAdd, Nat.reduceMul, Nat.reduceEqDiff, Nat.reduceLeDiff, Nat.reduceLT, Nat.reduceBEq, reduceCtorEq, reduceIte, kn0, hx2, lt_t hx2, lt_p hx2, nat_in (lt_n hx2) hlhx2, p6, c7, p8, g5_1, g5_5, g5_8, g5_9, g5_10, og5_0, IV, sts_cons, sts_nil, obs_cons, obs_nil]
    · try simp only [go_sem, Int.reduceLT, Int.reduceLE, Int.reduceBEq, Int.reduceBNe, Nat.reduceBNe, Nat.reduceAdd, Nat.reduceMul, Nat.reduceEqDiff, Nat.reduceLeDiff, Nat.reduceLT, Nat.reduceBEq, reduceCtorEq, reduceIte, kn0, hx2, lt_t hx2, lt_p hx2, nat_in (lt_n hx2) hlhx2, p6, c7, g5_1, g5_5, g5_8, g5_9, g5_10, og5_0]
      refine ⟨_, [], [0], (Option.some.inj h).symm, by decide, ?_⟩
      try simp only [go_sem, Int.reduceLT, Int.reduceLE, Int.reduceBEq, Int.reduceBNe, Nat.reduceBNe, Nat.reduceAdd, Nat.reduceMul, Nat.reduceEqDiff, Nat.reduceLeDiff, Nat.reduceLT, Nat.reduceBEq, reduceCtorEq, reduceIte, kn0, hx2, lt_t hx2, lt_p hx2, nat_in (lt_n hx2) hlhx2, p6, c7, g5_1, g5_5, g5_8, g5_9, g5_10, og5_0, IV, sts_cons, sts_nil, obs_cons, obs_nil]
  · rintro row_3 ⟨sl, ob, n⟩ hI9 hW10 h
    simp only [IV, sts_cons, sts_nil, obs_cons, obs_nil, and_true, true_and, Nat.reduceAdd, str_len] at hI9
    obtain ⟨⟨g11_1, g11_5, g11_8, g11_9, g11_10⟩, og11_0, hn⟩ := hI9
    subst hn
    obtain rfl := Option.some.inj h
    try simp only [go_sem, Int.reduceLT, Int.reduceLE, Int.reduceBEq, Int.reduceBNe, Nat.reduceBNe, Nat.reduceAdd, Nat.reduceMul, Nat.reduceEqDiff, Nat.reduceLeDiff, Nat.reduceLT, Nat.reduceBEq, reduceCtorEq, reduceIte, kn0, lt_f (l_0.length), g11_1, g11_5, g11_8, g11_9, g11_10, og11_0]
end Go.Proofs.Ytccbhhglghboaaa

namespace Go.Proofs.Ytccbhhglghboaaa
open Go.Proofs.Try
set_option linter.unusedSimpArgs false
set_option linter.unusedVariables false
set_option maxRecDepth 1000000
set_option maxHeartbeats 4000000
theorem s_LeastSets_ok {l_0 : (List Int)} {r : (List Int)} (h : s_LeastSets l_0 = some r) : Sound Try.prog J0 66 [(false, [.sl 3 1 (List.map eInt l_0)])] [(false, [(false, .sl 3 1 (List.map eInt r))])] := by
  refine fnk Try.func66 (by kernel_rfl) rfl (by kernel_rfl) (by kernel_rfl) ?_
  unfold s_LeastSets at h
  simp only [fnS, f66, argSt, go_sem, Int.reduceLT, Int.reduceLE, Int.reduceBEq, Int.reduceBNe, Nat.reduceBNe, Nat.reduceAdd, Nat.reduceMul, Nat.reduceEqDiff, Nat.reduceLeDiff, Nat.reduceLT, Nat.reduceBEq, reduceCtorEq, reduceIte]
  refine swp_for h (fun i row_12 st => IV [(0, .p false [.c (.sl 3 1 (List.map eInt l_0))]), (3, .p false [.row 0]), (4, .p false [.c (.int .i64 ((i : Nat) : Int))])] [.row 3 1 (List.map eInt row_12) 2] st) [] [16] (by decide) ?_ ?_ ?_
  · simp only [go_sem, Int.reduceLT, Int.reduceLE, Int.reduceBEq, Int.reduceBNe, Nat.reduceBNe, Nat.reduceAdd, Nat.reduceMul, Nat.reduceEqDiff, Nat.reduceLeDiff, Nat.reduceLT, Nat.reduceBEq, reduceCtorEq, reduceIte, IV, sts_cons, sts_nil, obs_cons, obs_nil]
  · rintro i26 x27 row_12 ⟨sl, ob, n⟩ y1 hx2 hI3 hW4 h hy1
    simp only [IV, sts_cons, sts_nil, obs_cons, obs_nil, and_true, true_and, Nat.reduceAdd, str_len] at hI3
    obtain ⟨⟨g5_0, g5_3, g5_4⟩, og5_0, hn⟩ := hI3
    subst hn
    have hlhx2 := WF.slotL hW4 g5_0 (j := 0) rfl
    try simp only [go_sem, Int.reduceLT, Int.reduceLE, Int.reduceBEq, Int.reduceBNe, Nat.reduceBNe, Nat.reduceAdd, Nat.reduceMul, Nat.reduceEqDiff, Nat.reduceLeDiff, Nat.reduceLT, Nat.reduceBEq, reduceCtorEq, reduceIte, hx2, lt_t hx2, lt_p hx2, nat_in (lt_n hx2) hlhx2, g5_0, g5_3, g5_4, og5_0]
    refine swp_for h (fun i least_30 st => IV [(0, .p false [.c (.sl 3 1 (List.map eInt l_0))]), (3, .p false [.row 0]), (4, .p false [.c (.int .i64 ((i26 : Nat) : Int))]), (5, .p false [.c (.bool least_30)]), (6, .p false [.c (.int .i64 ((i : Nat) : Int))])] [.row 3 1 (List.map eInt row_12) 2] st) [] [0] (by decide) ?_ ?_ ?_
    · simp only [go_sem, Int.reduceLT, Int.reduceLE, Int.reduceBEq, Int.reduceBNe, Nat.reduceBNe, Nat.reduceAdd, Nat.reduceMul, Nat.reduceEqDiff, Nat.reduceLeDiff, Nat.reduceLT, Nat.reduceBEq, reduceCtorEq, reduceIte, IV, sts_cons, sts_nil, obs_cons, obs_nil, hx2, lt_t hx2, lt_p hx2, nat_in (lt_n hx2) hlhx2, g5_0, g5_3, g5_4, og5_0]
    · rintro i35 x36 least_30 ⟨sl, ob, n⟩ y6 hx7 hI8 hW9 h hy6
      simp only [IV, sts_cons, sts_nil, obs_cons, obs_nil, and_true, true_and, Nat.reduceAdd, str_len] at hI8
      obtain ⟨⟨g10_0, g10_3, g10_4, g10_5, g10_6⟩, og10_0, hn⟩ := hI8
      subst hn
      have hlhx7 := WF.slotL hW9 g10_0 (j := 0) rfl
      try simp only [go_sem, Int.reduceLT, Int.reduceLE, Int.reduceBEq, Int.reduceBNe, Nat.reduceBNe, Nat.reduceAdd, Nat.reduceMul, Nat.reduceEqDiff, Nat.reduceLeDiff, Nat.reduceLT, Nat.reduceBEq, reduceCtorEq, reduceIte, hx2, lt_t hx2, lt_p hx2, nat_in (lt_n hx2) hlhx2, hx7, lt_t hx7, lt_p hx7, nat_in (lt_n hx7) hlhx7, g10_0, g10_3, g10_4, g10_5, g10_6, og10_0]
      refine ite_K h (fun c11 h => ?_) (fun c11 h => ?_)
      · try simp only [go_sem, Int.reduceLT, Int.reduceLE, Int.reduceBEq, Int.reduceBNe, Nat.reduceBNe, Nat.reduceAdd, Nat.reduceMul, Nat.reduceEqDiff, Nat.reduceLeDiff, Nat.reduceLT, Nat.reduceBEq, reduceCtorEq, reduceIte, hx2, lt_t hx2, lt_p hx2, nat_in (lt_n hx2) hlhx2, hx7, lt_t hx7, lt_p hx7, nat_in (lt_n hx7) hlhx7, c11, g10_0, g10_3, g10_4, g10_5, g10_6, og10_0]
        obtain ⟨v37, e12, h⟩ := bind_K h
        refine call_K (by first | exact s_IsPart_ok e12 | simpa only [go_sem, Int.reduceLT, Int.reduceLE, Int.reduceBEq, Int.reduceBNe, Nat.reduceBNe, Nat.reduceAdd, Nat.reduceMul, Nat.reduceEqDiff, Nat.reduceLeDiff, Nat.reduceLT, Nat.reduceBEq, reduceCtorEq, reduceIte, hx2, lt_t hx2, lt_p hx2, nat_in (lt_n hx2) hlhx2, hx7, lt_t hx7, lt_p hx7, nat_in (lt_n hx7) hlhx7, c11, g10_0, g10_3, g10_4, g10_5, g10_6, og10_0] using s_IsPart_ok e12) ?_
        try simp only [go_sem, Int.reduceLT, Int.reduceLE, Int.reduceBEq, Int.reduceBNe, Nat.reduceBNe, Nat.reduceAdd, Nat.reduceMul, Nat.reduceEqDiff, Nat.reduceLeDiff, Nat.reduceLT, Nat.reduceBEq, reduceCtorEq, reduceIte, hx2, lt_t hx2, lt_p hx2, nat_in (lt_n hx2) hlhx2, hx7, lt_t hx7, lt_p hx7, nat_in (lt_n hx7) hlhx7, c11, g10_0, g10_3, g10_4, g10_5, g10_6, og10_0]
        refine ite_K h (fun c13 h => ?_) (fun c13 h => ?_)
        · try simp only [go_sem, Int.reduceLT, Int.reduceLE, Int.reduceBEq, Int.reduceBNe, Nat.reduceBNe, Nat.reduceAdd, Nat.reduceMul, Nat.reduceEqDiff, Nat.reduceLeDiff, Nat.reduceLT, Nat.reduceBEq, reduceCtorEq, reduceIte, hx2, lt_t hx2, lt_p hx2, nat_in (lt_n hx2) hlhx2, hx7, lt_t hx7, lt_p hx7, nat_in (lt_n hx7) hlhx7, c11, c13, g10_0, g10_3, g10_4, g10_5, g10_6, og10_0]
          refine ⟨_, [], [0], (Option.some.inj h).symm, by decide, ?_⟩
          try simp only [go_sem, Int.reduceLT, Int.reduceLE, Int.reduceBEq, Int.reduceBNe, Nat.reduceBNe, Nat.reduceAdd, Nat.reduceMul, Nat.reduceEqDiff, Nat.reduceLeDiff, Nat.reduceLT, Nat.reduceBEq, reduceCtorEq, reduceIte, hx2, lt_t hx2, lt_p hx2, nat_in (lt_n hx2) hlhx2, hx7, lt_t hx7, lt_p hx7, nat_in (lt_n hx7) hlhx7, c11, c13, g10_0, g10_3, g10_4, g10_5, g10_6, og10_0, IV, sts_cons, sts_nil, obs_cons, obs_nil]
        · try simp only [go_sem, Int.reduceLT, Int.reduceLE, Int.reduceBEq, Int.reduceBNe, Nat.reduceBNe, Nat.reduceAdd, Nat.reduceMul, Nat.reduceEqDiff, Nat.reduceLeDiff, Nat.reduceLT, Nat.reduceBEq, reduceCtorEq, reduceIte, hx2, lt_t hx2, lt_p hx2, nat_in (lt_n hx2) hlhx2, hx7, lt_t hx7, lt_p hx7, nat_in (lt_n hx7) hlhx7, c11, c13, g10_0, g10_3, g10_4, g10_5, g10_6, og10_0]
          refine ⟨_, [], [0], (Option.some.inj h).symm, by decide, ?_⟩
          try simp only [go_sem, Int.reduceLT, Int.reduceLE, Int.reduceBEq, Int.reduceBNe, Nat.reduceBNe, Nat.reduceAdd, Nat.reduceMul, Nat.reduceEqDiff, Nat.reduceLeDiff, Nat.reduceLT, Nat.reduceBEq, reduceCtorEq, reduceIte, hx2, lt_t hx2, lt_p hx2, nat_in (lt_n hx2) hlhx2, hx7, lt_t hx7, lt_p hx7, nat_in (lt_n hx7) hlhx7, c11, c13, g10_0, g10_3, g10_4, g10_5, g10_6, og10_0, IV, sts_cons, sts_nil, obs_cons, obs_nil]
      · try simp only [go_sem, Int.reduceLT, Int.reduceLE, Int.reduceBEq, Int.reduceBNe, Nat.reduceBNe, Nat.reduceAdd, Nat.reduceMul, Nat.reduceEqDiff, Nat.reduceLeDiff, Nat.reduceLT, Nat.reduceBEq, reduceCtorEq, reduceIte, hx2, lt_t hx2, lt_p hx2, nat_in (lt_n hx2) hlhx2, hx7, lt_t hx7, lt_p hx7, nat_in (lt_n hx7) hlhx7, c11, g10_0, g10_3, g10_4, g10_5, g10_6, og10_0]
        refine ⟨_, [], [0], (Option.some.inj h).symm, by decide, ?_⟩
        try simp only [go_sem, Int.reduceLT, Int.reduceLE, Int.reduceBEq, Int.reduceBNe, Nat.reduceBNe, Nat.reduceAdd, Nat.reduceMul, Nat.reduceEqDiff, Nat.reduceLeDiff, Nat.reduceLT, Nat.reduceBEq, reduceCtorEq, reduceIte, hx2, lt_t hx2, lt_p hx2, nat_in (lt_n hx2) hlhx2, hx7, lt_t hx7, lt_p hx7, nat_in (lt_n hx7) hlhx7, c11, g10_0, g10_3, g10_4, g10_5, g10_6, og10_0, IV, sts_cons, sts_nil, obs_cons, obs_nil]
    · rintro least_30 ⟨sl, ob, n⟩ hI14 hW15 h
      simp only [IV, sts_cons, sts_nil, obs_cons, obs_nil, and_true, true_and, Nat.reduceAdd, str_len] at hI14
      obtain ⟨⟨g16_0, g16_3, g16_4, g16_5, g16_6⟩, og16_0, hn⟩ := hI14
      subst hn
      try simp only [go_sem, Int.reduceLT, Int.reduceLE, Int.reduceBEq, Int.reduceBNe, Nat.reduceBNe, Nat.reduceAdd, Nat.reduceMul, Nat.reduceEqDiff, Nat.reduceLeDiff, Nat.reduceLT, Nat.reduceBEq, reduceCtorEq, reduceIte, hx2, lt_t hx2, lt_p hx2, nat_in (lt_n hx2) hlhx2, lt_f (l_0.length), g16_0, g16_3, g16_4, g16_5, g16_6, og16_0]
      refine ite_K h (fun c17 h => ?_) (fun c17 h => ?_)
      · try simp only [go_sem, Int.reduceLT, Int.reduceLE, Int.reduceBEq, Int.reduceBNe, Nat.reduceBNe, Nat.reduceAdd, Nat.reduceMul, Nat.reduceEqDiff, Nat.reduceLeDiff, Nat.reduceLT, Nat.reduceBEq, reduceCtorEq, reduceIte, hx2, lt_t hx2, lt_p hx2, nat_in (lt_n hx2) hlhx2, lt_f (l_0.length), c17, g16_0, g16_3, g16_4, g16_5, g16_6, og16_0]
        obtain ⟨v38, e18, h⟩ := bind_K h
        refine call_K (by first | exact s_l13Put_ok e18 | simpa only [go_sem, Int.reduceLT, Int.reduceLE, Int.reduceBEq, Int.reduceBNe, Nat.reduceBNe, Nat.reduceAdd, Nat.reduceMul, Nat.reduceEqDiff, Nat.reduceLeDiff, Nat.reduceLT, Nat.reduceBEq, reduceCtorEq, reduceIte, hx2, lt_t hx2, lt_p hx2, nat_in (lt_n hx2) hlhx2, lt_f (l_0.length), c17, g16_0, g16_3, g16_4, g16_5, g16_6, og16_0] using s_l13Put_ok e18) ?_
        try simp only [go_sem, Int.reduceLT, Int.reduceLE, Int.reduceBEq, Int.reduceBNe, Nat.reduceBNe, Nat.reduceAdd, Nat.reduceMul, Nat.reduceEqDiff, Nat.reduceLeDiff, Nat.reduceLT, Nat.reduceBEq, reduceCtorEq, reduceIte, hx2, lt_t hx2, lt_p hx2, nat_in (lt_n hx2) hlhx2, lt_f (l_0.length), c17, g16_0, g16_3, g16_4, g16_5, g16_6, og16_0]
        refine ⟨_, [], [161], (Option.some.inj h).symm, by decide, ?_⟩
        try simp only [go_sem, Int.reduceLT, Int.reduceLE, Int.reduceBEq, Int.reduceBNe, Nat.reduceBNe, Nat.reduceAdd, Nat.reduceMul, Nat.reduceEqDiff, Nat.reduceLeDiff, Nat.reduceLT, Nat.reduceBEq, reduceCtorEq, reduceIte, hx2, lt_t hx2, lt_p hx2, nat_in (lt_n hx2) hlhx2, lt_f (l_0.length), c17, g16_0, g16_3, g16_4, g16_5, g16_6, og16_0, IV, sts_cons, sts_nil, obs_cons, obs_nil]
      · try simp only [go_sem, Int.reduceLT, Int.reduceLE, Int.reduceBEq, Int.reduceBNe, Nat.reduceBNe, Nat.reduceAdd, Nat.reduceMul, Nat.reduceEqDiff, Nat.reduceLeDiff, Nat.reduceLT, Nat.reduceBEq, reduceCtorEq, reduceIte, hx2, lt_t hx2, lt_p hx2, nat_in (lt_n hx2) hlhx2, lt_f (l_0.length), c17, g16_0, g16_3, g16_4, g16_5, g16_6, og16_0]
        refine ⟨_, [], [0], (Option.some.inj h).symm, by decide, ?_⟩
        try simp only [go_sem, Int.reduceLT, Int.reduceLE, Int.reduceBEq, Int.reduceBNe, Nat.reduceBNe, Nat.reduceAdd, Nat.reduceMul, Nat.reduceEqDiff, Nat.reduceLeDiff, Nat.reduceLT, Nat.reduceBEq, reduceCtorEq, reduceIte, hx2, lt_t hx2, lt_p hx2, nat_in (lt_n hx2) hlhx2, lt_f (l_0.length), c17, g16_0, g16_3, g16_4, g16_5, g16_6, og16_0, IV, sts_cons, sts_nil, obs_cons, obs_nil]
  · rintro row_12 ⟨sl, ob, n⟩ hI19 hW20 h
    simp only [IV, sts_cons, sts_nil, obs_cons, obs_nil, and_true, true_and, Nat.reduceAdd, str_len] at hI19
    obtain ⟨⟨g21_0, g21_3, g21_4⟩, og21_0, hn⟩ := hI19
    subst hn
    obtain rfl := Option.some.inj h
    try simp only [go_sem, Int.reduceLT, Int.reduceLE, Int.reduceBEq, Int.reduceBNe, Nat.reduceBNe, Nat.reduceAdd, Nat.reduceMul, Nat.reduceEqDiff, Nat.reduceLeDiff, Nat.reduceLT, Nat.reduceBEq, reduceCtorEq, reduceIte, lt_f (l_0.length), g21_0, g21_3, g21_4, og21_0]
theorem i_IsBeliefs_ok {b_0 : BeliefsD} {r : Bool} (h : i_IsBeliefs b_0 = some r) : Sound Try.prog J0 117 [(true, eBeliefs b_0)] [(false, [(false, .bool r)])] := by
  refine fnk Try.func117 (by kernel_rfl) rfl (by kernel_rfl) (by kernel_rfl) ?_
  unfold i_IsBeliefs at h
  simp only [fnS, f117, argSt, go_sem, Int.reduceLT, Int.reduceLE, Int.reduceBEq, Int.reduceBNe, Nat.reduceBNe, Nat.reduceAdd, Nat.reduceMul, Nat.reduceEqDiff, Nat.reduceLeDiff, Nat.reduceLT, Nat.reduceBEq, reduceCtorEq, reduceIte]
  refine ite_K h (fun c1 h => ?_) (fun c1 h => ?_)
  · obtain rfl := Option.some.inj h
    try simp only [go_sem, Int.reduceLT, Int.reduceLE, Int.reduceBEq, Int.reduceBNe, Nat.reduceBNe, Nat.reduceAdd, Nat.reduceMul, Nat.reduceEqDiff, Nat.reduceLeDiff, Nat.reduceLT, Nat.reduceBEq, reduceCtorEq, reduceIte, c1]
  · try simp only [go_sem, Int.reduceLT, Int.reduceLE, Int.reduceBEq, Int.reduceBNe, Nat.reduceBNe, Nat.reduceAdd, Nat.reduceMul, Nat.reduceEqDiff, Nat.reduceLeDiff, Nat.reduceLT, Nat.reduceBEq, reduceCtorEq, reduceIte, c1]
    refine ite_K h (fun c2 h => ?_) (fun c2 h => ?_)
    · obtain rfl := Option.some.inj h
      try simp only [go_sem, Int.reduceLT, Int.reduceLE, Int.reduceBEq, Int.reduceBNe, Nat.reduceBNe, Nat.reduceAdd, Nat.reduceMul, Nat.reduceEqDiff, Nat.reduceLeDiff, Nat.reduceLT, Nat.reduceBEq, reduceCtorEq, reduceIte, c1, c2]
    · try simp only [go_sem, Int.reduceLT, Int.reduceLE, Int.reduceBEq, Int.reduceBNe, Nat.reduceBNe, Nat.reduceAdd, Nat.reduceMul, Nat.reduceEqDiff, Nat.reduceLeDiff, Nat.reduceLT, Nat.reduceBEq, reduceCtorEq, reduceIte, c1, c2]
      refine ite_K h (fun c3 h => ?_) (fun c3 h => ?_)
      · obtain rfl := Option.some.inj h
        try simp only [go_sem, Int.reduceLT, Int.reduceLE, Int.reduceBEq, Int.reduceBNe, Nat.reduceBNe, Nat.reduceAdd, Nat.reduceMul, Nat.reduceEqDiff, Nat.reduceLeDiff, Nat.reduceLT, Nat.reduceBEq, reduceCtorEq, reduceIte, c1, c2, c3]
      · try simp only [go_sem, Int.reduceLT, Int.reduceLE, Int.reduceBEq, Int.reduceBNe, Nat.reduceBNe, Nat.reduceAdd, Nat.reduceMul, Nat.reduceEqDiff, Nat.reduceLeDiff, Nat.reduceLT, Nat.reduceBEq, reduceCtorEq, reduceIte, c1, c2, c3]
        refine swp_for h (fun i _ st => IV [(1, .bp 0 0), (20, .p false [.c (.sl 147 3 (List.map eReason b_0.reasons))]), (21, .p false [.c (.int .i64 ((b_0.reasons.length : Nat) : Int))]), (22, .p false [.c (.int .i64 ((i : Nat) : Int))])] [.box 50 [.c (.int .i64 b_0.nodes), .c (.sl 147 3 (List.map eReason b_0.reasons))]] st) [] [0] (by decide) ?_ ?_ ?_
        · simp only [go_sem, Int.reduceLT, Int.reduceLE, Int.reduceBEq, Int.reduceBNe, Nat.reduceBNe, Nat.reduceAdd, Nat.reduceMul, Nat.reduceEqDiff, Nat.reduceLeDiff, Nat.reduceLT, Nat.reduceBEq, reduceCtorEq, reduceIte, IV, sts_cons, sts_nil, obs_cons, obs_nil, c1, c2, c3]
        · rintro i8 x9 ⟨⟩ ⟨sl, ob, n⟩ y4 hx5 hI6 hW7 h hy4
          simp only [IV, sts_cons, sts_nil, obs_cons, obs_nil, and_true, true_and, Nat.reduceAdd, str_len] at hI6
          obtain ⟨⟨g8_1, g8_20, g8_21, g8_22⟩, og8_0, hn⟩ := hI6
          subst hn
          have hlhx5 := WF.slotL hW7 g8_20 (j := 0) rfl
          try simp only [go_sem, Int.reduceLT, Int.reduceLE, Int.reduceBEq, Int.reduceBNe, Nat.reduceBNe, Nat.reduceAdd, Nat.reduceMul, Nat.reduceEqDiff, Nat.reduceLeDiff, Nat.reduceLT, Nat.reduceBEq, reduceCtorEq, reduceIte, c1, c2, c3, hx5, lt_t hx5, lt_p hx5, nat_in (lt_n hx5) hlhx5, g8_1, g8_20, g8_21, g8_22, og8_0]
          refine ite_K h (fun c9 h => ?_) (fun c9 h => ?_)
          · replace h := inr_K h hy4
            obtain rfl := Option.some.inj h
            try simp only [go_sem, Int.reduceLT, Int.reduceLE, Int.reduceBEq, Int.reduceBNe, Nat.reduceBNe, Nat.reduceAdd, Nat.reduceMul, Nat.reduceEqDiff, Nat.reduceLeDiff, Nat.reduceLT, Nat.reduceBEq, reduceCtorEq, reduceIte, c1, c2, c3, hx5, lt_t hx5, lt_p hx5, nat_in (lt_n hx5) hlhx5, c9, g8_1, g8_20, g8_21, g8_22, og8_0]
          · try simp only [go_sem, Int.reduceLT, Int.reduceLE, Int.reduceBEq, Int.reduceBNe, Nat.reduceBNe, Nat.reduceAdd, Nat.reduceMul, Nat.reduceEqDiff, Nat.reduceLeDiff, Nat.reduceLT, Nat.reduceBEq, reduceCtorEq, reduceIte, c1, c2, c3, hx5, lt_t hx5, lt_p hx5, nat_in (lt_n hx5) hlhx5, c9, g8_1, g8_20, g8_21, g8_22, og8_0]
            refine ite_K h (fun c10 h => ?_) (fun c10 h => ?_)
            · replace h := inr_K h hy4
              obtain rfl := Option.some.inj h
              try simp only [go_sem, Int.reduceLT, Int.reduceLE, Int.reduceBEq, Int.reduceBNe, Nat.reduceBNe, Nat.reduceAdd, Nat.reduceMul, Nat.reduceEqDiff, Nat.reduceLeDiff, Nat.reduceLT, Nat.reduceBEq, reduceCtorEq, reduceIte, c1, c2, c3, hx5, lt_t hx5, lt_p hx5, nat_in (lt_n hx5) hlhx5, c9, c10, g8_1, g8_20, g8_21, g8_22, og8_0]
            · try simp only [go_sem, Int.reduceLT, Int.reduceLE, Int.reduceBEq, Int.reduceBNe, Nat.reduceBNe, Nat.reduceAdd, Nat.reduceMul, Nat.reduceEqDiff, Nat.reduceLeDiff, Nat.reduceLT, Nat.reduceBEq, reduceCtorEq, reduceIte, c1, c2, c3, hx5, lt_t hx5, lt_p hx5, nat_in (lt_n hx5) hlhx5, c9, c10, g8_1, g8_20, g8_21, g8_22, og8_0]
              obtain ⟨v10, e11, h⟩ := bind_K h
              refine call_K (by first | exact i_ascendingNodes_ok e11 | simpa only [go_sem, Int.reduceLT, Int.reduceLE, Int.reduceBEq, Int.reduceBNe, Nat.reduceBNe, Nat.reduceAdd, Nat.reduceMul, Nat.reduceEqDiff, Nat.reduceLeDiff, Nat.reduceLT, Nat.reduceBEq, reduceCtorEq, reduceIte, c1, c2, c3, hx5, lt_t hx5, lt_p hx5, nat_in (lt_n hx5) hlhx5, c9, c10, g8_1, g8_20, g8_21, g8_22, og8_0] using i_ascendingNodes_ok e11) ?_
              try simp only [go_sem, Int.reduceLT, Int.reduceLE, Int.reduceBEq, Int.reduceBNe, Nat.reduceBNe, Nat.reduceAdd, Nat.reduceMul, Nat.reduceEqDiff, Nat.reduceLeDiff, Nat.reduceLT, Nat.reduceBEq, reduceCtorEq, reduceIte, c1, c2, c3, hx5, lt_t hx5, lt_p hx5, nat_in (lt_n hx5) hlhx5, c9, c10, g8_1, g8_20, g8_21, g8_22, og8_0]
              refine ite_K h (fun c12 h => ?_) (fun c12 h => ?_)
              · try simp only [go_sem, Int.reduceLT, Int.reduceLE, Int.reduceBEq, Int.reduceBNe, Nat.reduceBNe, Nat.reduceAdd, Nat.reduceMul, Nat.reduceEqDiff, Nat.reduceLeDiff, Nat.reduceLT, Nat.reduceBEq, reduceCtorEq, reduceIte, c1, c2, c3, hx5, lt_t hx5, lt_p hx5, nat_in (lt_n hx5) hlhx5, c9, c10, c12, g8_1, g8_20, g8_21, g8_22, og8_0]
                obtain ⟨v11, e13, h⟩ := bind_K h
                refine call_K (by first | exact i_ascendingNodes_ok e13 | simpa only [go_sem, Int.reduceLT, Int.reduceLE, Int.reduceBEq, Int.reduceBNe, Nat.reduceBNe, Nat.reduceAdd, Nat.reduceMul, Nat.reduceEqDiff, Nat.reduceLeDiff, Nat.reduceLT, Nat.reduceBEq, reduceCtorEq, reduceIte, c1, c2, c3, hx5, lt_t hx5, lt_p hx5, nat_in (lt_n hx5) hlhx5, c9, c10, c12, g8_1, g8_20, g8_21, g8_22, og8_0] using i_ascendingNodes_ok e13) ?_
                try simp only [go_sem, Int.reduceLT, Int.reduceLE, Int.reduceBEq, Int.reduceBNe, Nat.reduceBNe, Nat.reduceAdd, Nat.reduceMul, Nat.reduceEqDiff, Nat.reduceLeDiff, Nat.reduceLT, Nat.reduceBEq, reduceCtorEq, reduceIte, c1, c2, c3, hx5, lt_t hx5, lt_p hx5, nat_in (lt_n hx5) hlhx5, c9, c10, c12, g8_1, g8_20, g8_21, g8_22, og8_0]
                refine ite_K h (fun c14 h => ?_) (fun c14 h => ?_)
                · try simp only [go_sem, Int.reduceLT, Int.reduceLE, Int.reduceBEq, Int.reduceBNe, Nat.reduceBNe, Nat.reduceAdd, Nat.reduceMul, Nat.reduceEqDiff, Nat.reduceLeDiff, Nat.reduceLT, Nat.reduceBEq, reduceCtorEq, reduceIte, c1, c2, c3, hx5, lt_t hx5, lt_p hx5, nat_in (lt_n hx5) hlhx5, c9, c10, c12, c14, g8_1, g8_20, g8_21, g8_22, og8_0]
                  refine ⟨_, [], [0], (Option.some.inj h).symm, by decide, ?_⟩
                  try simp only [go_sem, Int.reduceLT, Int.reduceLE, Int.reduceBEq, Int.reduceBNe, Nat.reduceBNe, Nat.reduceAdd, Nat.reduceMul, Nat.reduceEqDiff, Nat.reduceLeDiff, Nat.reduceLT, Nat.reduceBEq, reduceCtorEq, reduceIte, c1, c2, c3, hx5, lt_t hx5, lt_p hx5, nat_in (lt_n hx5) hlhx5, c9, c10, c12, c14, g8_1, g8_20, g8_21, g8_22, og8_0, IV, sts_cons, sts_nil, obs_cons, obs_nil]
                · replace h := inr_K h hy4
                  obtain rfl := Option.some.inj h
                  try simp only [go_sem, Int.reduceLT, Int.reduceLE, Int.reduceBEq, Int.reduceBNe, Nat.reduceBNe, Nat.reduceAdd, Nat.reduceMul, Nat.reduceEqDiff, Nat.reduceLeDiff, Nat.reduceLT, Nat.reduceBEq, reduceCtorEq, reduceIte, c1, c2, c3, hx5, lt_t hx5, lt_p hx5, nat_in (lt_n hx5) hlhx5, c9, c10, c12, c14, g8_1, g8_20, g8_21, g8_22, og8_0]
              · replace h := inr_K h hy4
                obtain rfl := Option.some.inj h
                try simp only [go_sem, Int.reduceLT, Int.reduceLE, Int.reduceBEq, Int.reduceBNe, Nat.reduceBNe, Nat.reduceAdd, Nat.reduceMul, Nat.reduceEqDiff, Nat.reduceLeDiff, Nat.reduceLT, Nat.reduceBEq, reduceCtorEq, reduceIte, c1, c2, c3, hx5, lt_t hx5, lt_p hx5, nat_in (lt_n hx5) hlhx5, c9, c10, c12, g8_1, g8_20, g8_21, g8_22, og8_0]
        · rintro ⟨⟩ ⟨sl, ob, n⟩ hI15 hW16 h
          simp only [IV, sts_cons, sts_nil, obs_cons, obs_nil, and_true, true_and, Nat.reduceAdd, str_len] at hI15
          obtain ⟨⟨g17_1, g17_20, g17_21, g17_22⟩, og17_0, hn⟩ := hI15
          subst hn
          obtain rfl := Option.some.inj h
          try simp only [go_sem, Int.reduceLT, Int.reduceLE, Int.reduceBEq, Int.reduceBNe, Nat.reduceBNe, Nat.reduceAdd, Nat.reduceMul, Nat.reduceEqDiff, Nat.reduceLeDiff, Nat.reduceLT, Nat.reduceBEq, reduceCtorEq, reduceIte, c1, c2, c3, lt_f (b_0.reasons.length), g17_1, g17_20, g17_21, g17_22, og17_0]
theorem i_LeastSets_ok {l_0 : (List Int)} {r : (List Int)} (h : i_LeastSets l_0 = some r) : Sound Try.prog J0 70 [(false, [.sl 3 1 (List.map eInt l_0)])] [(false, [(false, .sl 3 1 (List.map eInt r))])] := by
  refine fnk Try.func70 (by kernel_rfl) rfl (by kernel_rfl) (by kernel_rfl) ?_
  unfold i_LeastSets at h
  simp only [fnS, f70, argSt, go_sem, Int.reduceLT, Int.reduceLE, Int.reduceBEq, Int.reduceBNe, Nat.reduceBNe, Nat.reduceAdd, Nat.reduceMul, Nat.reduceEqDiff, Nat.reduceLeDiff, Nat.reduceLT, Nat.reduceBEq, reduceCtorEq, reduceIte]
  refine swp_for h (fun i row_33 st => IV [(0, .p false [.c (.sl 3 1 (List.map eInt l_0))]), (3, .p false [.row 0]), (9, .p false [.c (.sl 3 1 (List.map eInt l_0))]), (10, .p false [.c (.int .i64 ((l_0.length : Nat) : Int))]), (11, .p false [.c (.int .i64 ((i : Nat) : Int))])] [.row 3 1 (List.map eInt row_33) 2] st) [(false, 3, 0)] [80] (by decide) ?_ ?_ ?_
  · simp only [go_sem, Int.reduceLT, Int.reduceLE, Int.reduceBEq, Int.reduceBNe, Nat.reduceBNe, Nat.reduceAdd, Nat.reduceMul, Nat.reduceEqDiff, Nat.reduceLeDiff, Nat.reduceLT, Nat.reduceBEq, reduceCtorEq, reduceIte, IV, sts_cons, sts_nil, obs_cons, obs_nil]
  · rintro i54 x55 row_33 ⟨sl, ob, n⟩ y1 hx2 hI3 hW4 h hy1
    simp only [IV, sts_cons, sts_nil, obs_cons, obs_nil, and_true, true_and, Nat.reduceAdd, str_len] at hI3
    obtain ⟨⟨g5_0, g5_3, g5_9, g5_10, g5_11⟩, og5_0, hn⟩ := hI3
    subst hn
    have hlhx2 := WF.slotL hW4 g5_0 (j := 0) rfl
    try simp only [go_sem, Int.reduceLT, Int.reduceLE, Int.reduceBEq, Int.reduceBNe, Nat.reduceBNe, Nat.reduceAdd, Nat.reduceMul, Nat.reduceEqDiff, Nat.reduceLeDiff, Nat.reduceLT, Nat.reduceBEq, reduceCtorEq, reduceIte, hx2, lt_t hx2, lt_p hx2, nat_in (lt_n hx2) hlhx2, g5_0, g5_3, g5_9, g5_10, g5_11, og5_0]
    refine ite_K h (fun c6 h => ?_) (fun c6 h => ?_)
    · try simp only [go_sem, Int.reduceLT, Int.reduceLE, Int.reduceBEq, Int.reduceBNe, Nat.reduceBNe, Nat.reduceAdd, Nat.reduceMul, Nat.reduceEqDiff, Nat.reduceLeDiff, Nat.reduceLT, Nat.reduceBEq, reduceCtorEq, reduceIte, hx2, lt_t hx2, lt_p hx2, nat_in (lt_n hx2) hlhx2, c6, g5_0, g5_3, g5_9, g5_10, g5_11, og5_0]
      obtain ⟨v56, e7, h⟩ := bind_K h
      refine call_K (by first | exact i_hasInt_ok e7 | simpa only [go_sem, Int.reduceLT, Int.reduceLE, Int.reduceBEq, Int.reduceBNe, Nat.reduceBNe, Nat.reduceAdd, Nat.reduceMul, Nat.reduceEqDiff, Nat.reduceLeDiff, Nat.reduceLT, Nat.reduceBEq, reduceCtorEq, reduceIte, hx2, lt_t hx2, lt_p hx2, nat_in (lt_n hx2) hlhx2, c6, g5_0, g5_3, g5_9, g5_10, g5_11, og5_0] using i_hasInt_ok e7) ?_
      try simp only [go_sem, Int.reduceLT, Int.reduceLE, Int.reduceBEq, Int.reduceBNe, Nat.reduceBNe, Nat.reduceAdd, Nat.reduceMul, Nat.reduceEqDiff, Nat.reduceLeDiff, Nat.reduceLT, Nat.reduceBEq, reduceCtorEq, reduceIte, hx2, lt_t hx2, lt_p hx2, nat_in (lt_n hx2) hlhx2, c6, g5_0, g5_3, g5_9, g5_10, g5_11, og5_0]
      refine swp_for h (fun i s st => match s with | (u_59, u_60, least_62) => IV [(0, .p false [.c (.sl 3 1 (List.map eInt l_0))]), (3, .p false [.row 0]), (5, .p false [.c (.int .i64 x55)]), (6, .p false [.c (.bool least_62)]), (9, .p false [.c (.sl 3 1 (List.map eInt l_0))]), (10, .p false [.c (.int .i64 ((l_0.length : Nat) : Int))]), (11, .p false [.c (.int .i64 ((i54 : Nat) : Int))]), (18, .p false [.row 0]), (19, .p false [.c (.int .i64 x55)]), (20, .p false [.c (.bool u_59)]), (21, .p false [.c (.bool u_60)]), (23, .p false [.c (.sl 3 1 (List.map eInt l_0))]), (24, .p false [.c (.int .i64 ((l_0.length : Nat) : Int))]), (25, .p false [.c (.int .i64 ((i : Nat) : Int))])] [.row 3 1 (List.map eInt row_33) 2] st) [] [0] (by decide) ?_ ?_ ?_
      · simp only [go_sem, Int.reduceLT, Int.reduceLE, Int.reduceBEq, Int.reduceBNe, Nat.reduceBNe, Nat.reduceAdd, Nat.reduceMul, Nat.reduceEqDiff, Nat.reduceLeDiff, Nat.reduceLT, Nat.reduceBEq, reduceCtorEq, reduceIte, IV, sts_cons, sts_nil, obs_cons, obs_nil, hx2, lt_t hx2, lt_p hx2, nat_in (lt_n hx2) hlhx2, c6, g5_0, g5_3, g5_9, g5_10, g5_11, og5_0]
      · rintro i65 x66 ⟨u_59, u_60, least_62⟩ ⟨sl, ob, n⟩ y8 hx9 hI10 hW11 h hy8
        simp only [IV, sts_cons, sts_nil, obs_cons, obs_nil, and_true, true_and, Nat.reduceAdd, str_len] at hI10
        obtain ⟨⟨g12_0, g12_3, g12_5, g12_6, g12_9, g12_10, g12_11, g12_18, g12_19, g12_20, g12_21, g12_23, g12_24, g12_25⟩, og12_0, hn⟩ := hI10
        subst hn
        have hlhx9 := WF.slotL hW11 g12_0 (j := 0) rfl
        try simp only [go_sem, Int.reduceLT, Int.reduceLE, Int.reduceBEq, Int.reduceBNe, Nat.reduceBNe, Nat.reduceAdd, Nat.reduceMul, Nat.reduceEqDiff, Nat.reduceLeDiff, Nat.reduceLT, Nat.reduceBEq, reduceCtorEq, reduceIte, hx2, lt_t hx2, lt_p hx2, nat_in (lt_n hx2) hlhx2, c6, hx9, lt_t hx9, lt_p hx9, nat_in (lt_n hx9) hlhx9, g12_0, g12_3, g12_5, g12_6, g12_9, g12_10, g12_11, g12_18, g12_19, g12_20, g12_21, g12_23, g12_24, g12_25, og12_0]
        refine ite_K h (fun c13 h => ?_) (fun c13 h => ?_)
        · try simp only [go_sem, Int.reduceLT, Int.reduceLE, Int.reduceBEq, Int.reduceBNe, Nat.reduceBNe, Nat.reduceAdd, Nat.reduceMul, Nat.reduceEqDiff, Nat.reduceLeDiff, Nat.reduceLT, Nat.reduceBEq, reduceCtorEq, reduceIte, hx2, lt_t hx2, lt_p hx2, nat_in (lt_n hx2) hlhx2, c6, hx9, lt_t hx9, lt_p hx9, nat_in (lt_n hx9) hlhx9, c13, g12_0, g12_3, g12_5, g12_6, g12_9, g12_10, g12_11, g12_18, g12_19, g12_20, g12_21, g12_23, g12_24, g12_25, og12_0]
          refine ite_K h (fun c14 h => ?_) (fun c14 h => ?_)
          · try simp only [go_sem, Int.reduceLT, Int.reduceLE, Int.reduceBEq, Int.reduceBNe, Nat.reduceBNe, Nat.reduceAdd, Nat.reduceMul, Nat.reduceEqDiff, Nat.reduceLeDiff, Nat.reduceLT, Nat.reduceBEq, reduceCtorEq, reduceIte, hx2, lt_t hx2, lt_p hx2, nat_in (lt_n hx2) hlhx2, c6, hx9, lt_t hx9, lt_p hx9, nat_in (lt_n hx9) hlhx9, c13, c14, g12_0, g12_3, g12_5, g12_6, g12_9, g12_10, g12_11, g12_18, g12_19, g12_20, g12_21, g12_23, g12_24, g12_25, og12_0]
            refine ⟨_, [], [0], (Option.some.inj h).symm, by decide, ?_⟩
            try simp only [go_sem, Int.reduceLT, Int.reduceLE, Int.reduceBEq, Int.reduceBNe, Nat.reduceBNe, Nat.reduceAdd, Nat.reduceMul, Nat.reduceEqDiff, Nat.reduceLeDiff, Nat.reduceLT, Nat.reduceBEq, reduceCtorEq, reduceIte, hx2, lt_t hx2, lt_p hx2, nat_in (lt_n hx2) hlhx2, c6, hx9, lt_t hx9, lt_p hx9, nat_in (lt_n hx9) hlhx9, c13, c14, g12_0, g12_3, g12_5, g12_6, g12_9, g12_10, g12_11, g12_18, g12_19, g12_20, g12_21, g12_23, g12_24, g12_25, og12_0, IV, sts_cons, sts_nil, obs_cons, obs_nil]
          · try simp only [go_sem, Int.reduceLT, Int.reduceLE, Int.reduceBEq, Int.reduceBNe, Nat.reduceBNe, Nat.reduceAdd, Nat.reduceMul, Nat.reduceEqDiff, Nat.reduceLeDiff, Nat.reduceLT, Nat.reduceBEq, reduceCtorEq, reduceIte, hx2, lt_t hx2, lt_p hx2, nat_in (lt_n hx2) hlhx2, c6, hx9, lt_t hx9, lt_p hx9, nat_in (lt_n hx9) hlhx9, c13, c14, g12_0, g12_3, g12_5, g12_6, g12_9, g12_10, g12_11, g12_18, g12_19, g12_20, g12_21, g12_23, g12_24, g12_25, og12_0]
            obtain ⟨v67, e15, h⟩ := bind_K h
            refine call_K (by first | exact i_IsPart_ok e15 | simpa only [go_sem, Int.reduceLT, Int.reduceLE, Int.reduceBEq, Int.reduceBNe, Nat.reduceBNe, Nat.reduceAdd, Nat.reduceMul, Nat.reduceEqDiff, Nat.reduceLeDiff, Nat.reduceLT, Nat.reduceBEq, reduceCtorEq, reduceIte, hx2, lt_t hx2, lt_p hx2, nat_in (lt_n hx2) hlhx2, c6, hx9, lt_t hx9, lt_p hx9, nat_in (lt_n hx9) hlhx9, c13, c14, g12_0, g12_3, g12_5, g12_6, g12_9, g12_10, g12_11, g12_18, g12_19, g12_20, g12_21, g12_23, g12_24, g12_25, og12_0] using i_IsPart_ok e15) ?_
            try simp only [go_sem, Int.reduceLT, Int.reduceLE, Int.reduceBEq, Int.reduceBNe, Nat.reduceBNe, Nat.reduceAdd, Nat.reduceMul, Nat.reduceEqDiff, Nat.reduceLeDiff, Nat.reduceLT, Nat.reduceBEq, reduceCtorEq, reduceIte, hx2, lt_t hx2, lt_p hx2, nat_in (lt_n hx2) hlhx2, c6, hx9, lt_t hx9, lt_p hx9, nat_in (lt_n hx9) hlhx9, c13, c14, g12_0, g12_3, g12_5, g12_6, g12_9, g12_10, g12_11, g12_18, g12_19, g12_20, g12_21, g12_23, g12_24, g12_25, og12_0]
            refine ⟨_, [], [0], (Option.some.inj h).symm, by decide, ?_⟩
            try simp only [go_sem, Int.reduceLT, Int.reduceLE, Int.reduceBEq, Int.reduceBNe, Nat.reduceBNe, Nat.reduceAdd, Nat.reduceMul, Nat.reduceEqDiff, Nat.reduceLeDiff, Nat.reduceLT, Nat.reduceBEq, reduceCtorEq, reduceIte, hx2, lt_t hx2, lt_p hx2, nat_in (lt_n hx2) hlhx2, c6, hx9, lt_t hx9, lt_p hx9, nat_in (lt_n hx9) hlhx9, c13, c14, g12_0, g12_3, g12_5, g12_6, g12_9, g12_10, g12_11, g12_18, g12_19, g12_20, g12_21, g12_23, g12_24, g12_25, og12_0, IV, sts_cons, sts_nil, obs_cons, obs_nil]
        · try simp only [go_sem, Int.reduceLT, Int.reduceLE, Int.reduceBEq, Int.reduceBNe, Nat.reduceBNe, Nat.reduceAdd, Nat.reduceMul, Nat.reduceEqDiff, Nat.reduceLeDiff, Nat.reduceLT, Nat.reduceBEq, reduceCtorEq, reduceIte, hx2, lt_t hx2, lt_p hx2, nat_in (lt_n hx2) hlhx2, c6, hx9, lt_t hx9, lt_p hx9, nat_in (lt_n hx9) hlhx9, c13, g12_0, g12_3, g12_5, g12_6, g12_9, g12_10, g12_11, g12_18, g12_19, g12_20, g12_21, g12_23, g12_24, g12_25, og12_0]
          refine ⟨_, [], [0], (Option.some.inj h).symm, by decide, ?_⟩
          try simp only [go_sem, Int.reduceLT, Int.reduceLE, Int.reduceBEq, Int.reduceBNe, Nat.reduceBNe, Nat.reduceAdd, Nat.reduceMul, Nat.reduceEqDiff, Nat.reduceLeDiff, Nat.reduceLT, Nat.reduceBEq, reduceCtorEq, reduceIte, hx2, lt_t hx2, lt_p hx2, nat_in (lt_n hx2) hlhx2, c6, hx9, lt_t hx9, lt_p hx9, nat_in (lt_n hx9) hlhx9, c13, g12_0, g12_3, g12_5, g12_6, g12_9, g12_10, g12_11, g12_18, g12_19, g12_20, g12_21, g12_23, g12_24, g12_25, og12_0, IV, sts_cons, sts_nil, obs_cons, obs_nil]
      · rintro ⟨u_59, u_60, least_62⟩ ⟨sl, ob, n⟩ hI16 hW17 h
        simp only [IV, sts_cons, sts_nil, obs_cons, obs_nil, and_true, true_and, Nat.reduceAdd, str_len] at hI16
        obtain ⟨⟨g18_0, g18_3, g18_5, g18_6, g18_9, g18_10, g18_11, g18_18, g18_19, g18_20, g18_21, g18_23, g18_24, g18_25⟩, og18_0, hn⟩ := hI16
        subst hn
        try simp only [go_sem, Int.reduceLT, Int.reduceLE, Int.reduceBEq, Int.reduceBNe, Nat.reduceBNe, Nat.reduceAdd, Nat.reduceMul, Nat.reduceEqDiff, Nat.reduceLeDiff, Nat.reduceLT, Nat.reduceBEq, reduceCtorEq, reduceIte, hx2, lt_t hx2, lt_p hx2, nat_in (lt_n hx2) hlhx2, c6, lt_f (l_0.length), g18_0, g18_3, g18_5, g18_6, g18_9, g18_10, g18_11, g18_18, g18_19, g18_20, g18_21, g18_23, g18_24, g18_25, og18_0]
        refine ite_K h (fun c19 h => ?_) (fun c19 h => ?_)
        · obtain ⟨p20, h⟩ := chk_K h
          try simp only [Nat.reduceLeDiff] at p20
          try simp only [go_sem, Int.reduceLT, Int.reduceLE, Int.reduceBEq, Int.reduceBNe, Nat.reduceBNe, Nat.reduceAdd, Nat.reduceMul, Nat.reduceEqDiff, Nat.reduceLeDiff, Nat.reduceLT, Nat.reduceBEq, reduceCtorEq, reduceIte, hx2, lt_t hx2, lt_p hx2, nat_in (lt_n hx2) hlhx2, c6, lt_f (l_0.length), c19, p20, g18_0, g18_3, g18_5, g18_6, g18_9, g18_10, g18_11, g18_18, g18_19, g18_20, g18_21, g18_23, g18_24, g18_25, og18_0]
          refine ⟨_, [], [81], (Option.some.inj h).symm, by decide, ?_⟩
          try simp only [go_sem, Int.reduceLT, Int.reduceLE, Int.reduceBEq, Int.reduceBNe, Nat.reduceBNe, Nat.reduceAdd, Nat.reduceMul, Nat.reduceEqDiff, Nat.reduceLeDiff, Nat.reduceLT, Nat.reduceBEq, reduceCtorEq, reduceIte, hx2, lt_t hx2, lt_p hx2, nat_in (lt_n hx2) hlhx2, c6, lt_f (l_0.length), c19, p20, g18_0, g18_3, g18_5, g18_6, g18_9, g18_10, g18_11, g18_18, g18_19, g18_20, g18_21, g18_23, g18_24, g18_25, og18_0, IV, sts_cons, sts_nil, obs_cons, obs_nil]
        · try simp only [go_sem, Int.reduceLT, Int.reduceLE, Int.reduceBEq, Int.reduceBNe, Nat.reduceBNe, Nat.reduceAdd, Nat.reduceMul, Nat.reduceEqDiff, Nat.reduceLeDiff, Nat.reduceLT, Nat.reduceBEq, reduceCtorEq, reduceIte, hx2, lt_t hx2, lt_p hx2, nat_in (lt_n hx2) hlhx2, c6, lt_f (l_0.length), c19, g18_0, g18_3, g18_5, g18_6, g18_9, g18_10, g18_11, g18_18, g18_19, g18_20, g18_21, g18_23, g18_24, g18_25, og18_0]
          refine ⟨_, [], [0], (Option.some.inj h).symm, by decide, ?_⟩
          try simp only [go_sem, Int.reduceLT, Int.reduceLE, Int.reduceBEq, Int.reduceBNe, Nat.reduceBNe, Nat.reduceAdd, Nat.reduceMul, Nat.reduceEqDiff, Nat.reduceLeDiff, Nat.reduceLT, Nat.reduceBEq, reduceCtorEq, reduceIte, hx2, lt_t hx2, lt_p hx2, nat_in (lt_n hx2) hlhx2, c6, lt_f (l_0.length), c19, g18_0, g18_3, g18_5, g18_6, g18_9, g18_10, g18_11, g18_18, g18_19, g18_20, g18_21, g18_23, g18_24, g18_25, og18_0, IV, sts_cons, sts_nil, obs_cons, obs_nil]
    · try simp only [go_sem, Int.reduceLT, Int.reduceLE, Int.reduceBEq, Int.reduceBNe, Nat.reduceBNe, Nat.reduceAdd, Nat.reduceMul, Nat.reduceEqDiff, Nat.reduceLeDiff, Nat.reduceLT, Nat.reduceBEq, reduceCtorEq, reduceIte, hx2, lt_t hx2, lt_p hx2, nat_in (lt_n hx2) hlhx2, c6, g5_0, g5_3, g5_9, g5_10, g5_11, og5_0]
      refine swp_for h (fun i _ st => IV [(0, .p false [.c (.sl 3 1 (List.map eInt l_0))]), (3, .p false [.row 0]), (5, .p false [.c (.int .i64 x55)]), (6, .p false [.c (.bool false)]), (9, .p false [.c (.sl 3 1 (List.map eInt l_0))]), (10, .p false [.c (.int .i64 ((l_0.length : Nat) : Int))]), (11, .p false [.c (.int .i64 ((i54 : Nat) : Int))]), (23, .p false [.c (.sl 3 1 (List.map eInt l_0))]), (24, .p false [.c (.int .i64 ((l_0.length : Nat) : Int))]), (25, .p false [.c (.int .i64 ((i : Nat) : Int))])] [.row 3 1 (List.map eInt row_33) 2] st) [] [0] (by decide) ?_ ?_ ?_
      · simp only [go_sem, Int.reduceLT, Int.reduceLE, Int.reduceBEq, Int.reduceBNe, Nat.reduceBNe, Nat.reduceAdd, Nat.reduceMul, Nat.reduceEqDiff, Nat.reduceLeDiff, Nat.reduceLT, Nat.reduceBEq, reduceCtorEq, reduceIte, IV, sts_cons, sts_nil, obs_cons, obs_nil, hx2, lt_t hx2, lt_p hx2, nat_in (lt_n hx2) hlhx2, c6, g5_0, g5_3, g5_9, g5_10, g5_11, og5_0]
      · rintro i71 x72 ⟨⟩ ⟨sl, ob, n⟩ y21 hx22 hI23 hW24 h hy21
        simp only [IV, sts_cons, sts_nil, obs_cons, obs_nil, and_true, true_and, Nat.reduceAdd, str_len] at hI23
        obtain ⟨⟨g25_0, g25_3, g25_5, g25_6, g25_9, g25_10, g25_11, g25_23, g25_24, g25_25⟩, og25_0, hn⟩ := hI23
        subst hn
        have hlhx22 := WF.slotL hW24 g25_0 (j := 0) rfl
        try simp only [go_sem, Int.reduceLT, Int.reduceLE, Int.reduceBEq, Int.reduceBNe, Nat.reduceBNe, Nat.reduceAdd, Nat.reduceMul, Nat.reduceEqDiff, Nat.reduceLeDiff, Nat.reduceLT, Nat.reduceBEq, reduceCtorEq, reduceIte, hx2, lt_t hx2, lt_p hx2, nat_in (lt_n hx2) hlhx2, c6, hx22, lt_t hx22, lt_p hx22, nat_in (lt_n hx22) hlhx22, g25_0, g25_3, g25_5, g25_6, g25_9, g25_10, g25_11, g25_23, g25_24, g25_25, og25_0]
        refine ⟨_, [], [0], (Option.some.inj h).symm, by decide, ?_⟩
        try simp only [go_sem, Int.reduceLT, Int.reduceLE, Int.reduceBEq, Int.reduceBNe, Nat.reduceBNe, Nat.reduceAdd, Nat.reduceMul, Nat.reduceEqDiff, Nat.reduceLeDiff, Nat.reduceLT, Nat.reduceBEq, reduceCtorEq, reduceIte, hx2, lt_t hx2, lt_p hx2, nat_in (lt_n hx2) hlhx2, c6, hx22, lt_t hx22, lt_p hx22, nat_in (lt_n hx22) hlhx22, g25_0, g25_3, g25_5, g25_6, g25_9, g25_10, g25_11, g25_23, g25_24, g25_25, og25_0, IV, sts_cons, sts_nil, obs_cons, obs_nil]
      · rintro ⟨⟩ ⟨sl, ob, n⟩ hI26 hW27 h
        simp only [IV, sts_cons, sts_nil, obs_cons, obs_nil, and_true, true_and, Nat.reduceAdd, str_len] at hI26
        obtain ⟨⟨g28_0, g28_3, g28_5, g28_6, g28_9, g28_10, g28_11, g28_23, g28_24, g28_25⟩, og28_0, hn⟩ := hI26
        subst hn
        try simp only [go_sem, Int.reduceLT, Int.reduceLE, Int.reduceBEq, Int.reduceBNe, Nat.reduceBNe, Nat.reduceAdd, Nat.reduceMul, Nat.reduceEqDiff, Nat.reduceLeDiff, Nat.reduceLT, Nat.reduceBEq, reduceCtorEq, reduceIte, hx2, lt_t hx2, lt_p hx2, nat_in (lt_n hx2) hlhx2, c6, lt_f (l_0.length), g28_0, g28_3, g28_5, g28_6, g28_9, g28_10, g28_11, g28_23, g28_24, g28_25, og28_0]
        refine ⟨_, [], [0], (Option.some.inj h).symm, by decide, ?_⟩
        try simp only [go_sem, Int.reduceLT, Int.reduceLE, Int.reduceBEq, Int.reduceBNe, Nat.reduceBNe, Nat.reduceAdd, Nat.reduceMul, Nat.reduceEqDiff, Nat.reduceLeDiff, Nat.reduceLT, Nat.reduceBEq, reduceCtorEq, reduceIte, hx2, lt_t hx2, lt_p hx2, nat_in (lt_n hx2) hlhx2, c6, lt_f (l_0.length), g28_0, g28_3, g28_5, g28_6, g28_9, g28_10, g28_11, g28_23, g28_24, g28_25, og28_0, IV, sts_cons, sts_nil, obs_cons, obs_nil]
  · rintro row_33 ⟨sl, ob, n⟩ hI29 hW30 h
    simp only [IV, sts_cons, sts_nil, obs_cons, obs_nil, and_true, true_and, Nat.reduceAdd, str_len] at hI29
    obtain ⟨⟨g31_0, g31_3, g31_9, g31_10, g31_11⟩, og31_0, hn⟩ := hI29
    subst hn
    try simp only [go_sem, Int.reduceLT, Int.reduceLE, Int.reduceBEq, Int.reduceBNe, Nat.reduceBNe, Nat.reduceAdd, Nat.reduceMul, Nat.reduceEqDiff, Nat.reduceLeDiff, Nat.reduceLT, Nat.reduceBEq, reduceCtorEq, reduceIte, lt_f (l_0.length), g31_0, g31_3, g31_9, g31_10, g31_11, og31_0]
    obtain ⟨v73, e32, h⟩ := bind_K h
    refine hand_K (by first | exact x_sortInts_ok e32 | simpa only [go_sem, Int.reduceLT, Int.reduceLE, Int.reduceBEq, Int.reduceBNe, Nat.reduceBNe, Nat.reduceAdd, Nat.reduceMul, Nat.reduceEqDiff, Nat.reduceLeDiff, Nat.reduceLT, Nat.reduceBEq, reduceCtorEq, reduceIte, lt_f (l_0.length), g31_0, g31_3, g31_9, g31_10, g31_11, og31_0] using x_sortInts_ok e32) ?_
    obtain rfl := Option.some.inj h
    try simp only [go_sem, Int.reduceLT, Int.reduceLE, Int.reduceBEq, Int.reduceBNe, Nat.reduceBNe, Nat.reduceAdd, Nat.reduceMul, Nat.reduceEqDiff, Nat.reduceLeDiff, Nat.reduceLT, Nat.reduceBEq, reduceCtorEq, reduceIte, lt_f (l_0.length), g31_0, g31_3, g31_9, g31_10, g31_11, og31_0]
theorem i_copyReason_ok {r_0 : ReasonD} {r : ReasonD} (h : i_copyReason r_0 = some r) : Sound Try.prog J0 164 [(true, eReason r_0)] [(true, [(false, .int .i64 r.for_), (false, .sl 3 1 (List.map eInt r.inn)), (false, .sl 3 1 (List.map eInt r.outs))])] := by
  refine fnk Try.func164 (by kernel_rfl) rfl (by kernel_rfl) (by kernel_rfl) ?_
  unfold i_copyReason at h
  simp only [fnS, f164, argSt, go_sem, Int.reduceLT, Int.reduceLE, Int.reduceBEq, Int.reduceBNe, Nat.reduceBNe, Nat.reduceAdd, Nat.reduceMul, Nat.reduceEqDiff, Nat.reduceLeDiff, Nat.reduceLT, Nat.reduceBEq, reduceCtorEq, reduceIte]
  obtain ⟨v1, e1, h⟩ := bind_K h
  refine call_K (by first | exact i_copyInts_ok e1 | simpa only [go_sem, Int.reduceLT, Int.reduceLE, Int.reduceBEq, Int.reduceBNe, Nat.reduceBNe, Nat.reduceAdd, Nat.reduceMul, Nat.reduceEqDiff, Nat.reduceLeDiff, Nat.reduceLT, Nat.reduceBEq, reduceCtorEq, reduceIte] using i_copyInts_ok e1) ?_
  try simp only [go_sem, Int.reduceLT, Int.reduceLE, Int.reduceBEq, Int.reduceBNe, Nat.reduceBNe, Nat.reduceAdd, Nat.reduceMul, Nat.reduceEqDiff, Nat.reduceLeDiff, Nat.reduceLT, Nat.reduceBEq, reduceCtorEq, reduceIte]
  obtain ⟨v2, e2, h⟩ := bind_K h
  refine call_K (by first | exact i_copyInts_ok e2 | simpa only [go_sem, Int.reduceLT, Int.reduceLE, Int.reduceBEq, Int.reduceBNe, Nat.reduceBNe, Nat.reduceAdd, Nat.reduceMul, Nat.reduceEqDiff, Nat.reduceLeDiff, Nat.reduceLT, Nat.reduceBEq, reduceCtorEq, reduceIte] using i_copyInts_ok e2) ?_
  obtain rfl := Option.some.inj h
  try simp only [go_sem, Int.reduceLT, Int.reduceLE, Int.reduceBEq, Int.reduceBNe, Nat.reduceBNe, Nat.reduceAdd, Nat.reduceMul, Nat.reduceEqDiff, Nat.reduceLeDiff, Nat.reduceLT, Nat.reduceBEq, reduceCtorEq, reduceIte]
end Go.Proofs.Ytccbhhglghboaaa

namespace Go.Proofs.Ytccbhhglghboaaa
open Go.Proofs.Try
set_option linter.unusedSimpArgs false
set_option linter.unusedVariables false
set_option maxRecDepth 1000000
set_option maxHeartbeats 4000000
theorem s_l11List_ok {l_0 : (List Int)} {n_1 : Int} {r : Bool} (h : s_l11List l_0 n_1 = some r) : Sound Try.prog J0 161 [(false, [.sl 3 1 (List.map eInt l_0)]), (false, [.int .i64 n_1])] [(false, [(false, .bool r)])] := by
  refine fnk Try.func161 (by kernel_rfl) rfl (by kernel_rfl) (by kernel_rfl) ?_
  unfold s_l11List at h
  simp only [fnS, f161, argSt, go_sem, Int.reduceLT, Int.reduceLE, Int.reduceBEq, Int.reduceBNe, Nat.reduceBNe, Nat.reduceAdd, Nat.reduceMul, Nat.reduceEqDiff, Nat.reduceLeDiff, Nat.reduceLT, Nat.reduceBEq, reduceCtorEq, reduceIte]
  refine swp_for h (fun i _ st => IV [(0, .p false [.c (.sl 3 1 (List.map eInt l_0))]), (1, .p false [.c (.int .i64 n_1)]), (5, .p false [.c (.int .i64 ((i : Nat) : Int))])] [] st) [] [] (by decide) ?_ ?_ ?_
  · simp only [go_sem, Int.reduceLT, Int.reduceLE, Int.reduceBEq, Int.reduceBNe, Nat.reduceBNe, Nat.reduceAdd, Nat.reduceMul, Nat.reduceEqDiff, Nat.reduceLeDiff, Nat.reduceLT, Nat.reduceBEq, reduceCtorEq, reduceIte, IV, sts_cons, sts_nil, obs_cons, obs_nil]
  · rintro i7 x8 ⟨⟩ ⟨sl, ob, n⟩ y1 hx2 hI3 hW4 h hy1
    simp only [IV, sts_cons, sts_nil, obs_cons, obs_nil, and_true, true_and, Nat.reduceAdd, str_len] at hI3
    obtain ⟨⟨g5_0, g5_1, g5_5⟩, hn⟩ := hI3
    subst hn
    have hlhx2 := WF.slotL hW4 g5_0 (j := 0) rfl
    try simp only [go_sem, Int.reduceLT, Int.reduceLE, Int.reduceBEq, Int.reduceBNe, Nat.reduceBNe, Nat.reduceAdd, Nat.reduceMul, Nat.reduceEqDiff, Nat.reduceLeDiff, Nat.reduceLT, Nat.reduceBEq, reduceCtorEq, reduceIte, hx2, lt_t hx2, lt_p hx2, nat_in (lt_n hx2) hlhx2, g5_0, g5_1, g5_5]
    obtain ⟨v9, e6, h⟩ := bind_K h
    refine call_K (by first | exact s_l1In_ok e6 | simpa only [go_sem, Int.reduceLT, Int.reduceLE, Int.reduceBEq, Int.reduceBNe, Nat.reduceBNe, Nat.reduceAdd, Nat.reduceMul, Nat.reduceEqDiff, Nat.reduceLeDiff, Nat.reduceLT, Nat.reduceBEq, reduceCtorEq, reduceIte, hx2, lt_t hx2, lt_p hx2, nat_in (lt_n hx2) hlhx2, g5_0, g5_1, g5_5] using s_l1In_ok e6) ?_
    try simp only [go_sem, Int.reduceLT, Int.reduceLE, Int.reduceBEq, Int.reduceBNe, Nat.reduceBNe, Nat.reduceAdd, Nat.reduceMul, Nat.reduceEqDiff, Nat.reduceLeDiff, Nat.reduceLT, Nat.reduceBEq, reduceCtorEq, reduceIte, hx2, lt_t hx2, lt_p hx2, nat_in (lt_n hx2) hlhx2, g5_0, g5_1, g5_5]
    refine ite_K h (fun c7 h => ?_) (fun c7 h => ?_)
    · try simp only [go_sem, Int.reduceLT, Int.reduceLE, Int.reduceBEq, Int.reduceBNe, Nat.reduceBNe, Nat.reduceAdd, Nat.reduceMul, Nat.reduceEqDiff, Nat.reduceLeDiff, Nat.reduceLT, Nat.reduceBEq, reduceCtorEq, reduceIte, hx2, lt_t hx2, lt_p hx2, nat_in (lt_n hx2) hlhx2, c7, g5_0, g5_1, g5_5]
      refine ite_K h (fun c8 h => ?_) (fun c8 h => ?_)
      · obtain ⟨x10, a9, a10, e11, h⟩ := at_K h
        try simp only [go_sem, Int.reduceLT, Int.reduceLE, Int.reduceBEq, Int.reduceBNe, Nat.reduceBNe, Nat.reduceAdd, Nat.reduceMul, Nat.reduceEqDiff, Nat.reduceLeDiff, Nat.reduceLT, Nat.reduceBEq, reduceCtorEq, reduceIte, hx2, lt_t hx2, lt_p hx2, nat_in (lt_n hx2) hlhx2, c7, c8, a9, a10, e11, g5_0, g5_1, g5_5]
        refine ite_K h (fun c12 h => ?_) (fun c12 h => ?_)
        · replace h := inr_K h hy1
          obtain rfl := Option.some.inj h
          try simp only [go_sem, Int.reduceLT, Int.reduceLE, Int.reduceBEq, Int.reduceBNe, Nat.reduceBNe, Nat.reduceAdd, Nat.reduceMul, Nat.reduceEqDiff, Nat.reduceLeDiff, Nat.reduceLT, Nat.reduceBEq, reduceCtorEq, reduceIte, hx2, lt_t hx2, lt_p hx2, nat_in (lt_n hx2) hlhx2, c7, c8, a9, a10, e11, c12, g5_0, g5_1, g5_5]
        · try simp only [go_sem, Int.reduceLT, Int.reduceLE, Int.reduceBEq, Int.reduceBNe, Nat.reduceBNe, Nat.reduceAdd, Nat.reduceMul, Nat.reduceEqDiff, Nat.reduceLeDiff, Nat.reduceLT, Nat.reduceBEq, reduceCtorEq, reduceIte, hx2, lt_t hx2, lt_p hx2, nat_in (lt_n hx2) hlhx2, c7, c8, a9, a10, e11, c12, g5_0, g5_1, g5_5]
          refine ⟨_, [], [], (Option.some.inj h).symm, by decide, ?_⟩
          try simp only [go_sem, Int.reduceLT, Int.reduceLE, Int.reduceBEq, Int.reduceBNe, Nat.reduceBNe, Nat.reduceAdd, Nat.reduceMul, Nat.reduceEqDiff, Nat.reduceLeDiff, Nat.reduceLT, Nat.reduceBEq, reduceCtorEq, reduceIte, hx2, lt_t hx2, lt_p hx2, nat_in (lt_n hx2) hlhx2, c7, c8, a9, a10, e11, c12, g5_0, g5_1, g5_5, IV, sts_cons, sts_nil, obs_cons, obs_nil]
      · try simp only [go_sem, Int.reduceLT, Int.reduceLE, Int.reduceBEq, Int.reduceBNe, Nat.reduceBNe, Nat.reduceAdd, Nat.reduceMul, Nat.reduceEqDiff, Nat.reduceLeDiff, Nat.reduceLT, Nat.reduceBEq, reduceCtorEq, reduceIte, hx2, lt_t hx2, lt_p hx2, nat_in (lt_n hx2) hlhx2, c7, c8, g5_0, g5_1, g5_5]
        refine ⟨_, [], [], (Option.some.inj h).symm, by decide, ?_⟩
        try simp only [go_sem, Int.reduceLT, Int.reduceLE, Int.reduceBEq, Int.reduceBNe, Nat.reduceBNe, Nat.reduceAdd, Nat.reduceMul, Nat.reduceEqDiff, Nat.reduceLeDiff, Nat.reduceLT, Nat.reduceBEq, reduceCtorEq, reduceIte, hx2, lt_t hx2, lt_p hx2, nat_in (lt_n hx2) hlhx2, c7, c8, g5_0, g5_1, g5_5, IV, sts_cons, sts_nil, obs_cons, obs_nil]
    · replace h := inr_K h hy1
      obtain rfl := Option.some.inj h
      try simp only [go_sem, Int.reduceLT, Int.reduceLE, Int.reduceBEq, Int.reduceBNe, Nat.reduceBNe, Nat.reduceAdd, Nat.reduceMul, Nat.reduceEqDiff, Nat.reduceLeDiff, Nat.reduceLT, Nat.reduceBEq, reduceCtorEq, reduceIte, hx2, lt_t hx2, lt_p hx2, nat_in (lt_n hx2) hlhx2, c7, g5_0, g5_1, g5_5]
  · rintro ⟨⟩ ⟨sl, ob, n⟩ hI13 hW14 h
    simp only [IV, sts_cons, sts_nil, obs_cons, obs_nil, and_true, true_and, Nat.reduceAdd, str_len] at hI13
    obtain ⟨⟨g15_0, g15_1, g15_5⟩, hn⟩ := hI13
    subst hn
    obtain rfl := Option.some.inj h
    try simp only [go_sem, Int.reduceLT, Int.reduceLE, Int.reduceBEq, Int.reduceBNe, Nat.reduceBNe, Nat.reduceAdd, Nat.reduceMul, Nat.reduceEqDiff, Nat.reduceLeDiff, Nat.reduceLT, Nat.reduceBEq, reduceCtorEq, reduceIte, lt_f (l_0.length), g15_0, g15_1, g15_5]
end Go.Proofs.Ytccbhhglghboaaa

namespace Go.Proofs.Ytccbhhglghboaaa
open Go.Proofs.Try
set_option linter.unusedSimpArgs false
set_option linter.unusedVariables false
set_option maxRecDepth 1000000
set_option maxHeartbeats 4000000
theorem i_strata_ok {append_0 : BeliefsD} {r : (List Int)} (h : i_strata append_0 = some r) : Sound Try.prog J0 184 [(true, eBeliefs append_0)] [(false, [(false, .sl 3 1 (List.map eInt r))])] := by
  refine fnk Try.func184 (by kernel_rfl) rfl (by kernel_rfl) (by kernel_rfl) ?_
  unfold i_strata at h
  simp only [fnS, f184, argSt, go_sem, Int.reduceLT, Int.reduceLE, Int.reduceBEq, Int.reduceBNe, Nat.reduceBNe, Nat.reduceAdd, Nat.reduceMul, Nat.reduceEqDiff, Nat.reduceLeDiff, Nat.reduceLT, Nat.reduceBEq, reduceCtorEq, reduceIte]
  obtain ⟨p1, h⟩ := chk_K h
  try simp only [go_sem, Int.reduceLT, Int.reduceLE, Int.reduceBEq, Int.reduceBNe, Nat.reduceBNe, Nat.reduceAdd, Nat.reduceMul, Nat.reduceEqDiff, Nat.reduceLeDiff, Nat.reduceLT, Nat.reduceBEq, reduceCtorEq, reduceIte, p1.1, p1.2]
  refine swp_iter h (fun s st => match s with | (row_92, u_93) => IV [(1, .bp 0 0), (3, .p false [.row 1]), (4, .p false [.c (.bool u_93)])] [.box 50 [.c (.int .i64 append_0.nodes), .c (.sl 147 3 (List.map eReason append_0.reasons))], .row 3 1 (List.map eInt row_92) 2] st) [] [0, 64] (by decide) ?_ ?_
  · simp only [go_sem, Int.reduceLT, Int.reduceLE, Int.reduceBEq, Int.reduceBNe, Nat.reduceBNe, Nat.reduceAdd, Nat.reduceMul, Nat.reduceEqDiff, Nat.reduceLeDiff, Nat.reduceLT, Nat.reduceBEq, reduceCtorEq, reduceIte, IV, sts_cons, sts_nil, obs_cons, obs_nil, p1.1, p1.2]
  · rintro ⟨row_92, u_93⟩ ⟨sl, ob, n⟩ y2 hI3 hW4 h hy2
    simp only [IV, sts_cons, sts_nil, obs_cons, obs_nil, and_true, true_and, Nat.reduceAdd, str_len] at hI3
    obtain ⟨⟨g5_1, g5_3, g5_4⟩, og5_0, og5_1, hn⟩ := hI3
    subst hn
    try simp only [go_sem, Int.reduceLT, Int.reduceLE, Int.reduceBEq, Int.reduceBNe, Nat.reduceBNe, Nat.reduceAdd, Nat.reduceMul, Nat.reduceEqDiff, Nat.reduceLeDiff, Nat.reduceLT, Nat.reduceBEq, reduceCtorEq, reduceIte, p1.1, p1.2, g5_1, g5_3, g5_4, og5_0, og5_1]
    refine ite_K h (fun c6 h => ?_) (fun c6 h => ?_)
    · try simp only [go_sem, Int.reduceLT, Int.reduceLE, Int.reduceBEq, Int.reduceBNe, Nat.reduceBNe, Nat.reduceAdd, Nat.reduceMul, Nat.reduceEqDiff, Nat.reduceLeDiff, Nat.reduceLT, Nat.reduceBEq, reduceCtorEq, reduceIte, p1.1, p1.2, c6, g5_1, g5_3, g5_4, og5_0, og5_1]
      refine swp_for h (fun i s st => match s with | (row_123, u_125) => IV [(1, .bp 0 0), (3, .p false [.row 1]), (4, .p false [.c (.bool u_125)]), (17, .p false [.c (.sl 147 3 (List.map eReason append_0.reasons))]), (18, .p false [.c (.int .i64 ((append_0.reasons.length : Nat) : Int))]), (19, .p false [.c (.int .i64 ((i : Nat) : Int))])] [.box 50 [.c (.int .i64 append_0.nodes), .c (.sl 147 3 (List.map eReason append_0.reasons))], .row 3 1 (List.map eInt row_123) 2] st) [] [0, 1] (by decide) ?_ ?_ ?_
      · simp only [go_sem, Int.reduceLT, Int.reduceLE, Int.reduceBEq, Int.reduceBNe, Nat.reduceBNe, Nat.reduceAdd, Nat.reduceMul, Nat.reduceEqDiff, Nat.reduceLeDiff, Nat.reduceLT, Nat.reduceBEq, reduceCtorEq, reduceIte, IV, sts_cons, sts_nil, obs_cons, obs_nil, p1.1, p1.2, c6, g5_1, g5_3, g5_4, og5_0, og5_1]
      · rintro i155 x156 ⟨row_123, u_125⟩ ⟨sl, ob, n⟩ y7 hx8 hI9 hW10 h hy7
        simp only [IV, sts_cons, sts_nil, obs_cons, obs_nil, and_true, true_and, Nat.reduceAdd, str_len] at hI9
        obtain ⟨⟨g11_1, g11_3, g11_4, g11_17, g11_18, g11_19⟩, og11_0, og11_1, hn⟩ := hI9
        subst hn
        have hlhx8 := WF.slotL hW10 g11_17 (j := 0) rfl
        obtain ⟨p12, h⟩ := chk_K h
        obtain ⟨x157, e13, h⟩ := bind_K h
        try simp only [go_sem, Int.reduceLT, Int.reduceLE, Int.reduceBEq, Int.reduceBNe, Nat.reduceBNe, Nat.reduceAdd, Nat.reduceMul, Nat.reduceEqDiff, Nat.reduceLeDiff, Nat.reduceLT, Nat.reduceBEq, reduceCtorEq, reduceIte, p1.1, p1.2, c6, hx8, lt_t hx8, lt_p hx8, nat_in (lt_n hx8) hlhx8, p12.1, p12.2, e13, g11_1, g11_3, g11_4, g11_17, g11_18, g11_19, og11_0, og11_1]
        refine swp_for h (fun i u_161 st => IV [(1, .bp 0 0), (3, .p false [.row 1]), (4, .p false [.c (.bool u_125)]), (6, .bp 2 0), (7, .p false [.c (.int .i64 u_161)]), (17, .p false [.c (.sl 147 3 (List.map eReason append_0.reasons))]), (18, .p false [.c (.int .i64 ((append_0.reasons.length : Nat) : Int))]), (19, .p false [.c (.int .i64 ((i155 : Nat) : Int))]), (29, .p false [.c (.sl 3 1 (List.map eInt x156.inn))]), (30, .p false [.c (.int .i64 ((x156.inn.length : Nat) : Int))]), (31, .p false [.c (.int .i64 ((i : Nat) : Int))])] [.box 50 [.c (.int .i64 append_0.nodes), .c (.sl 147 3 (List.map eReason append_0.reasons))], .row 3 1 (List.map eInt row_123) 2, .box 147 [.c (.int .i64 x156.for_), .c (.sl 3 1 (List.map eInt x156.inn)), .c (.sl 3 1 (List.map eInt x156.outs))]] st) [] [0, 1, 50] (by decide) ?_ ?_ ?_
        · simp only [go_sem, Int.reduceLT, Int.reduceLE, Int.reduceBEq, Int.reduceBNe, Nat.reduceBNe, Nat.reduceAdd, Nat.reduceMul, Nat.reduceEqDiff, Nat.reduceLeDiff, Nat.reduceLT, Nat.reduceBEq, reduceCtorEq, reduceIte, IV, sts_cons, sts_nil, obs_cons, obs_nil, p1.1, p1.2, c6, hx8, lt_t hx8, lt_p hx8, nat_in (lt_n hx8) hlhx8, p12.1, p12.2, e13, g11_1, g11_3, g11_4, g11_17, g11_18, g11_19, og11_0, og11_1]
        · rintro i173 x174 u_161 ⟨sl, ob, n⟩ y14 hx15 hI16 hW17 h hy14
          simp only [IV, sts_cons, sts_nil, obs_cons, obs_nil, and_true, true_and, Nat.reduceAdd, str_len] at hI16
          obtain ⟨⟨g18_1, g18_3, g18_4, g18_6, g18_7, g18_17, g18_18, g18_19, g18_29, g18_30, g18_31⟩, og18_0, og18_1, og18_2, hn⟩ := hI16
          subst hn
          have hlhx15 := WF.slotL hW17 g18_29 (j := 0) rfl
          obtain ⟨p19, h⟩ := chk_K h
          obtain ⟨x175, e20, h⟩ := bind_K h
          try simp only [go_sem, Int.reduceLT, Int.reduceLE, Int.reduceBEq, Int.reduceBNe, Nat.reduceBNe, Nat.reduceAdd, Nat.reduceMul, Nat.reduceEqDiff, Nat.reduceLeDiff, Nat.reduceLT, Nat.reduceBEq, reduceCtorEq, reduceIte, p1.1, p1.2, c6, hx8, lt_t hx8, lt_p hx8, nat_in (lt_n hx8) hlhx8, p12.1, p12.2, e13, hx15, lt_t hx15, lt_p hx15, nat_in (lt_n hx15) hlhx15, p19.1, p19.2, e20, g18_1, g18_3, g18_4, g18_6, g18_7, g18_17, g18_18, g18_19, g18_29, g18_30, g18_31, og18_0, og18_1, og18_2]
          refine ⟨_, [], [0, 1, 2], (Option.some.inj h).symm, by decide, ?_⟩
          try simp only [go_sem, Int.reduceLT, Int.reduceLE, Int.reduceBEq, Int.reduceBNe, Nat.reduceBNe, Nat.reduceAdd, Nat.reduceMul, Nat.reduceEqDiff, Nat.reduceLeDiff, Nat.reduceLT, Nat.reduceBEq, reduceCtorEq, reduceIte, p1.1, p1.2, c6, hx8, lt_t hx8, lt_p hx8, nat_in (lt_n hx8) hlhx8, p12.1, p12.2, e13, hx15, lt_t hx15, lt_p hx15, nat_in (lt_n hx15) hlhx15, p19.1, p19.2, e20, g18_1, g18_3, g18_4, g18_6, g18_7, g18_17, g18_18, g18_19, g18_29, g18_30, g18_31, og18_0, og18_1, og18_2, IV, sts_cons, sts_nil, obs_cons, obs_nil]
        · rintro u_161 ⟨sl, ob, n⟩ hI21 hW22 h
          simp only [IV, sts_cons, sts_nil, obs_cons, obs_nil, and_true, true_and, Nat.reduceAdd, str_len] at hI21
          obtain ⟨⟨g23_1, g23_3, g23_4, g23_6, g23_7, g23_17, g23_18, g23_19, g23_29, g23_30, g23_31⟩, og23_0, og23_1, og23_2, hn⟩ := hI21
          subst hn
          try simp only [go_sem, Int.reduceLT, Int.reduceLE, Int.reduceBEq, Int.reduceBNe, Nat.reduceBNe, Nat.reduceAdd, Nat.reduceMul, Nat.reduceEqDiff, Nat.reduceLeDiff, Nat.reduceLT, Nat.reduceBEq, reduceCtorEq, reduceIte, p1.1, p1.2, c6, hx8, lt_t hx8, lt_p hx8, nat_in (lt_n hx8) hlhx8, p12.1, p12.2, e13, lt_f (x156.inn.length), g23_1, g23_3, g23_4, g23_6, g23_7, g23_17, g23_18, g23_19, g23_29, g23_30, g23_31, og23_0, og23_1, og23_2]
          refine swp_for h (fun i u_179 st => IV [(1, .bp 0 0), (3, .p false [.row 1]), (4, .p false [.c (.bool u_125)]), (6, .bp 2 0), (7, .p false [.c (.int .i64 u_179)]), (17, .p false [.c (.sl 147 3 (List.map eReason append_0.reasons))]), (18, .p false [.c (.int .i64 ((append_0.reasons.length : Nat) : Int))]), (19, .p false [.c (.int .i64 ((i155 : Nat) : Int))]), (43, .p false [.c (.sl 3 1 (List.map eInt x156.outs))]), (44, .p false [.c (.int .i64 ((x156.outs.length : Nat) : Int))]), (45, .p false [.c (.int .i64 ((i : Nat) : Int))])] [.box 50 [.c (.int .i64 append_0.nodes), .c (.sl 147 3 (List.map eReason append_0.reasons))], .row 3 1 (List.map eInt row_123) 2, .box 147 [.c (.int .i64 x156.for_), .c (.sl 3 1 (List.map eInt x156.inn)), .c (.sl 3 1 (List.map eInt x156.outs))]] st) [] [0, 1, 2] (by decide) ?_ ?_ ?_
          · simp only [go_sem, Int.reduceLT, Int.reduceLE, Int.reduceBEq, Int.reduceBNe, Nat.reduceBNe, Nat.reduceAdd, Nat.reduceMul, Nat.reduceEqDiff, Nat.reduceLeDiff, Nat.reduceLT, Nat.reduceBEq, reduceCtorEq, reduceIte, IV, sts_cons, sts_nil, obs_cons, obs_nil, p1.1, p1.2, c6, hx8, lt_t hx8, lt_p hx8, nat_in (lt_n hx8) hlhx8, p12.1, p12.2, e13, lt_f (x156.inn.length), g23_1, g23_3, g23_4, g23_6, g23_7, g23_17, g23_18, g23_19, g23_29, g23_30, g23_31, og23_0, og23_1, og23_2]
          · rintro i182 x183 u_179 ⟨sl, ob, n⟩ y24 hx25 hI26 hW27 h hy24
            simp only [IV, sts_cons, sts_nil, obs_cons, obs_nil, and_true, true_and, Nat.reduceAdd, str_len] at hI26
            obtain ⟨⟨g28_1, g28_3, g28_4, g28_6, g28_7, g28_17, g28_18, g28_19, g28_43, g28_44, g28_45⟩, og28_0, og28_1, og28_2, hn⟩ := hI26
            subst hn
            have hlhx25 := WF.slotL hW27 g28_43 (j := 0) rfl
            obtain ⟨p29, h⟩ := chk_K h
            obtain ⟨x184, e30, h⟩ := bind_K h
            try simp only [go_sem, Int.reduceLT, Int.reduceLE, Int.reduceBEq, Int.reduceBNe, Nat.reduceBNe, Nat.reduceAdd, Nat.reduceMul, Nat.reduceEqDiff, Nat.reduceLeDiff, Nat.reduceLT, Nat.reduceBEq, reduceCtorEq, reduceIte, p1.1, p1.2, c6, hx8, lt_t hx8, lt_p hx8, nat_in (lt_n hx8) hlhx8, p12.1, p12.2, e13, lt_f (x156.inn.length), hx25, lt_t hx25, lt_p hx25, nat_in (lt_n hx25) hlhx25, p29.1, p29.2, e30, g28_1, g28_3, g28_4, g28_6, g28_7, g28_17, g28_18, g28_19, g28_43, g28_44, g28_45, og28_0, og28_1, og28_2]
            refine ⟨_, [], [0, 1, 2], (Option.some.inj h).symm, by decide, ?_⟩
            try simp only [go_sem, Int.reduceLT, Int.reduceLE, Int.reduceBEq, Int.reduceBNe, Nat.reduceBNe, Nat.reduceAdd, Nat.reduceMul, Nat.reduceEqDiff, Nat.reduceLeDiff, Nat.reduceLT, Nat.reduceBEq, reduceCtorEq, reduceIte, p1.1, p1.2, c6, hx8, lt_t hx8, lt_p hx8, nat_in (lt_n hx8) hlhx8, p12.1, p12.2, e13, lt_f (x156.inn.length), hx25, lt_t hx25, lt_p hx25, nat_in (lt_n hx25) hlhx25, p29.1, p29.2, e30, g28_1, g28_3, g28_4, g28_6, g28_7, g28_17, g28_18, g28_19, g28_43, g28_44, g28_45, og28_0, og28_1, og28_2, IV, sts_cons, sts_nil, obs_cons, obs_nil]
          · rintro u_179 ⟨sl, ob, n⟩ hI31 hW32 h
            simp only [IV, sts_cons, sts_nil, obs_cons, obs_nil, and_true, true_and, Nat.reduceAdd, str_len] at hI31
            obtain ⟨⟨g33_1, g33_3, g33_4, g33_6, g33_7, g33_17, g33_18, g33_19, g33_43, g33_44, g33_45⟩, og33_0, og33_1, og33_2, hn⟩ := hI31
            subst hn
            try simp only [go_sem, Int.reduceLT, Int.reduceLE, Int.reduceBEq, Int.reduceBNe, Nat.reduceBNe, Nat.reduceAdd, Nat.reduceMul, Nat.reduceEqDiff, Nat.reduceLeDiff, Nat.reduceLT, Nat.reduceBEq, reduceCtorEq, reduceIte, p1.1, p1.2, c6, hx8, lt_t hx8, lt_p hx8, nat_in (lt_n hx8) hlhx8, p12.1, p12.2, e13, lt_f (x156.inn.length), lt_f (x156.outs.length), g33_1, g33_3, g33_4, g33_6, g33_7, g33_17, g33_18, g33_19, g33_43, g33_44, g33_45, og33_0, og33_1, og33_2]
            refine ite_K h (fun c34 h => ?_) (fun c34 h => ?_)
            · try simp only [go_sem, Int.reduceLT, Int.reduceLE, Int.reduceBEq, Int.reduceBNe, Nat.reduceBNe, Nat.reduceAdd, Nat.reduceMul, Nat.reduceEqDiff, Nat.reduceLeDiff, Nat.reduceLT, Nat.reduceBEq, reduceCtorEq, reduceIte, p1.1, p1.2, c6, hx8, lt_t hx8, lt_p hx8, nat_in (lt_n hx8) hlhx8, p12.1, p12.2, e13, lt_f (x156.inn.length), lt_f (x156.outs.length), c34, g33_1, g33_3, g33_4, g33_6, g33_7, g33_17, g33_18, g33_19, g33_43, g33_44, g33_45, og33_0, og33_1, og33_2]
              refine ⟨_, [], [0, 1], (Option.some.inj h).symm, by decide, ?_⟩
              try simp only [go_sem, Int.reduceLT, Int.reduceLE, Int.reduceBEq, Int.reduceBNe, Nat.reduceBNe, Nat.reduceAdd, Nat.reduceMul, Nat.reduceEqDiff, Nat.reduceLeDiff, Nat.reduceLT, Nat.reduceBEq, reduceCtorEq, reduceIte, p1.1, p1.2, c6, hx8, lt_t hx8, lt_p hx8, nat_in (lt_n hx8) hlhx8, p12.1, p12.2, e13, lt_f (x156.inn.length), lt_f (x156.outs.length), c34, g33_1, g33_3, g33_4, g33_6, g33_7, g33_17, g33_18, g33_19, g33_43, g33_44, g33_45, og33_0, og33_1, og33_2, IV, sts_cons, sts_nil, obs_cons, obs_nil]
            · try simp only [go_sem, Int.reduceLT, Int.reduceLE, Int.reduceBEq, Int.reduceBNe, Nat.reduceBNe, Nat.reduceAdd, Nat.reduceMul, Nat.reduceEqDiff, Nat.reduceLeDiff, Nat.reduceLT, Nat.reduceBEq, reduceCtorEq, reduceIte, p1.1, p1.2, c6, hx8, lt_t hx8, lt_p hx8, nat_in (lt_n hx8) hlhx8, p12.1, p12.2, e13, lt_f (x156.inn.length), lt_f (x156.outs.length), c34, g33_1, g33_3, g33_4, g33_6, g33_7, g33_17, g33_18, g33_19, g33_43, g33_44, g33_45, og33_0, og33_1, og33_2]
              refine ⟨_, [], [0, 1], (Option.some.inj h).symm, by decide, ?_⟩
              try simp only [go_sem, Int.reduceLT, Int.reduceLE, Int.reduceBEq, Int.reduceBNe, Nat.reduceBNe, Nat.reduceAdd, Nat.reduceMul, Nat.reduceEqDiff, Nat.reduceLeDiff, Nat.reduceLT, Nat.reduceBEq, reduceCtorEq, reduceIte, p1.1, p1.2, c6, hx8, lt_t hx8, lt_p hx8, nat_in (lt_n hx8) hlhx8, p12.1, p12.2, e13, lt_f (x156.inn.length), lt_f (x156.outs.length), c34, g33_1, g33_3, g33_4, g33_6, g33_7, g33_17, g33_18, g33_19, g33_43, g33_44, g33_45, og33_0, og33_1, og33_2, IV, sts_cons, sts_nil, obs_cons, obs_nil]
      · rintro ⟨row_123, u_125⟩ ⟨sl, ob, n⟩ hI35 hW36 h
        simp only [IV, sts_cons, sts_nil, obs_cons, obs_nil, and_true, true_and, Nat.reduceAdd, str_len] at hI35
        obtain ⟨⟨g37_1, g37_3, g37_4, g37_17, g37_18, g37_19⟩, og37_0, og37_1, hn⟩ := hI35
        subst hn
        try simp only [go_sem, Int.reduceLT, Int.reduceLE, Int.reduceBEq, Int.reduceBNe, Nat.reduceBNe, Nat.reduceAdd, Nat.reduceMul, Nat.reduceEqDiff, Nat.reduceLeDiff, Nat.reduceLT, Nat.reduceBEq, reduceCtorEq, reduceIte, p1.1, p1.2, c6, lt_f (append_0.reasons.length), g37_1, g37_3, g37_4, g37_17, g37_18, g37_19, og37_0, og37_1]
        refine ⟨_, [], [0, 1], (Option.some.inj h).symm, by decide, ?_⟩
        try simp only [go_sem, Int.reduceLT, Int.reduceLE, Int.reduceBEq, Int.reduceBNe, Nat.reduceBNe, Nat.reduceAdd, Nat.reduceMul, Nat.reduceEqDiff, Nat.reduceLeDiff, Nat.reduceLT, Nat.reduceBEq, reduceCtorEq, reduceIte, p1.1, p1.2, c6, lt_f (append_0.reasons.length), g37_1, g37_3, g37_4, g37_17, g37_18, g37_19, og37_0, og37_1, IV, sts_cons, sts_nil, obs_cons, obs_nil]
    · replace h := inr_K h hy2
      obtain rfl := Option.some.inj h
      try simp only [go_sem, Int.reduceLT, Int.reduceLE, Int.reduceBEq, Int.reduceBNe, Nat.reduceBNe, Nat.reduceAdd, Nat.reduceMul, Nat.reduceEqDiff, Nat.reduceLeDiff, Nat.reduceLT, Nat.reduceBEq, reduceCtorEq, reduceIte, p1.1, p1.2, c6, g5_1, g5_3, g5_4, og5_0, og5_1]
theorem i_supported_ok {r_0 : ReasonD} {rounds_1 : (List Int)} {before_2 : Int} {r : Bool} (h : i_supported r_0 rounds_1 before_2 = some r) : Sound Try.prog J0 185 [(true, eReason r_0), (false, [.sl 3 1 (List.map eInt rounds_1)]), (false, [.int .i64 before_2])] [(false, [(false, .bool r)])] := by
  refine fnk Try.func185 (by kernel_rfl) rfl (by kernel_rfl) (by kernel_rfl) ?_
  unfold i_supported at h
  simp only [fnS, f185, argSt, go_sem, Int.reduceLT, Int.reduceLE, Int.reduceBEq, Int.reduceBNe, Nat.reduceBNe, Nat.reduceAdd, Nat.reduceMul, Nat.reduceEqDiff, Nat.reduceLeDiff, Nat.reduceLT, Nat.reduceBEq, reduceCtorEq, reduceIte]
  refine swp_for h (fun i _ st => IV [(1, .p false [.c (.sl 3 1 (List.map eInt rounds_1))]), (2, .p false [.c (.int .i64 before_2)]), (3, .bp 0 0), (12, .p false [.c (.sl 3 1 (List.map eInt r_0.inn))]), (13, .p false [.c (.int .i64 ((r_0.inn.length : Nat) : Int))]), (14, .p false [.c (.int .i64 ((i : Nat) : Int))])] [.box 147 [.c (.int .i64 r_0.for_), .c (.sl 3 1 (List.map eInt r_0.inn)), .c (.sl 3 1 (List.map eInt r_0.outs))]] st) [] [0] (by decide) ?_ ?_ ?_
  · simp only [go_sem, Int.reduceLT, Int.reduceLE, Int.reduceBEq, Int.reduceBNe, Nat.reduceBNe, Nat.reduceAdd, Nat.reduceMul, Nat.reduceEqDiff, Nat.reduceLeDiff, Nat.reduceLT, Nat.reduceBEq, reduceCtorEq, reduceIte, IV, sts_cons, sts_nil, obs_cons, obs_nil]
  · rintro i14 x15 ⟨⟩ ⟨sl, ob, n⟩ y1 hx2 hI3 hW4 h hy1
    simp only [IV, sts_cons, sts_nil, obs_cons, obs_nil, and_true, true_and, Nat.reduceAdd, str_len] at hI3
    obtain ⟨⟨g5_1, g5_2, g5_3, g5_12, g5_13, g5_14⟩, og5_0, hn⟩ := hI3
    subst hn
    have hlhx2 := WF.slotL hW4 g5_12 (j := 0) rfl
    obtain ⟨x16, a6, a7, e8, h⟩ := at_K h
    try simp only [go_sem, Int.reduceLT, Int.reduceLE, Int.reduceBEq, Int.reduceBNe, Nat.reduceBNe, Nat.reduceAdd, Nat.reduceMul, Nat.reduceEqDiff, Nat.reduceLeDiff, Nat.reduceLT, Nat.reduceBEq, reduceCtorEq, reduceIte, hx2, lt_t hx2, lt_p hx2, nat_in (lt_n hx2) hlhx2, a6, a7, e8, g5_1, g5_2, g5_3, g5_12, g5_13, g5_14, og5_0]
    refine ite_K h (fun c9 h => ?_) (fun c9 h => ?_)
    · replace h := inr_K h hy1
      obtain rfl := Option.some.inj h
      try simp only [go_sem, Int.reduceLT, Int.reduceLE, Int.reduceBEq, Int.reduceBNe, Nat.reduceBNe, Nat.reduceAdd, Nat.reduceMul, Nat.reduceEqDiff, Nat.reduceLeDiff, Nat.reduceLT, Nat.reduceBEq, reduceCtorEq, reduceIte, hx2, lt_t hx2, lt_p hx2, nat_in (lt_n hx2) hlhx2, a6, a7, e8, c9, g5_1, g5_2, g5_3, g5_12, g5_13, g5_14, og5_0]
    · try simp only [go_sem, Int.reduceLT, Int.reduceLE, Int.reduceBEq, Int.reduceBNe, Nat.reduceBNe, Nat.reduceAdd, Nat.reduceMul, Nat.reduceEqDiff, Nat.reduceLeDiff, Nat.reduceLT, Nat.reduceBEq, reduceCtorEq, reduceIte, hx2, lt_t hx2, lt_p hx2, nat_in (lt_n hx2) hlhx2, a6, a7, e8, c9, g5_1, g5_2, g5_3, g5_12, g5_13, g5_14, og5_0]
      refine ite_K h (fun c10 h => ?_) (fun c10 h => ?_)
      · replace h := inr_K h hy1
        obtain rfl := Option.some.inj h
        try simp only [go_sem, Int.reduceLT, Int.reduceLE, Int.reduceBEq, Int.reduceBNe, Nat.reduceBNe, Nat.reduceAdd, Nat.reduceMul, Nat.reduceEqDiff, Nat.reduceLeDiff, Nat.reduceLT, Nat.reduceBEq, reduceCtorEq, reduceIte, hx2, lt_t hx2, lt_p hx2, nat_in (lt_n hx2) hlhx2, a6, a7, e8, c9, c10, g5_1, g5_2, g5_3, g5_12, g5_13, g5_14, og5_0]
      · try simp only [go_sem, Int.reduceLT, Int.reduceLE, Int.reduceBEq, Int.reduceBNe, Nat.reduceBNe, Nat.reduceAdd, Nat.reduceMul, Nat.reduceEqDiff, Nat.reduceLeDiff, Nat.reduceLT, Nat.reduceBEq, reduceCtorEq, reduceIte, hx2, lt_t hx2, lt_p hx2, nat_in (lt_n hx2) hlhx2, a6, a7, e8, c9, c10, g5_1, g5_2, g5_3, g5_12, g5_13, g5_14, og5_0]
        refine ⟨_, [], [0], (Option.some.inj h).symm, by decide, ?_⟩
        try simp only [go_sem, Int.reduceLT, Int.reduceLE, Int.reduceBEq, Int.reduceBNe, Nat.reduceBNe, Nat.reduceAdd, Nat.reduceMul, Nat.reduceEqDiff, Nat.reduceLeDiff, Nat.reduceLT, Nat.reduceBEq, reduceCtorEq, reduceIte, hx2, lt_t hx2, lt_p hx2, nat_in (lt_n hx2) hlhx2, a6, a7, e8, c9, c10, g5_1, g5_2, g5_3, g5_12, g5_13, g5_14, og5_0, IV, sts_cons, sts_nil, obs_cons, obs_nil]
  · rintro ⟨⟩ ⟨sl, ob, n⟩ hI11 hW12 h
    simp only [IV, sts_cons, sts_nil, obs_cons, obs_nil, and_true, true_and, Nat.reduceAdd, str_len] at hI11
    obtain ⟨⟨g13_1, g13_2, g13_3, g13_12, g13_13, g13_14⟩, og13_0, hn⟩ := hI11
    subst hn
    try simp only [go_sem, Int.reduceLT, Int.reduceLE, Int.reduceBEq, Int.reduceBNe, Nat.reduceBNe, Nat.reduceAdd, Nat.reduceMul, Nat.reduceEqDiff, Nat.reduceLeDiff, Nat.reduceLT, Nat.reduceBEq, reduceCtorEq, reduceIte, lt_f (r_0.inn.length), g13_1, g13_2, g13_3, g13_12, g13_13, g13_14, og13_0]
    refine swp_for h (fun i _ st => IV [(1, .p false [.c (.sl 3 1 (List.map eInt rounds_1))]), (33, .p false [.c (.sl 3 1 (List.map eInt r_0.outs))]), (34, .p false [.c (.int .i64 ((r_0.outs.length : Nat) : Int))]), (35, .p false [.c (.int .i64 ((i : Nat) : Int))])] [] st) [] [] (by decide) ?_ ?_ ?_
    · simp only [go_sem, Int.reduceLT, Int.reduceLE, Int.reduceBEq, Int.reduceBNe, Nat.reduceBNe, Nat.reduceAdd, Nat.reduceMul, Nat.reduceEqDiff, Nat.reduceLeDiff, Nat.reduceLT, Nat.reduceBEq, reduceCtorEq, reduceIte, IV, sts_cons, sts_nil, obs_cons, obs_nil, lt_f (r_0.inn.length), g13_1, g13_2, g13_3, g13_12, g13_13, g13_14, og13_0]
    · rintro i22 x23 ⟨⟩ ⟨sl, ob, n⟩ y14 hx15 hI16 hW17 h hy14
      simp only [IV, sts_cons, sts_nil, obs_cons, obs_nil, and_true, true_and, Nat.reduceAdd, str_len] at hI16
      obtain ⟨⟨g18_1, g18_33, g18_34, g18_35⟩, hn⟩ := hI16
      subst hn
      have hlhx15 := WF.slotL hW17 g18_33 (j := 0) rfl
      obtain ⟨x24, a19, a20, e21, h⟩ := at_K h
      try simp only [go_sem, Int.reduceLT, Int.reduceLE, Int.reduceBEq, Int.reduceBNe, Nat.reduceBNe, Nat.reduceAdd, Nat.reduceMul, Nat.reduceEqDiff, Nat.reduceLeDiff, Nat.reduceLT, Nat.reduceBEq, reduceCtorEq, reduceIte, lt_f (r_0.inn.length), hx15, lt_t hx15, lt_p hx15, nat_in (lt_n hx15) hlhx15, a19, a20, e21, g18_1, g18_33, g18_34, g18_35]
      refine ite_K h (fun c22 h => ?_) (fun c22 h => ?_)
      · replace h := inr_K h hy14
        obtain rfl := Option.some.inj h
        try simp only [go_sem, Int.reduceLT, Int.reduceLE, Int.reduceBEq, Int.reduceBNe, Nat.reduceBNe, Nat.reduceAdd, Nat.reduceMul, Nat.reduceEqDiff, Nat.reduceLeDiff, Nat.reduceLT, Nat.reduceBEq, reduceCtorEq, reduceIte, lt_f (r_0.inn.length), hx15, lt_t hx15, lt_p hx15, nat_in (lt_n hx15) hlhx15, a19, a20, e21, c22, g18_1, g18_33, g18_34, g18_35]
      · try simp only [go_sem, Int.reduceLT, Int.reduceLE, Int.reduceBEq, Int.reduceBNe, Nat.reduceBNe, Nat.reduceAdd, Nat.reduceMul, Nat.reduceEqDiff, Nat.reduceLeDiff, Nat.reduceLT, Nat.reduceBEq, reduceCtorEq, reduceIte, lt_f (r_0.inn.length), hx15, lt_t hx15, lt_p hx15, nat_in (lt_n hx15) hlhx15, a19, a20, e21, c22, g18_1, g18_33, g18_34, g18_35]
        refine ⟨_, [], [], (Option.some.inj h).symm, by decide, ?_⟩
        try simp only [go_sem, Int.reduceLT, Int.reduceLE, Int.reduceBEq, Int.reduceBNe, Nat.reduceBNe, Nat.reduceAdd, Nat.reduceMul, Nat.reduceEqDiff, Nat.reduceLeDiff, Nat.reduceLT, Nat.reduceBEq, reduceCtorEq, reduceIte, lt_f (r_0.inn.length), hx15, lt_t hx15, lt_p hx15, nat_in (lt_n hx15) hlhx15, a19, a20, e21, c22, g18_1, g18_33, g18_34, g18_35, IV, sts_cons, sts_nil, obs_cons, obs_nil]
    · rintro ⟨⟩ ⟨sl, ob, n⟩ hI23 hW24 h
      simp only [IV, sts_cons, sts_nil, obs_cons, obs_nil, and_true, true_and, Nat.reduceAdd, str_len] at hI23
      obtain ⟨⟨g25_1, g25_33, g25_34, g25_35⟩, hn⟩ := hI23
      subst hn
      obtain rfl := Option.some.inj h
      try simp only [go_sem, Int.reduceLT, Int.reduceLE, Int.reduceBEq, Int.reduceBNe, Nat.reduceBNe, Nat.reduceAdd, Nat.reduceMul, Nat.reduceEqDiff, Nat.reduceLeDiff, Nat.reduceLT, Nat.reduceBEq, reduceCtorEq, reduceIte, lt_f (r_0.inn.length), lt_f (r_0.outs.length), g25_1, g25_33, g25_34, g25_35]
end Go.Proofs.Ytccbhhglghboaaa

namespace Go.Proofs.Ytccbhhglghboaaa
open Go.Proofs.Try
set_option linter.unusedSimpArgs false
set_option linter.unusedVariables false
set_option maxRecDepth 1000000
set_option maxHeartbeats 4000000
theorem i_rounds_ok {append_0 : BeliefsD} {r : (List Int)} (h : i_rounds append_0 = some r) : Sound Try.prog J0 165 [(true, eBeliefs append_0)] [(false, [(false, .sl 3 1 (List.map eInt r))])] := by
  refine fnk Try.func165 (by kernel_rfl) rfl (by kernel_rfl) (by kernel_rfl) ?_
  unfold i_rounds at h
  simp only [fnS, f165, argSt, go_sem, Int.reduceLT, Int.reduceLE, Int.reduceBEq, Int.reduceBNe, Nat.reduceBNe, Nat.reduceAdd, Nat.reduceMul, Nat.reduceEqDiff, Nat.reduceLeDiff, Nat.reduceLT, Nat.reduceBEq, reduceCtorEq, reduceIte]
  obtain ⟨v1, e1, h⟩ := bind_K h
  refine call_K (by first | exact i_strata_ok e1 | simpa only [go_sem, Int.reduceLT, Int.reduceLE, Int.reduceBEq, Int.reduceBNe, Nat.reduceBNe, Nat.reduceAdd, Nat.reduceMul, Nat.reduceEqDiff, Nat.reduceLeDiff, Nat.reduceLT, Nat.reduceBEq, reduceCtorEq, reduceIte] using i_strata_ok e1) ?_
  obtain ⟨p2, h⟩ := chk_K h
  try simp only [go_sem, Int.reduceLT, Int.reduceLE, Int.reduceBEq, Int.reduceBNe, Nat.reduceBNe, Nat.reduceAdd, Nat.reduceMul, Nat.reduceEqDiff, Nat.reduceLeDiff, Nat.reduceLT, Nat.reduceBEq, reduceCtorEq, reduceIte, p2.1, p2.2]
  refine swp_iter h (fun s st => match s with | (row_4, u_5, u_6) => IV [(1, .bp 0 0), (3, .p false [.row 1]), (4, .p false [.row 2]), (5, .p false [.c (.int .i64 u_6)]), (20, .p false [.c (.int .i64 ((Int.toNat append_0.nodes : Nat) : Int))]), (21, .p false [.c (.int .i64 u_5)])] [.box 50 [.c (.int .i64 append_0.nodes), .c (.sl 147 3 (List.map eReason append_0.reasons))], .row 3 1 (List.map eInt v1) 2, .row 3 1 (List.map eInt row_4) 2] st) [] [0, 48, 112] (by decide) ?_ ?_
  · simp only [go_sem, Int.reduceLT, Int.reduceLE, Int.reduceBEq, Int.reduceBNe, Nat.reduceBNe, Nat.reduceAdd, Nat.reduceMul, Nat.reduceEqDiff, Nat.reduceLeDiff, Nat.reduceLT, Nat.reduceBEq, reduceCtorEq, reduceIte, IV, sts_cons, sts_nil, obs_cons, obs_nil, p2.1, p2.2]
  · rintro ⟨row_4, u_5, u_6⟩ ⟨sl, ob, n⟩ y3 hI4 hW5 h hy3
    simp only [IV, sts_cons, sts_nil, obs_cons, obs_nil, and_true, true_and, Nat.reduceAdd, str_len] at hI4
    obtain ⟨⟨g6_1, g6_3, g6_4, g6_5, g6_20, g6_21⟩, og6_0, og6_1, og6_2, hn⟩ := hI4
    subst hn
    try simp only [go_sem, Int.reduceLT, Int.reduceLE, Int.reduceBEq, Int.reduceBNe, Nat.reduceBNe, Nat.reduceAdd, Nat.reduceMul, Nat.reduceEqDiff, Nat.reduceLeDiff, Nat.reduceLT, Nat.reduceBEq, reduceCtorEq, reduceIte, p2.1, p2.2, g6_1, g6_3, g6_4, g6_5, g6_20, g6_21, og6_0, og6_1, og6_2]
    refine ite_K h (fun c7 h => ?_) (fun c7 h => ?_)
    · obtain ⟨p8, h⟩ := chk_K h
      obtain ⟨x7, e9, h⟩ := bind_K h
      obtain ⟨p10, h⟩ := chk_K h
      obtain ⟨x8, e11, h⟩ := bind_K h
      try simp only [go_sem, Int.reduceLT, Int.reduceLE, Int.reduceBEq, Int.reduceBNe, Nat.reduceBNe, Nat.reduceAdd, Nat.reduceMul, Nat.reduceEqDiff, Nat.reduceLeDiff, Nat.reduceLT, Nat.reduceBEq, reduceCtorEq, reduceIte, p2.1, p2.2, c7, p8.1, p8.2, e9, p10, e11, g6_1, g6_3, g6_4, g6_5, g6_20, g6_21, og6_0, og6_1, og6_2]
      refine ⟨_, [], [0, 1, 2], (Option.some.inj h).symm, by decide, ?_⟩
      try simp only [go_sem, Int.reduceLT, Int.reduceLE, Int.reduceBEq, Int.reduceBNe, Nat.reduceBNe, Nat.reduceAdd, Nat.reduceMul, Nat.reduceEqDiff, Nat.reduceLeDiff, Nat.reduceLT, Nat.reduceBEq, reduceCtorEq, reduceIte, p2.1, p2.2, c7, p8.1, p8.2, e9, p10, e11, g6_1, g6_3, g6_4, g6_5, g6_20, g6_21, og6_0, og6_1, og6_2, IV, sts_cons, sts_nil, obs_cons, obs_nil]
    · try simp only [go_sem, Int.reduceLT, Int.reduceLE, Int.reduceBEq, Int.reduceBNe, Nat.reduceBNe, Nat.reduceAdd, Nat.reduceMul, Nat.reduceEqDiff, Nat.reduceLeDiff, Nat.reduceLT, Nat.reduceBEq, reduceCtorEq, reduceIte, p2.1, p2.2, c7, g6_1, g6_3, g6_4, g6_5, g6_20, g6_21, og6_0, og6_1, og6_2]
      refine swp_iter h (fun s st => match s with | (row_84, u_85, u_46) => IV [(1, .bp 0 0), (3, .p false [.row 1]), (4, .p false [.row 2]), (5, .p false [.c (.int .i64 u_6)]), (7, .p false [.c (.int .i64 u_85)]), (8, .p false [.c (.int .i64 u_46)])] [.box 50 [.c (.int .i64 append_0.nodes), .c (.sl 147 3 (List.map eReason append_0.reasons))], .row 3 1 (List.map eInt v1) 2, .row 3 1 (List.map eInt row_84) 2] st) [] [0, 1, 2] (by decide) ?_ ?_
      · simp only [go_sem, Int.reduceLT, Int.reduceLE, Int.reduceBEq, Int.reduceBNe, Nat.reduceBNe, Nat.reduceAdd, Nat.reduceMul, Nat.reduceEqDiff, Nat.reduceLeDiff, Nat.reduceLT, Nat.reduceBEq, reduceCtorEq, reduceIte, IV, sts_cons, sts_nil, obs_cons, obs_nil, p2.1, p2.2, c7, g6_1, g6_3, g6_4, g6_5, g6_20, g6_21, og6_0, og6_1, og6_2]
      · rintro ⟨row_84, u_85, u_46⟩ ⟨sl, ob, n⟩ y12 hI13 hW14 h hy12
        simp only [IV, sts_cons, sts_nil, obs_cons, obs_nil, and_true, true_and, Nat.reduceAdd, str_len] at hI13
        obtain ⟨⟨g15_1, g15_3, g15_4, g15_5, g15_7, g15_8⟩, og15_0, og15_1, og15_2, hn⟩ := hI13
        subst hn
        try simp only [go_sem, Int.reduceLT, Int.reduceLE, Int.reduceBEq, Int.reduceBNe, Nat.reduceBNe, Nat.reduceAdd, Nat.reduceMul, Nat.reduceEqDiff, Nat.reduceLeDiff, Nat.reduceLT, Nat.reduceBEq, reduceCtorEq, reduceIte, p2.1, p2.2, c7, g15_1, g15_3, g15_4, g15_5, g15_7, g15_8, og15_0, og15_1, og15_2]
        refine ite_K h (fun c16 h => ?_) (fun c16 h => ?_)
        · try simp only [go_sem, Int.reduceLT, Int.reduceLE, Int.reduceBEq, Int.reduceBNe, Nat.reduceBNe, Nat.reduceAdd, Nat.reduceMul, Nat.reduceEqDiff, Nat.reduceLeDiff, Nat.reduceLT, Nat.reduceBEq, reduceCtorEq, reduceIte, p2.1, p2.2, c7, c16, g15_1, g15_3, g15_4, g15_5, g15_7, g15_8, og15_0, og15_1, og15_2]
          refine swp_for h (fun i row_94 st => IV [(1, .bp 0 0), (3, .p false [.row 1]), (4, .p false [.row 2]), (5, .p false [.c (.int .i64 u_6)]), (7, .p false [.c (.int .i64 u_85)]), (8, .p false [.c (.int .i64 u_46)]), (9, .p false [.row 3]), (38, .p false [.c (.sl 147 3 (List.map eReason append_0.reasons))]), (39, .p false [.c (.int .i64 ((append_0.reasons.length : Nat) : Int))]), (40, .p false [.c (.int .i64 ((i : Nat) : Int))])] [.box 50 [.c (.int .i64 append_0.nodes), .c (.sl 147 3 (List.map eReason append_0.reasons))], .row 3 1 (List.map eInt v1) 2, .row 3 1 (List.map eInt row_84) 2, .row 3 1 (List.map eInt row_94) 2] st) [(false, 9, 0)] [0, 1, 2, 131] (by decide) ?_ ?_ ?_
          · simp only [go_sem, Int.reduceLT, Int.reduceLE, Int.reduceBEq, Int.reduceBNe, Nat.reduceBNe, Nat.reduceAdd, Nat.reduceMul, Nat.reduceEqDiff, Nat.reduceLeDiff, Nat.reduceLT, Nat.reduceBEq, reduceCtorEq, reduceIte, IV, sts_cons, sts_nil, obs_cons, obs_nil, p2.1, p2.2, c7, c16, g15_1, g15_3, g15_4, g15_5, g15_7, g15_8, og15_0, og15_1, og15_2]
          · rintro i109 x110 row_94 ⟨sl, ob, n⟩ y17 hx18 hI19 hW20 h hy17
            simp only [IV, sts_cons, sts_nil, obs_cons, obs_nil, and_true, true_and, Nat.reduceAdd, str_len] at hI19
            obtain ⟨⟨g21_1, g21_3, g21_4, g21_5, g21_7, g21_8, g21_9, g21_38, g21_39, g21_40⟩, og21_0, og21_1, og21_2, og21_3, hn⟩ := hI19
            subst hn
            have hlhx18 := WF.slotL hW20 g21_38 (j := 0) rfl
            obtain ⟨p22, h⟩ := chk_K h
            obtain ⟨x111, e23, h⟩ := bind_K h
            try simp only [go_sem, Int.reduceLT, Int.reduceLE, Int.reduceBEq, Int.reduceBNe, Nat.reduceBNe, Nat.reduceAdd, Nat.reduceMul, Nat.reduceEqDiff, Nat.reduceLeDiff, Nat.reduceLT, Nat.reduceBEq, reduceCtorEq, reduceIte, p2.1, p2.2, c7, c16, hx18, lt_t hx18, lt_p hx18, nat_in (lt_n hx18) hlhx18, p22.1, p22.2, e23, g21_1, g21_3, g21_4, g21_5, g21_7, g21_8, g21_9, g21_38, g21_39, g21_40, og21_0, og21_1, og21_2, og21_3]
            refine ite_K h (fun c24 h => ?_) (fun c24 h => ?_)
            · obtain ⟨p25, h⟩ := chk_K h
              obtain ⟨x112, e26, h⟩ := bind_K h
              try simp only [go_sem, Int.reduceLT, Int.reduceLE, Int.reduceBEq, Int.reduceBNe, Nat.reduceBNe, Nat.reduceAdd, Nat.reduceMul, Nat.reduceEqDiff, Nat.reduceLeDiff, Nat.reduceLT, Nat.reduceBEq, reduceCtorEq, reduceIte, p2.1, p2.2, c7, c16, hx18, lt_t hx18, lt_p hx18, nat_in (lt_n hx18) hlhx18, p22.1, p22.2, e23, c24, p25, e26, g21_1, g21_3, g21_4, g21_5, g21_7, g21_8, g21_9, g21_38, g21_39, g21_40, og21_0, og21_1, og21_2, og21_3]
              refine ite_K h (fun c27 h => ?_) (fun c27 h => ?_)
              · try simp only [go_sem, Int.reduceLT, Int.reduceLE, Int.reduceBEq, Int.reduceBNe, Nat.reduceBNe, Nat.reduceAdd, Nat.reduceMul, Nat.reduceEqDiff, Nat.reduceLeDiff, Nat.reduceLT, Nat.reduceBEq, reduceCtorEq, reduceIte, p2.1, p2.2, c7, c16, hx18, lt_t hx18, lt_p hx18, nat_in (lt_n hx18) hlhx18, p22.1, p22.2, e23, c24, p25, e26, c27, g21_1, g21_3, g21_4, g21_5, g21_7, g21_8, g21_9, g21_38, g21_39, g21_40, og21_0, og21_1, og21_2, og21_3]
                obtain ⟨v113, e28, h⟩ := bind_K h
                refine call_K (by first | exact i_supported_ok e28 | simpa only [go_sem, Int.reduceLT, Int.reduceLE, Int.reduceBEq, Int.reduceBNe, Nat.reduceBNe, Nat.reduceAdd, Nat.reduceMul, Nat.reduceEqDiff, Nat.reduceLeDiff, Nat.reduceLT, Nat.reduceBEq, reduceCtorEq, reduceIte, p2.1, p2.2, c7, c16, hx18, lt_t hx18, lt_p hx18, nat_in (lt_n hx18) hlhx18, p22.1, p22.2, e23, c24, p25, e26, c27, g21_1, g21_3, g21_4, g21_5, g21_7, g21_8, g21_9, g21_38, g21_39, g21_40, og21_0, og21_1, og21_2, og21_3] using i_supported_ok e28) ?_
                try simp only [go_sem, Int.reduceLT, Int.reduceLE, Int.reduceBEq, Int.reduceBNe, Nat.reduceBNe, Nat.reduceAdd, Nat.reduceMul, Nat.reduceEqDiff, Nat.reduceLeDiff, Nat.reduceLT, Nat.reduceBEq, reduceCtorEq, reduceIte, p2.1, p2.2, c7, c16, hx18, lt_t hx18, lt_p hx18, nat_in (lt_n hx18) hlhx18, p22.1, p22.2, e23, c24, p25, e26, c27, g21_1, g21_3, g21_4, g21_5, g21_7, g21_8, g21_9, g21_38, g21_39, g21_40, og21_0, og21_1, og21_2, og21_3]
                refine ite_K h (fun c29 h => ?_) (fun c29 h => ?_)
                · obtain ⟨p30, h⟩ := chk_K h
                  try simp only [Nat.reduceLeDiff] at p30
                  try simp only [go_sem, Int.reduceLT, Int.reduceLE, Int.reduceBEq, Int.reduceBNe, Nat.reduceBNe, Nat.reduceAdd, Nat.reduceMul, Nat.reduceEqDiff, Nat.reduceLeDiff, Nat.reduceLT, Nat.reduceBEq, reduceCtorEq, reduceIte, p2.1, p2.2, c7, c16, hx18, lt_t hx18, lt_p hx18, nat_in (lt_n hx18) hlhx18, p22.1, p22.2, e23, c24, p25, e26, c27, c29, p30, g21_1, g21_3, g21_4, g21_5, g21_7, g21_8, g21_9, g21_38, g21_39, g21_40, og21_0, og21_1, og21_2, og21_3]
                  refine ⟨_, [], [0, 1, 2, 484], (Option.some.inj h).symm, by decide, ?_⟩
                  try simp only [go_sem, Int.reduceLT, Int.reduceLE, Int.reduceBEq, Int.reduceBNe, Nat.reduceBNe, Nat.reduceAdd, Nat.reduceMul, Nat.reduceEqDiff, Nat.reduceLeDiff, Nat.reduceLT, Nat.reduceBEq, reduceCtorEq, reduceIte, p2.1, p2.2, c7, c16, hx18, lt_t hx18, lt_p hx18, nat_in (lt_n hx18) hlhx18, p22.1, p22.2, e23, c24, p25, e26, c27, c29, p30, g21_1, g21_3, g21_4, g21_5, g21_7, g21_8, g21_9, g21_38, g21_39, g21_40, og21_0, og21_1, og21_2, og21_3, IV, sts_cons, sts_nil, obs_cons, obs_nil]
                · try simp only [go_sem, Int.reduceLT, Int.reduceLE, Int.reduceBEq, Int.reduceBNe, Nat.reduceBNe, Nat.reduceAdd, Nat.reduceMul, Nat.reduceEqDiff, Nat.reduceLeDiff, Nat.reduceLT, Nat.reduceBEq, reduceCtorEq, reduceIte, p2.1, p2.2, c7, c16, hx18, lt_t hx18, lt_p hx18, nat_in (lt_n hx18) hlhx18, p22.1, p22.2, e23, c24, p25, e26, c27, c29, g21_1, g21_3, g21_4, g21_5, g21_7, g21_8, g21_9, g21_38, g21_39, g21_40, og21_0, og21_1, og21_2, og21_3]
                  refine ⟨_, [], [0, 1, 2, 3], (Option.some.inj h).symm, by decide, ?_⟩
                  try simp only [go_sem, Int.reduceLT, Int.reduceLE, Int.reduceBEq, Int.reduceBNe, Nat.reduceBNe, Nat.reduceAdd, Nat.reduceMul, Nat.reduceEqDiff, Nat.reduceLeDiff, Nat.reduceLT, Nat.reduceBEq, reduceCtorEq, reduceIte, p2.1, p2.2, c7, c16, hx18, lt_t hx18, lt_p hx18, nat_in (lt_n hx18) hlhx18, p22.1, p22.2, e23, c24, p25, e26, c27, c29, g21_1, g21_3, g21_4, g21_5, g21_7, g21_8, g21_9, g21_38, g21_39, g21_40, og21_0, og21_1, og21_2, og21_3, IV, sts_cons, sts_nil, obs_cons, obs_nil]
              · try simp only [go_sem, Int.reduceLT, Int.reduceLE, Int.reduceBEq, Int.reduceBNe, Nat.reduceBNe, Nat.reduceAdd, Nat.reduceMul, Nat.reduceEqDiff, Nat.reduceLeDiff, Nat.reduceLT, Nat.reduceBEq, reduceCtorEq, reduceIte, p2.1, p2.2, c7, c16, hx18, lt_t hx18, lt_p hx18, nat_in (lt_n hx18) hlhx18, p22.1, p22.2, e23, c24, p25, e26, c27, g21_1, g21_3, g21_4, g21_5, g21_7, g21_8, g21_9, g21_38, g21_39, g21_40, og21_0, og21_1, og21_2, og21_3]
                refine ⟨_, [], [0, 1, 2, 3], (Option.some.inj h).symm, by decide, ?_⟩
                try simp only [go_sem, Int.reduceLT, Int.reduceLE, Int.reduceBEq, Int.reduceBNe, Nat.reduceBNe, Nat.reduceAdd, Nat.reduceMul, Nat.reduceEqDiff, Nat.reduceLeDiff, Nat.reduceLT, Nat.reduceBEq, reduceCtorEq, reduceIte, p2.1, p2.2, c7, c16, hx18, lt_t hx18, lt_p hx18, nat_in (lt_n hx18) hlhx18, p22.1, p22.2, e23, c24, p25, e26, c27, g21_1, g21_3, g21_4, g21_5, g21_7, g21_8, g21_9, g21_38, g21_39, g21_40, og21_0, og21_1, og21_2, og21_3, IV, sts_cons, sts_nil, obs_cons, obs_nil]
            · try simp only [go_sem, Int.reduceLT, Int.reduceLE, Int.reduceBEq, Int.reduceBNe, Nat.reduceBNe, Nat.reduceAdd, Nat.reduceMul, Nat.reduceEqDiff, Nat.reduceLeDiff, Nat.reduceLT, Nat.reduceBEq, reduceCtorEq, reduceIte, p2.1, p2.2, c7, c16, hx18, lt_t hx18, lt_p hx18, nat_in (lt_n hx18) hlhx18, p22.1, p22.2, e23, c24, g21_1, g21_3, g21_4, g21_5, g21_7, g21_8, g21_9, g21_38, g21_39, g21_40, og21_0, og21_1, og21_2, og21_3]
              refine ⟨_, [], [0, 1, 2, 3], (Option.some.inj h).symm, by decide, ?_⟩
              try simp only [go_sem, Int.reduceLT, Int.reduceLE, Int.reduceBEq, Int.reduceBNe, Nat.reduceBNe, Nat.reduceAdd, Nat.reduceMul, Nat.reduceEqDiff, Nat.reduceLeDiff, Nat.reduceLT, Nat.reduceBEq, reduceCtorEq, reduceIte, p2.1, p2.2, c7, c16, hx18, lt_t hx18, lt_p hx18, nat_in (lt_n hx18) hlhx18, p22.1, p22.2, e23, c24, g21_1, g21_3, g21_4, g21_5, g21_7, g21_8, g21_9, g21_38, g21_39, g21_40, og21_0, og21_1, og21_2, og21_3, IV, sts_cons, sts_nil, obs_cons, obs_nil]
          · rintro row_94 ⟨sl, ob, n⟩ hI31 hW32 h
            simp only [IV, sts_cons, sts_nil, obs_cons, obs_nil, and_true, true_and, Nat.reduceAdd, str_len] at hI31
            obtain ⟨⟨g33_1, g33_3, g33_4, g33_5, g33_7, g33_8, g33_9, g33_38, g33_39, g33_40⟩, og33_0, og33_1, og33_2, og33_3, hn⟩ := hI31
            subst hn
            try simp only [go_sem, Int.reduceLT, Int.reduceLE, Int.reduceBEq, Int.reduceBNe, Nat.reduceBNe, Nat.reduceAdd, Nat.reduceMul, Nat.reduceEqDiff, Nat.reduceLeDiff, Nat.reduceLT, Nat.reduceBEq, reduceCtorEq, reduceIte, p2.1, p2.2, c7, c16, lt_f (append_0.reasons.length), g33_1, g33_3, g33_4, g33_5, g33_7, g33_8, g33_9, g33_38, g33_39, g33_40, og33_0, og33_1, og33_2, og33_3]
            refine ite_K h (fun c34 h => ?_) (fun c34 h => ?_)
            · try simp only [go_sem, Int.reduceLT, Int.reduceLE, Int.reduceBEq, Int.reduceBNe, Nat.reduceBNe, Nat.reduceAdd, Nat.reduceMul, Nat.reduceEqDiff, Nat.reduceLeDiff, Nat.reduceLT, Nat.reduceBEq, reduceCtorEq, reduceIte, p2.1, p2.2, c7, c16, lt_f (append_0.reasons.length), c34, g33_1, g33_3, g33_4, g33_5, g33_7, g33_8, g33_9, g33_38, g33_39, g33_40, og33_0, og33_1, og33_2, og33_3]
              refine ⟨_, [], [0, 1, 2], (Option.some.inj h).symm, by decide, ?_⟩
              try simp only [go_sem, Int.reduceLT, Int.reduceLE, Int.reduceBEq, Int.reduceBNe, Nat.reduceBNe, Nat.reduceAdd, Nat.reduceMul, Nat.reduceEqDiff, Nat.reduceLeDiff, Nat.reduceLT, Nat.reduceBEq, reduceCtorEq, reduceIte, p2.1, p2.2, c7, c16, lt_f (append_0.reasons.length), c34, g33_1, g33_3, g33_4, g33_5, g33_7, g33_8, g33_9, g33_38, g33_39, g33_40, og33_0, og33_1, og33_2, og33_3, IV, sts_cons, sts_nil, obs_cons, obs_nil]
            · try simp only [go_sem, Int.reduceLT, Int.reduceLE, Int.reduceBEq, Int.reduceBNe, Nat.reduceBNe, Nat.reduceAdd, Nat.reduceMul, Nat.reduceEqDiff, Nat.reduceLeDiff, Nat.reduceLT, Nat.reduceBEq, reduceCtorEq, reduceIte, p2.1, p2.2, c7, c16, lt_f (append_0.reasons.length), c34, g33_1, g33_3, g33_4, g33_5, g33_7, g33_8, g33_9, g33_38, g33_39, g33_40, og33_0, og33_1, og33_2, og33_3]
              refine swp_for h (fun i row_116 st => IV [(1, .bp 0 0), (3, .p false [.row 1]), (4, .p false [.row 2]), (5, .p false [.c (.int .i64 u_6)]), (7, .p false [.c (.int .i64 u_85)]), (8, .p false [.c (.int .i64 u_46)]), (76, .p false [.row 3]), (77, .p false [.c (.int .i64 ((row_94.length : Nat) : Int))]), (78, .p false [.c (.int .i64 ((i : Nat) : Int))])] [.box 50 [.c (.int .i64 append_0.nodes), .c (.sl 147 3 (List.map eReason append_0.reasons))], .row 3 1 (List.map eInt v1) 2, .row 3 1 (List.map eInt row_116) 2, .row 3 1 (List.map eInt row_94) 2] st) [] [0, 1, 2, 3] (by decide) ?_ ?_ ?_
              · simp only [go_sem, Int.reduceLT, Int.reduceLE, Int.reduceBEq, Int.reduceBNe, Nat.reduceBNe, Nat.reduceAdd, Nat.reduceMul, Nat.reduceEqDiff, Nat.reduceLeDiff, Nat.reduceLT, Nat.reduceBEq, reduceCtorEq, reduceIte, IV, sts_cons, sts_nil, obs_cons, obs_nil, p2.1, p2.2, c7, c16, lt_f (append_0.reasons.length), c34, g33_1, g33_3, g33_4, g33_5, g33_7, g33_8, g33_9, g33_38, g33_39, g33_40, og33_0, og33_1, og33_2, og33_3]
              · rintro i120 x121 row_116 ⟨sl, ob, n⟩ y35 hx36 hI37 hW38 h hy35
                simp only [IV, sts_cons, sts_nil, obs_cons, obs_nil, and_true, true_and, Nat.reduceAdd, str_len] at hI37
                obtain ⟨⟨g39_1, g39_3, g39_4, g39_5, g39_7, g39_8, g39_76, g39_77, g39_78⟩, og39_0, og39_1, og39_2, og39_3, hn⟩ := hI37
                subst hn
                have hlhx36 := WF.rowL hW38 og39_3
                obtain ⟨p40, h⟩ := chk_K h
                obtain ⟨x122, e41, h⟩ := bind_K h
                try simp only [go_sem, Int.reduceLT, Int.reduceLE, Int.reduceBEq, Int.reduceBNe, Nat.reduceBNe, Nat.reduceAdd, Nat.reduceMul, Nat.reduceEqDiff, Nat.reduceLeDiff, Nat.reduceLT, Nat.reduceBEq, reduceCtorEq, reduceIte, p2.1, p2.2, c7, c16, lt_f (append_0.reasons.length), c34, hx36, lt_t hx36, lt_p hx36, nat_in (lt_n hx36) hlhx36, p40.1, p40.2, e41, g39_1, g39_3, g39_4, g39_5, g39_7, g39_8, g39_76, g39_77, g39_78, og39_0, og39_1, og39_2, og39_3]
                refine ⟨_, [], [0, 1, 2, 3], (Option.some.inj h).symm, by decide, ?_⟩
                try simp only [go_sem, Int.reduceLT, Int.reduceLE, Int.reduceBEq, Int.reduceBNe, Nat.reduceBNe, Nat.reduceAdd, Nat.reduceMul, Nat.reduceEqDiff, Nat.reduceLeDiff, Nat.reduceLT, Nat.reduceBEq, reduceCtorEq, reduceIte, p2.1, p2.2, c7, c16, lt_f (append_0.reasons.length), c34, hx36, lt_t hx36, lt_p hx36, nat_in (lt_n hx36) hlhx36, p40.1, p40.2, e41, g39_1, g39_3, g39_4, g39_5, g39_7, g39_8, g39_76, g39_77, g39_78, og39_0, og39_1, og39_2, og39_3, IV, sts_cons, sts_nil, obs_cons, obs_nil]
              · rintro row_116 ⟨sl, ob, n⟩ hI42 hW43 h
                simp only [IV, sts_cons, sts_nil, obs_cons, obs_nil, and_true, true_and, Nat.reduceAdd, str_len] at hI42
                obtain ⟨⟨g44_1, g44_3, g44_4, g44_5, g44_7, g44_8, g44_76, g44_77, g44_78⟩, og44_0, og44_1, og44_2, og44_3, hn⟩ := hI42
                subst hn
                try simp only [go_sem, Int.reduceLT, Int.reduceLE, Int.reduceBEq, Int.reduceBNe, Nat.reduceBNe, Nat.reduceAdd, Nat.reduceMul, Nat.reduceEqDiff, Nat.reduceLeDiff, Nat.reduceLT, Nat.reduceBEq, reduceCtorEq, reduceIte, p2.1, p2.2, c7, c16, lt_f (append_0.reasons.length), c34, lt_f (row_94.length), g44_1, g44_3, g44_4, g44_5, g44_7, g44_8, g44_76, g44_77, g44_78, og44_0, og44_1, og44_2, og44_3]
                refine ⟨_, [], [0, 1, 2], (Option.some.inj h).symm, by decide, ?_⟩
                try simp only [go_sem, Int.reduceLT, Int.reduceLE, Int.reduceBEq, Int.reduceBNe, Nat.reduceBNe, Nat.reduceAdd, Nat.reduceMul, Nat.reduceEqDiff, Nat.reduceLeDiff, Nat.reduceLT, Nat.reduceBEq, reduceCtorEq, reduceIte, p2.1, p2.2, c7, c16, lt_f (append_0.reasons.length), c34, lt_f (row_94.length), g44_1, g44_3, g44_4, g44_5, g44_7, g44_8, g44_76, g44_77, g44_78, og44_0, og44_1, og44_2, og44_3, IV, sts_cons, sts_nil, obs_cons, obs_nil]
        · replace h := inr_K h hy12
          replace h := inr_K h hy3
          obtain rfl := Option.some.inj h
          try simp only [go_sem, Int.reduceLT, Int.reduceLE, Int.reduceBEq, Int.reduceBNe, Nat.reduceBNe, Nat.reduceAdd, Nat.reduceMul, Nat.reduceEqDiff, Nat.reduceLeDiff, Nat.reduceLT, Nat.reduceBEq, reduceCtorEq, reduceIte, p2.1, p2.2, c7, c16, g15_1, g15_3, g15_4, g15_5, g15_7, g15_8, og15_0, og15_1, og15_2]
end Go.Proofs.Ytccbhhglghboaaa

namespace Go.Proofs.Ytccbhhglghboaaa
open Go.Proofs.Try
set_option linter.unusedSimpArgs false
set_option linter.unusedVariables false
set_option maxRecDepth 1000000
set_option maxHeartbeats 4000000
theorem s_IsBeliefs_ok {b_0 : BeliefsD} {r : Bool} (h : s_IsBeliefs b_0 = some r) : Sound Try.prog J0 160 [(true, eBeliefs b_0)] [(false, [(false, .bool r)])] := by
  refine fnk Try.func160 (by kernel_rfl) rfl (by kernel_rfl) (by kernel_rfl) ?_
  unfold s_IsBeliefs at h
  simp only [fnS, f160, argSt, go_sem, Int.reduceLT, Int.reduceLE, Int.reduceBEq, Int.reduceBNe, Nat.reduceBNe, Nat.reduceAdd, Nat.reduceMul, Nat.reduceEqDiff, Nat.reduceLeDiff, Nat.reduceLT, Nat.reduceBEq, reduceCtorEq, reduceIte]
  refine swp_for h (fun i _ st => IV [(1, .bp 0 0), (3, .p false [.c (.int .i64 ((i : Nat) : Int))])] [.box 50 [.c (.int .i64 b_0.nodes), .c (.sl 147 3 (List.map eReason b_0.reasons))]] st) [] [0] (by decide) ?_ ?_ ?_
  · simp only [go_sem, Int.reduceLT, Int.reduceLE, Int.reduceBEq, Int.reduceBNe, Nat.reduceBNe, Nat.reduceAdd, Nat.reduceMul, Nat.reduceEqDiff, Nat.reduceLeDiff, Nat.reduceLT, Nat.reduceBEq, reduceCtorEq, reduceIte, IV, sts_cons, sts_nil, obs_cons, obs_nil]
  · rintro i11 x12 ⟨⟩ ⟨sl, ob, n⟩ y1 hx2 hI3 hW4 h hy1
    simp only [IV, sts_cons, sts_nil, obs_cons, obs_nil, and_true, true_and, Nat.reduceAdd, str_len] at hI3
    obtain ⟨⟨g5_1, g5_3⟩, og5_0, hn⟩ := hI3
    subst hn
    have hlhx2 := WF.boxL hW4 og5_0 (j := 1) rfl
    try simp only [go_sem, Int.reduceLT, Int.reduceLE, Int.reduceBEq, Int.reduceBNe, Nat.reduceBNe, Nat.reduceAdd, Nat.reduceMul, Nat.reduceEqDiff, Nat.reduceLeDiff, Nat.reduceLT, Nat.reduceBEq, reduceCtorEq, reduceIte, hx2, lt_t hx2, lt_p hx2, nat_in (lt_n hx2) hlhx2, g5_1, g5_3, og5_0]
    obtain ⟨v13, e6, h⟩ := bind_K h
    refine call_K (by first | exact s_l1In_ok e6 | simpa only [go_sem, Int.reduceLT, Int.reduceLE, Int.reduceBEq, Int.reduceBNe, Nat.reduceBNe, Nat.reduceAdd, Nat.reduceMul, Nat.reduceEqDiff, Nat.reduceLeDiff, Nat.reduceLT, Nat.reduceBEq, reduceCtorEq, reduceIte, hx2, lt_t hx2, lt_p hx2, nat_in (lt_n hx2) hlhx2, g5_1, g5_3, og5_0] using s_l1In_ok e6) ?_
    try simp only [go_sem, Int.reduceLT, Int.reduceLE, Int.reduceBEq, Int.reduceBNe, Nat.reduceBNe, Nat.reduceAdd, Nat.reduceMul, Nat.reduceEqDiff, Nat.reduceLeDiff, Nat.reduceLT, Nat.reduceBEq, reduceCtorEq, reduceIte, hx2, lt_t hx2, lt_p hx2, nat_in (lt_n hx2) hlhx2, g5_1, g5_3, og5_0]
    refine ite_K h (fun c7 h => ?_) (fun c7 h => ?_)
    · try simp only [go_sem, Int.reduceLT, Int.reduceLE, Int.reduceBEq, Int.reduceBNe, Nat.reduceBNe, Nat.reduceAdd, Nat.reduceMul, Nat.reduceEqDiff, Nat.reduceLeDiff, Nat.reduceLT, Nat.reduceBEq, reduceCtorEq, reduceIte, hx2, lt_t hx2, lt_p hx2, nat_in (lt_n hx2) hlhx2, c7, g5_1, g5_3, og5_0]
      obtain ⟨v14, e8, h⟩ := bind_K h
      refine call_K (by first | exact s_l11List_ok e8 | simpa only [go_sem, Int.reduceLT, Int.reduceLE, Int.reduceBEq, Int.reduceBNe, Nat.reduceBNe, Nat.reduceAdd, Nat.reduceMul, Nat.reduceEqDiff, Nat.reduceLeDiff, Nat.reduceLT, Nat.reduceBEq, reduceCtorEq, reduceIte, hx2, lt_t hx2, lt_p hx2, nat_in (lt_n hx2) hlhx2, c7, g5_1, g5_3, og5_0] using s_l11List_ok e8) ?_
      try simp only [go_sem, Int.reduceLT, Int.reduceLE, Int.reduceBEq, Int.reduceBNe, Nat.reduceBNe, Nat.reduceAdd, Nat.reduceMul, Nat.reduceEqDiff, Nat.reduceLeDiff, Nat.reduceLT, Nat.reduceBEq, reduceCtorEq, reduceIte, hx2, lt_t hx2, lt_p hx2, nat_in (lt_n hx2) hlhx2, c7, g5_1, g5_3, og5_0]
      refine ite_K h (fun c9 h => ?_) (fun c9 h => ?_)
      · try simp only [go_sem, Int.reduceLT, Int.reduceLE, Int.reduceBEq, Int.reduceBNe, Nat.reduceBNe, Nat.reduceAdd, Nat.reduceMul, Nat.reduceEqDiff, Nat.reduceLeDiff, Nat.reduceLT, Nat.reduceBEq, reduceCtorEq, reduceIte, hx2, lt_t hx2, lt_p hx2, nat_in (lt_n hx2) hlhx2, c7, c9, g5_1, g5_3, og5_0]
        obtain ⟨v15, e10, h⟩ := bind_K h
        refine call_K (by first | exact s_l11List_ok e10 | simpa only [go_sem, Int.reduceLT, Int.reduceLE, Int.reduceBEq, Int.reduceBNe, Nat.reduceBNe, Nat.reduceAdd, Nat.reduceMul, Nat.reduceEqDiff, Nat.reduceLeDiff, Nat.reduceLT, Nat.reduceBEq, reduceCtorEq, reduceIte, hx2, lt_t hx2, lt_p hx2, nat_in (lt_n hx2) hlhx2, c7, c9, g5_1, g5_3, og5_0] using s_l11List_ok e10) ?_
        try simp only [go_sem, Int.reduceLT, Int.reduceLE, Int.reduceBEq, Int.reduceBNe, Nat.reduceBNe, Nat.reduceAdd, Nat.reduceMul, Nat.reduceEqDiff, Nat.reduceLeDiff, Nat.reduceLT, Nat.reduceBEq, reduceCtorEq, reduceIte, hx2, lt_t hx2, lt_p hx2, nat_in (lt_n hx2) hlhx2, c7, c9, g5_1, g5_3, og5_0]
        refine ite_K h (fun c11 h => ?_) (fun c11 h => ?_)
        · try simp only [go_sem, Int.reduceLT, Int.reduceLE, Int.reduceBEq, Int.reduceBNe, Nat.reduceBNe, Nat.reduceAdd, Nat.reduceMul, Nat.reduceEqDiff, Nat.reduceLeDiff, Nat.reduceLT, Nat.reduceBEq, reduceCtorEq, reduceIte, hx2, lt_t hx2, lt_p hx2, nat_in (lt_n hx2) hlhx2, c7, c9, c11, g5_1, g5_3, og5_0]
          refine ⟨_, [], [0], (Option.some.inj h).symm, by decide, ?_⟩
          try simp only [go_sem, Int.reduceLT, Int.reduceLE, Int.reduceBEq, Int.reduceBNe, Nat.reduceBNe, Nat.reduceAdd, Nat.reduceMul, Nat.reduceEqDiff, Nat.reduceLeDiff, Nat.reduceLT, Nat.reduceBEq, reduceCtorEq, reduceIte, hx2, lt_t hx2, lt_p hx2, nat_in (lt_n hx2) hlhx2, c7, c9, c11, g5_1, g5_3, og5_0, IV, sts_cons, sts_nil, obs_cons, obs_nil]
        · replace h := inr_K h hy1
          obtain rfl := Option.some.inj h
          try simp only [go_sem, Int.reduceLT, Int.reduceLE, Int.reduceBEq, Int.reduceBNe, Nat.reduceBNe, Nat.reduceAdd, Nat.reduceMul, Nat.reduceEqDiff, Nat.reduceLeDiff, Nat.reduceLT, Nat.reduceBEq, reduceCtorEq, reduceIte, hx2, lt_t hx2, lt_p hx2, nat_in (lt_n hx2) hlhx2, c7, c9, c11, g5_1, g5_3, og5_0]
      · replace h := inr_K h hy1
        obtain rfl := Option.some.inj h
        try simp only [go_sem, Int.reduceLT, Int.reduceLE, Int.reduceBEq, Int.reduceBNe, Nat.reduceBNe, Nat.reduceAdd, Nat.reduceMul, Nat.reduceEqDiff, Nat.reduceLeDiff, Nat.reduceLT, Nat.reduceBEq, reduceCtorEq, reduceIte, hx2, lt_t hx2, lt_p hx2, nat_in (lt_n hx2) hlhx2, c7, c9, g5_1, g5_3, og5_0]
    · replace h := inr_K h hy1
      obtain rfl := Option.some.inj h
      try simp only [go_sem, Int.reduceLT, Int.reduceLE, Int.reduceBEq, Int.reduceBNe, Nat.reduceBNe, Nat.reduceAdd, Nat.reduceMul, Nat.reduceEqDiff, Nat.reduceLeDiff, Nat.reduceLT, Nat.reduceBEq, reduceCtorEq, reduceIte, hx2, lt_t hx2, lt_p hx2, nat_in (lt_n hx2) hlhx2, c7, g5_1, g5_3, og5_0]
  · rintro ⟨⟩ ⟨sl, ob, n⟩ hI12 hW13 h
    simp only [IV, sts_cons, sts_nil, obs_cons, obs_nil, and_true, true_and, Nat.reduceAdd, str_len] at hI12
    obtain ⟨⟨g14_1, g14_3⟩, og14_0, hn⟩ := hI12
    subst hn
    try simp only [go_sem, Int.reduceLT, Int.reduceLE, Int.reduceBEq, Int.reduceBNe, Nat.reduceBNe, Nat.reduceAdd, Nat.reduceMul, Nat.reduceEqDiff, Nat.reduceLeDiff, Nat.reduceLT, Nat.reduceBEq, reduceCtorEq, reduceIte, lt_f (b_0.reasons.length), g14_1, g14_3, og14_0]
    obtain ⟨v16, e15, h⟩ := bind_K h
    refine call_K (by first | exact s_l1In_ok e15 | simpa only [go_sem, Int.reduceLT, Int.reduceLE, Int.reduceBEq, Int.reduceBNe, Nat.reduceBNe, Nat.reduceAdd, Nat.reduceMul, Nat.reduceEqDiff, Nat.reduceLeDiff, Nat.reduceLT, Nat.reduceBEq, reduceCtorEq, reduceIte, lt_f (b_0.reasons.length), g14_1, g14_3, og14_0] using s_l1In_ok e15) ?_
    try simp only [go_sem, Int.reduceLT, Int.reduceLE, Int.reduceBEq, Int.reduceBNe, Nat.reduceBNe, Nat.reduceAdd, Nat.reduceMul, Nat.reduceEqDiff, Nat.reduceLeDiff, Nat.reduceLT, Nat.reduceBEq, reduceCtorEq, reduceIte, lt_f (b_0.reasons.length), g14_1, g14_3, og14_0]
    refine ite_K h (fun c16 h => ?_) (fun c16 h => ?_)
    · obtain rfl := Option.some.inj h
      try simp only [go_sem, Int.reduceLT, Int.reduceLE, Int.reduceBEq, Int.reduceBNe, Nat.reduceBNe, Nat.reduceAdd, Nat.reduceMul, Nat.reduceEqDiff, Nat.reduceLeDiff, Nat.reduceLT, Nat.reduceBEq, reduceCtorEq, reduceIte, lt_f (b_0.reasons.length), c16, g14_1, g14_3, og14_0]
    · obtain rfl := Option.some.inj h
      try simp only [go_sem, Int.reduceLT, Int.reduceLE, Int.reduceBEq, Int.reduceBNe, Nat.reduceBNe, Nat.reduceAdd, Nat.reduceMul, Nat.reduceEqDiff, Nat.reduceLeDiff, Nat.reduceLT, Nat.reduceBEq, reduceCtorEq, reduceIte, lt_f (b_0.reasons.length), c16, g14_1, g14_3, og14_0]
theorem i_IsFrame_ok {f_0 : FrameD} {r : Bool} (h : i_IsFrame f_0 = some r) : Sound Try.prog J0 69 [(true, eFrame f_0)] [(false, [(false, .bool r)])] := by
  refine fnk Try.func69 (by kernel_rfl) rfl (by kernel_rfl) (by kernel_rfl) ?_
  unfold i_IsFrame at h
  simp only [fnS, f69, argSt, go_sem, Int.reduceLT, Int.reduceLE, Int.reduceBEq, Int.reduceBNe, Nat.reduceBNe, Nat.reduceAdd, Nat.reduceMul, Nat.reduceEqDiff, Nat.reduceLeDiff, Nat.reduceLT, Nat.reduceBEq, reduceCtorEq, reduceIte]
  obtain ⟨v1, e1, h⟩ := bind_K h
  refine call_K (by first | exact i_IsBeliefs_ok e1 | simpa only [go_sem, Int.reduceLT, Int.reduceLE, Int.reduceBEq, Int.reduceBNe, Nat.reduceBNe, Nat.reduceAdd, Nat.reduceMul, Nat.reduceEqDiff, Nat.reduceLeDiff, Nat.reduceLT, Nat.reduceBEq, reduceCtorEq, reduceIte] using i_IsBeliefs_ok e1) ?_
  try simp only [go_sem, Int.reduceLT, Int.reduceLE, Int.reduceBEq, Int.reduceBNe, Nat.reduceBNe, Nat.reduceAdd, Nat.reduceMul, Nat.reduceEqDiff, Nat.reduceLeDiff, Nat.reduceLT, Nat.reduceBEq, reduceCtorEq, reduceIte]
  refine ite_K h (fun c2 h => ?_) (fun c2 h => ?_)
  · try simp only [go_sem, Int.reduceLT, Int.reduceLE, Int.reduceBEq, Int.reduceBNe, Nat.reduceBNe, Nat.reduceAdd, Nat.reduceMul, Nat.reduceEqDiff, Nat.reduceLeDiff, Nat.reduceLT, Nat.reduceBEq, reduceCtorEq, reduceIte, c2]
    refine ite_K h (fun c3 h => ?_) (fun c3 h => ?_)
    · obtain rfl := Option.some.inj h
      try simp only [go_sem, Int.reduceLT, Int.reduceLE, Int.reduceBEq, Int.reduceBNe, Nat.reduceBNe, Nat.reduceAdd, Nat.reduceMul, Nat.reduceEqDiff, Nat.reduceLeDiff, Nat.reduceLT, Nat.reduceBEq, reduceCtorEq, reduceIte, c2, c3]
    · try simp only [go_sem, Int.reduceLT, Int.reduceLE, Int.reduceBEq, Int.reduceBNe, Nat.reduceBNe, Nat.reduceAdd, Nat.reduceMul, Nat.reduceEqDiff, Nat.reduceLeDiff, Nat.reduceLT, Nat.reduceBEq, reduceCtorEq, reduceIte, c2, c3]
      obtain ⟨v2, e4, h⟩ := bind_K h
      refine call_K (by first | exact i_ascendingNodes_ok e4 | simpa only [go_sem, Int.reduceLT, Int.reduceLE, Int.reduceBEq, Int.reduceBNe, Nat.reduceBNe, Nat.reduceAdd, Nat.reduceMul, Nat.reduceEqDiff, Nat.reduceLeDiff, Nat.reduceLT, Nat.reduceBEq, reduceCtorEq, reduceIte, c2, c3] using i_ascendingNodes_ok e4) ?_
      try simp only [go_sem, Int.reduceLT, Int.reduceLE, Int.reduceBEq, Int.reduceBNe, Nat.reduceBNe, Nat.reduceAdd, Nat.reduceMul, Nat.reduceEqDiff, Nat.reduceLeDiff, Nat.reduceLT, Nat.reduceBEq, reduceCtorEq, reduceIte, c2, c3]
      refine ite_K h (fun c5 h => ?_) (fun c5 h => ?_)
      · try simp only [go_sem, Int.reduceLT, Int.reduceLE, Int.reduceBEq, Int.reduceBNe, Nat.reduceBNe, Nat.reduceAdd, Nat.reduceMul, Nat.reduceEqDiff, Nat.reduceLeDiff, Nat.reduceLT, Nat.reduceBEq, reduceCtorEq, reduceIte, c2, c3, c5]
        obtain ⟨v3, e6, h⟩ := bind_K h
        refine call_K (by first | exact i_ascendingNodes_ok e6 | simpa only [go_sem, Int.reduceLT, Int.reduceLE, Int.reduceBEq, Int.reduceBNe, Nat.reduceBNe, Nat.reduceAdd, Nat.reduceMul, Nat.reduceEqDiff, Nat.reduceLeDiff, Nat.reduceLT, Nat.reduceBEq, reduceCtorEq, reduceIte, c2, c3, c5] using i_ascendingNodes_ok e6) ?_
        try simp only [go_sem, Int.reduceLT, Int.reduceLE, Int.reduceBEq, Int.reduceBNe, Nat.reduceBNe, Nat.reduceAdd, Nat.reduceMul, Nat.reduceEqDiff, Nat.reduceLeDiff, Nat.reduceLT, Nat.reduceBEq, reduceCtorEq, reduceIte, c2, c3, c5]
        refine ite_K h (fun c7 h => ?_) (fun c7 h => ?_)
        · try simp only [go_sem, Int.reduceLT, Int.reduceLE, Int.reduceBEq, Int.reduceBNe, Nat.reduceBNe, Nat.reduceAdd, Nat.reduceMul, Nat.reduceEqDiff, Nat.reduceLeDiff, Nat.reduceLT, Nat.reduceBEq, reduceCtorEq, reduceIte, c2, c3, c5, c7]
          refine swp_for h (fun i _ st => IV [(35, .p false [.c (.sl 147 3 (List.map eReason f_0.beliefs.reasons))]), (36, .p false [.c (.int .i64 ((f_0.beliefs.reasons.length : Nat) : Int))]), (37, .p false [.c (.int .i64 ((i : Nat) : Int))])] [] st) [] [] (by decide) ?_ ?_ ?_
          · simp only [go_sem, Int.reduceLT, Int.reduceLE, Int.reduceBEq, Int.reduceBNe, Nat.reduceBNe, Nat.reduceAdd, Nat.reduceMul, Nat.reduceEqDiff, Nat.reduceLeDiff, Nat.reduceLT, Nat.reduceBEq, reduceCtorEq, reduceIte, IV, sts_cons, sts_nil, obs_cons, obs_nil, c2, c3, c5, c7]
          · rintro i7 x8 ⟨⟩ ⟨sl, ob, n⟩ y8 hx9 hI10 hW11 h hy8
            simp only [IV, sts_cons, sts_nil, obs_cons, obs_nil, and_true, true_and, Nat.reduceAdd, str_len] at hI10
            obtain ⟨⟨g12_35, g12_36, g12_37⟩, hn⟩ := hI10
            subst hn
            have hlhx9 := WF.slotL hW11 g12_35 (j := 0) rfl
            try simp only [go_sem, Int.reduceLT, Int.reduceLE, Int.reduceBEq, Int.reduceBNe, Nat.reduceBNe, Nat.reduceAdd, Nat.reduceMul, Nat.reduceEqDiff, Nat.reduceLeDiff, Nat.reduceLT, Nat.reduceBEq, reduceCtorEq, reduceIte, c2, c3, c5, c7, hx9, lt_t hx9, lt_p hx9, nat_in (lt_n hx9) hlhx9, g12_35, g12_36, g12_37]
            refine ite_K h (fun c13 h => ?_) (fun c13 h => ?_)
            · replace h := inr_K h hy8
              obtain rfl := Option.some.inj h
              try simp only [go_sem, Int.reduceLT, Int.reduceLE, Int.reduceBEq, Int.reduceBNe, Nat.reduceBNe, Nat.reduceAdd, Nat.reduceMul, Nat.reduceEqDiff, Nat.reduceLeDiff, Nat.reduceLT, Nat.reduceBEq, reduceCtorEq, reduceIte, c2, c3, c5, c7, hx9, lt_t hx9, lt_p hx9, nat_in (lt_n hx9) hlhx9, c13, g12_35, g12_36, g12_37]
            · try simp only [go_sem, Int.reduceLT, Int.reduceLE, Int.reduceBEq, Int.reduceBNe, Nat.reduceBNe, Nat.reduceAdd, Nat.reduceMul, Nat.reduceEqDiff, Nat.reduceLeDiff, Nat.reduceLT, Nat.reduceBEq, reduceCtorEq, reduceIte, c2, c3, c5, c7, hx9, lt_t hx9, lt_p hx9, nat_in (lt_n hx9) hlhx9, c13, g12_35, g12_36, g12_37]
              refine ⟨_, [], [], (Option.some.inj h).symm, by decide, ?_⟩
              try simp only [go_sem, Int.reduceLT, Int.reduceLE, Int.reduceBEq, Int.reduceBNe, Nat.reduceBNe, Nat.reduceAdd, Nat.reduceMul, Nat.reduceEqDiff, Nat.reduceLeDiff, Nat.reduceLT, Nat.reduceBEq, reduceCtorEq, reduceIte, c2, c3, c5, c7, hx9, lt_t hx9, lt_p hx9, nat_in (lt_n hx9) hlhx9, c13, g12_35, g12_36, g12_37, IV, sts_cons, sts_nil, obs_cons, obs_nil]
          · rintro ⟨⟩ ⟨sl, ob, n⟩ hI14 hW15 h
            simp only [IV, sts_cons, sts_nil, obs_cons, obs_nil, and_true, true_and, Nat.reduceAdd, str_len] at hI14
            obtain ⟨⟨g16_35, g16_36, g16_37⟩, hn⟩ := hI14
            subst hn
            obtain rfl := Option.some.inj h
            try simp only [go_sem, Int.reduceLT, Int.reduceLE, Int.reduceBEq, Int.reduceBNe, Nat.reduceBNe, Nat.reduceAdd, Nat.reduceMul, Nat.reduceEqDiff, Nat.reduceLeDiff, Nat.reduceLT, Nat.reduceBEq, reduceCtorEq, reduceIte, c2, c3, c5, c7, lt_f (f_0.beliefs.reasons.length), g16_35, g16_36, g16_37]
        · obtain rfl := Option.some.inj h
          try simp only [go_sem, Int.reduceLT, Int.reduceLE, Int.reduceBEq, Int.reduceBNe, Nat.reduceBNe, Nat.reduceAdd, Nat.reduceMul, Nat.reduceEqDiff, Nat.reduceLeDiff, Nat.reduceLT, Nat.reduceBEq, reduceCtorEq, reduceIte, c2, c3, c5, c7]
      · obtain rfl := Option.some.inj h
        try simp only [go_sem, Int.reduceLT, Int.reduceLE, Int.reduceBEq, Int.reduceBNe, Nat.reduceBNe, Nat.reduceAdd, Nat.reduceMul, Nat.reduceEqDiff, Nat.reduceLeDiff, Nat.reduceLT, Nat.reduceBEq, reduceCtorEq, reduceIte, c2, c3, c5]
  · obtain rfl := Option.some.inj h
    try simp only [go_sem, Int.reduceLT, Int.reduceLE, Int.reduceBEq, Int.reduceBNe, Nat.reduceBNe, Nat.reduceAdd, Nat.reduceMul, Nat.reduceEqDiff, Nat.reduceLeDiff, Nat.reduceLT, Nat.reduceBEq, reduceCtorEq, reduceIte, c2]
theorem i_copyBeliefs_ok {b_0 : BeliefsD} {r : BeliefsD} (h : i_copyBeliefs b_0 = some r) : Sound Try.prog J0 122 [(true, eBeliefs b_0)] [(true, [(false, .int .i64 r.nodes), (false, .sl 147 3 (List.map eReason r.reasons))])] := by
  refine fnk Try.func122 (by kernel_rfl) rfl (by kernel_rfl) (by kernel_rfl) ?_
  unfold i_copyBeliefs at h
  simp only [fnS, f122, argSt, go_sem, Int.reduceLT, Int.reduceLE, Int.reduceBEq, Int.reduceBNe, Nat.reduceBNe, Nat.reduceAdd, Nat.reduceMul, Nat.reduceEqDiff, Nat.reduceLeDiff, Nat.reduceLT, Nat.reduceBEq, reduceCtorEq, reduceIte]
  refine swp_for h (fun i row_5 st => IV [(2, .bp 0 0), (3, .bp 1 0), (10, .p false [.c (.sl 147 3 (List.map eReason b_0.reasons))]), (11, .p false [.c (.int .i64 ((b_0.reasons.length : Nat) : Int))]), (12, .p false [.c (.int .i64 ((i : Nat) : Int))])] [.box 50 [.c (.int .i64 0), .nil 147 3], .box 50 [.c (.int .i64 b_0.nodes), .row 2], .row 147 3 (List.map eReason row_5) 2] st) [(true, 80, 1)] [16, 80, 176] (by decide) ?_ ?_ ?_
  · simp only [go_sem, Int.reduceLT, Int.reduceLE, Int.reduceBEq, Int.reduceBNe, Nat.reduceBNe, Nat.reduceAdd, Nat.reduceMul, Nat.reduceEqDiff, Nat.reduceLeDiff, Nat.reduceLT, Nat.reduceBEq, reduceCtorEq, reduceIte, IV, sts_cons, sts_nil, obs_cons, obs_nil]
  · rintro i9 x10 row_5 ⟨sl, ob, n⟩ y1 hx2 hI3 hW4 h hy1
    simp only [IV, sts_cons, sts_nil, obs_cons, obs_nil, and_true, true_and, Nat.reduceAdd, str_len] at hI3
    obtain ⟨⟨g5_2, g5_3, g5_10, g5_11, g5_12⟩, og5_0, og5_1, og5_2, hn⟩ := hI3
    subst hn
    have hlhx2 := WF.slotL hW4 g5_10 (j := 0) rfl
    try simp only [go_sem, Int.reduceLT, Int.reduceLE, Int.reduceBEq, Int.reduceBNe, Nat.reduceBNe, Nat.reduceAdd, Nat.reduceMul, Nat.reduceEqDiff, Nat.reduceLeDiff, Nat.reduceLT, Nat.reduceBEq, reduceCtorEq, reduceIte, hx2, lt_t hx2, lt_p hx2, nat_in (lt_n hx2) hlhx2, g5_2, g5_3, g5_10, g5_11, g5_12, og5_0, og5_1, og5_2]
    obtain ⟨v11, e6, h⟩ := bind_K h
    refine call_K (by first | exact i_copyReason_ok e6 | simpa only [go_sem, Int.reduceLT, Int.reduceLE, Int.reduceBEq, Int.reduceBNe, Nat.reduceBNe, Nat.reduceAdd, Nat.reduceMul, Nat.reduceEqDiff, Nat.reduceLeDiff, Nat.reduceLT, Nat.reduceBEq, reduceCtorEq, reduceIte, hx2, lt_t hx2, lt_p hx2, nat_in (lt_n hx2) hlhx2, g5_2, g5_3, g5_10, g5_11, g5_12, og5_0, og5_1, og5_2] using i_copyReason_ok e6) ?_
    obtain ⟨p7, h⟩ := chk_K h
    try simp only [Nat.reduceLeDiff] at p7
    try simp only [go_sem, Int.reduceLT, Int.reduceLE, Int.reduceBEq, Int.reduceBNe, Nat.reduceBNe, Nat.reduceAdd, Nat.reduceMul, Nat.reduceEqDiff, Nat.reduceLeDiff, Nat.reduceLT, Nat.reduceBEq, reduceCtorEq, reduceIte, hx2, lt_t hx2, lt_p hx2, nat_in (lt_n hx2) hlhx2, p7, g5_2, g5_3, g5_10, g5_11, g5_12, og5_0, og5_1, og5_2]
    refine ⟨_, [], [0, 1, 163], (Option.some.inj h).symm, by decide, ?_⟩
    try simp only [go_sem, Int.reduceLT, Int.reduceLE, Int.reduceBEq, Int.reduceBNe, Nat.reduceBNe, Nat.reduceAdd, Nat.reduceMul, Nat.reduceEqDiff, Nat.reduceLeDiff, Nat.reduceLT, Nat.reduceBEq, reduceCtorEq, reduceIte, hx2, lt_t hx2, lt_p hx2, nat_in (lt_n hx2) hlhx2, p7, g5_2, g5_3, g5_10, g5_11, g5_12, og5_0, og5_1, og5_2, IV, sts_cons, sts_nil, obs_cons, obs_nil]
  · rintro row_5 ⟨sl, ob, n⟩ hI8 hW9 h
    simp only [IV, sts_cons, sts_nil, obs_cons, obs_nil, and_true, true_and, Nat.reduceAdd, str_len] at hI8
    obtain ⟨⟨g10_2, g10_3, g10_10, g10_11, g10_12⟩, og10_0, og10_1, og10_2, hn⟩ := hI8
    subst hn
    obtain rfl := Option.some.inj h
    try simp only [go_sem, Int.reduceLT, Int.reduceLE, Int.reduceBEq, Int.reduceBNe, Nat.reduceBNe, Nat.reduceAdd, Nat.reduceMul, Nat.reduceEqDiff, Nat.reduceLeDiff, Nat.reduceLT, Nat.reduceBEq, reduceCtorEq, reduceIte, lt_f (b_0.reasons.length), g10_2, g10_3, g10_10, g10_11, g10_12, og10_0, og10_1, og10_2]
theorem i_labels_ok {b_0 : BeliefsD} {r : (List Bool)} (h : i_labels b_0 = some r) : Sound Try.prog J0 124 [(true, eBeliefs b_0)] [(false, [(false, .sl 4 1 (List.map eBool r))])] := by
  refine fnk Try.func124 (by kernel_rfl) rfl (by kernel_rfl) (by kernel_rfl) ?_
  unfold i_labels at h
  simp only [fnS, f124, argSt, go_sem, Int.reduceLT, Int.reduceLE, Int.reduceBEq, Int.reduceBNe, Nat.reduceBNe, Nat.reduceAdd, Nat.reduceMul, Nat.reduceEqDiff, Nat.reduceLeDiff, Nat.reduceLT, Nat.reduceBEq, reduceCtorEq, reduceIte]
  obtain ⟨v1, e1, h⟩ := bind_K h
  refine call_K (by first | exact i_rounds_ok e1 | simpa only [go_sem, Int.reduceLT, Int.reduceLE, Int.reduceBEq, Int.reduceBNe, Nat.reduceBNe, Nat.reduceAdd, Nat.reduceMul, Nat.reduceEqDiff, Nat.reduceLeDiff, Nat.reduceLT, Nat.reduceBEq, reduceCtorEq, reduceIte] using i_rounds_ok e1) ?_
  try simp only [go_sem, Int.reduceLT, Int.reduceLE, Int.reduceBEq, Int.reduceBNe, Nat.reduceBNe, Nat.reduceAdd, Nat.reduceMul, Nat.reduceEqDiff, Nat.reduceLeDiff, Nat.reduceLT, Nat.reduceBEq, reduceCtorEq, reduceIte]
  refine swp_for h (fun i row_4 st => IV [(3, .p false [.row 0]), (7, .p false [.row 1]), (8, .p false [.c (.int .i64 ((v1.length : Nat) : Int))]), (9, .p false [.c (.int .i64 ((i : Nat) : Int))])] [.row 4 1 (List.map eBool row_4) 2, .row 3 1 (List.map eInt v1) 2] st) [(false, 3, 0)] [112, 64] (by decide) ?_ ?_ ?_
  · simp only [go_sem, Int.reduceLT, Int.reduceLE, Int.reduceBEq, Int.reduceBNe, Nat.reduceBNe, Nat.reduceAdd, Nat.reduceMul, Nat.reduceEqDiff, Nat.reduceLeDiff, Nat.reduceLT, Nat.reduceBEq, reduceCtorEq, reduceIte, IV, sts_cons, sts_nil, obs_cons, obs_nil]
  · rintro i7 x8 row_4 ⟨sl, ob, n⟩ y2 hx3 hI4 hW5 h hy2
    simp only [IV, sts_cons, sts_nil, obs_cons, obs_nil, and_true, true_and, Nat.reduceAdd, str_len] at hI4
    obtain ⟨⟨g6_3, g6_7, g6_8, g6_9⟩, og6_0, og6_1, hn⟩ := hI4
    subst hn
    have hlhx3 := WF.rowL hW5 og6_1
    obtain ⟨p7, h⟩ := chk_K h
    try simp only [Nat.reduceLeDiff] at p7
    try simp only [go_sem, Int.reduceLT, Int.reduceLE, Int.reduceBEq, Int.reduceBNe, Nat.reduceBNe, Nat.reduceAdd, Nat.reduceMul, Nat.reduceEqDiff, Nat.reduceLeDiff, Nat.reduceLT, Nat.reduceBEq, reduceCtorEq, reduceIte, hx3, lt_t hx3, lt_p hx3, nat_in (lt_n hx3) hlhx3, p7, g6_3, g6_7, g6_8, g6_9, og6_0, og6_1]
    refine ⟨_, [], [130, 1], (Option.some.inj h).symm, by decide, ?_⟩
    try simp only [go_sem, Int.reduceLT, Int.reduceLE, Int.reduceBEq, Int.reduceBNe, Nat.reduceBNe, Nat.reduceAdd, Nat.reduceMul, Nat.reduceEqDiff, Nat.reduceLeDiff, Nat.reduceLT, Nat.reduceBEq, reduceCtorEq, reduceIte, hx3, lt_t hx3, lt_p hx3, nat_in (lt_n hx3) hlhx3, p7, g6_3, g6_7, g6_8, g6_9, og6_0, og6_1, IV, sts_cons, sts_nil, obs_cons, obs_nil]
  · rintro row_4 ⟨sl, ob, n⟩ hI8 hW9 h
    simp only [IV, sts_cons, sts_nil, obs_cons, obs_nil, and_true, true_and, Nat.reduceAdd, str_len] at hI8
    obtain ⟨⟨g10_3, g10_7, g10_8, g10_9⟩, og10_0, og10_1, hn⟩ := hI8
    subst hn
    obtain rfl := Option.some.inj h
    try simp only [go_sem, Int.reduceLT, Int.reduceLE, Int.reduceBEq, Int.reduceBNe, Nat.reduceBNe, Nat.reduceAdd, Nat.reduceMul, Nat.reduceEqDiff, Nat.reduceLeDiff, Nat.reduceLT, Nat.reduceBEq, reduceCtorEq, reduceIte, lt_f (v1.length), g10_3, g10_7, g10_8, g10_9, og10_0, og10_1]
end Go.Proofs.Ytccbhhglghboaaa

namespace Go.Proofs.Ytccbhhglghboaaa
open Go.Proofs.Try
set_option linter.unusedSimpArgs false
set_option linter.unusedVariables false
set_option maxRecDepth 1000000
set_option maxHeartbeats 4000000
theorem s_l1Has_ok {l_0 : (List Int)} {x_1 : Int} {r : Bool} (h : s_l1Has l_0 x_1 = some r) : Sound Try.prog J0 144 [(false, [.sl 3 1 (List.map eInt l_0)]), (false, [.int .i64 x_1])] [(false, [(false, .bool r)])] := by
  refine fnk Try.func144 (by kernel_rfl) rfl (by kernel_rfl) (by kernel_rfl) ?_
  unfold s_l1Has at h
  simp only [fnS, f144, argSt, go_sem, Int.reduceLT, Int.reduceLE, Int.reduceBEq, Int.reduceBNe, Nat.reduceBNe, Nat.reduceAdd, Nat.reduceMul, Nat.reduceEqDiff, Nat.reduceLeDiff, Nat.reduceLT, Nat.reduceBEq, reduceCtorEq, reduceIte]
  refine swp_for h (fun i _ st => IV [(0, .p false [.c (.sl 3 1 (List.map eInt l_0))]), (1, .p false [.c (.int .i64 x_1)]), (5, .p false [.c (.int .i64 ((i : Nat) : Int))])] [] st) [] [] (by decide) ?_ ?_ ?_
  · simp only [go_sem, Int.reduceLT, Int.reduceLE, Int.reduceBEq, Int.reduceBNe, Nat.reduceBNe, Nat.reduceAdd, Nat.reduceMul, Nat.reduceEqDiff, Nat.reduceLeDiff, Nat.reduceLT, Nat.reduceBEq, reduceCtorEq, reduceIte, IV, sts_cons, sts_nil, obs_cons, obs_nil]
  · rintro i4 x5 ⟨⟩ ⟨sl, ob, n⟩ y1 hx2 hI3 hW4 h hy1
    simp only [IV, sts_cons, sts_nil, obs_cons, obs_nil, and_true, true_and, Nat.reduceAdd, str_len] at hI3
    obtain ⟨⟨g5_0, g5_1, g5_5⟩, hn⟩ := hI3
    subst hn
    have hlhx2 := WF.slotL hW4 g5_0 (j := 0) rfl
    try simp only [go_sem, Int.reduceLT, Int.reduceLE, Int.reduceBEq, Int.reduceBNe, Nat.reduceBNe, Nat.reduceAdd, Nat.reduceMul, Nat.reduceEqDiff, Nat.reduceLeDiff, Nat.reduceLT, Nat.reduceBEq, reduceCtorEq, reduceIte, hx2, lt_t hx2, lt_p hx2, nat_in (lt_n hx2) hlhx2, g5_0, g5_1, g5_5]
    refine ite_K h (fun c6 h => ?_) (fun c6 h => ?_)
    · replace h := inr_K h hy1
      obtain rfl := Option.some.inj h
      try simp only [go_sem, Int.reduceLT, Int.reduceLE, Int.reduceBEq, Int.reduceBNe, Nat.reduceBNe, Nat.reduceAdd, Nat.reduceMul, Nat.reduceEqDiff, Nat.reduceLeDiff, Nat.reduceLT, Nat.reduceBEq, reduceCtorEq, reduceIte, hx2, lt_t hx2, lt_p hx2, nat_in (lt_n hx2) hlhx2, c6, g5_0, g5_1, g5_5]
    · try simp only [go_sem, Int.reduceLT, Int.reduceLE, Int.reduceBEq, Int.reduceBNe, Nat.reduceBNe, Nat.reduceAdd, Nat.reduceMul, Nat.reduceEqDiff, Nat.reduceLeDiff, Nat.reduceLT, Nat.reduceBEq, reduceCtorEq, reduceIte, hx2, lt_t hx2, lt_p hx2, nat_in (lt_n hx2) hlhx2, c6, g5_0, g5_1, g5_5]
      refine ⟨_, [], [], (Option.some.inj h).symm, by decide, ?_⟩
      try simp only [go_sem, Int.reduceLT, Int.reduceLE, Int.reduceBEq, Int.reduceBNe, Nat.reduceBNe, Nat.reduceAdd, Nat.reduceMul, Nat.reduceEqDiff, Nat.reduceLeDiff, Nat.reduceLT, Nat.reduceBEq, reduceCtorEq, reduceIte, hx2, lt_t hx2, lt_p hx2, nat_in (lt_n hx2) hlhx2, c6, g5_0, g5_1, g5_5, IV, sts_cons, sts_nil, obs_cons, obs_nil]
  · rintro ⟨⟩ ⟨sl, ob, n⟩ hI7 hW8 h
    simp only [IV, sts_cons, sts_nil, obs_cons, obs_nil, and_true, true_and, Nat.reduceAdd, str_len] at hI7
    obtain ⟨⟨g9_0, g9_1, g9_5⟩, hn⟩ := hI7
    subst hn
    obtain rfl := Option.some.inj h
    try simp only [go_sem, Int.reduceLT, Int.reduceLE, Int.reduceBEq, Int.reduceBNe, Nat.reduceBNe, Nat.reduceAdd, Nat.reduceMul, Nat.reduceEqDiff, Nat.reduceLeDiff, Nat.reduceLT, Nat.reduceBEq, reduceCtorEq, reduceIte, lt_f (l_0.length), g9_0, g9_1, g9_5]
end Go.Proofs.Ytccbhhglghboaaa

namespace Go.Proofs.Ytccbhhglghboaaa
open Go.Proofs.Try
set_option linter.unusedSimpArgs false
set_option linter.unusedVariables false
set_option maxRecDepth 1000000
set_option maxHeartbeats 4000000
theorem s_IsFrame_ok {f_0 : FrameD} {r : Bool} (h : s_IsFrame f_0 = some r) : Sound Try.prog J0 111 [(true, eFrame f_0)] [(false, [(false, .bool r)])] := by
  refine fnk Try.func111 (by kernel_rfl) rfl (by kernel_rfl) (by kernel_rfl) ?_
  unfold s_IsFrame at h
  simp only [fnS, f111, argSt, go_sem, Int.reduceLT, Int.reduceLE, Int.reduceBEq, Int.reduceBNe, Nat.reduceBNe, Nat.reduceAdd, Nat.reduceMul, Nat.reduceEqDiff, Nat.reduceLeDiff, Nat.reduceLT, Nat.reduceBEq, reduceCtorEq, reduceIte]
  refine swp_for h (fun i _ st => IV [(1, .bp 0 0), (3, .p false [.c (.int .i64 ((i : Nat) : Int))])] [.box 52 [.c (.int .i64 f_0.beliefs.nodes), .c (.sl 147 3 (List.map eReason f_0.beliefs.reasons)), .c (.sl 3 1 (List.map eInt f_0.assumed)), .c (.sl 3 1 (List.map eInt f_0.bad))]] st) [] [0] (by decide) ?_ ?_ ?_
  · simp only [go_sem, Int.reduceLT, Int.reduceLE, Int.reduceBEq, Int.reduceBNe, Nat.reduceBNe, Nat.reduceAdd, Nat.reduceMul, Nat.reduceEqDiff, Nat.reduceLeDiff, Nat.reduceLT, Nat.reduceBEq, reduceCtorEq, reduceIte, IV, sts_cons, sts_nil, obs_cons, obs_nil]
  · rintro i7 x8 ⟨⟩ ⟨sl, ob, n⟩ y1 hx2 hI3 hW4 h hy1
    simp only [IV, sts_cons, sts_nil, obs_cons, obs_nil, and_true, true_and, Nat.reduceAdd, str_len] at hI3
    obtain ⟨⟨g5_1, g5_3⟩, og5_0, hn⟩ := hI3
    subst hn
    have hlhx2 := WF.boxL hW4 og5_0 (j := 1) rfl
    try simp only [go_sem, Int.reduceLT, Int.reduceLE, Int.reduceBEq, Int.reduceBNe, Nat.reduceBNe, Nat.reduceAdd, Nat.reduceMul, Nat.reduceEqDiff, Nat.reduceLeDiff, Nat.reduceLT, Nat.reduceBEq, reduceCtorEq, reduceIte, hx2, lt_t hx2, lt_p hx2, nat_in (lt_n hx2) hlhx2, g5_1, g5_3, og5_0]
    refine ite_K h (fun c6 h => ?_) (fun c6 h => ?_)
    · replace h := inr_K h hy1
      obtain rfl := Option.some.inj h
      try simp only [go_sem, Int.reduceLT, Int.reduceLE, Int.reduceBEq, Int.reduceBNe, Nat.reduceBNe, Nat.reduceAdd, Nat.reduceMul, Nat.reduceEqDiff, Nat.reduceLeDiff, Nat.reduceLT, Nat.reduceBEq, reduceCtorEq, reduceIte, hx2, lt_t hx2, lt_p hx2, nat_in (lt_n hx2) hlhx2, c6, g5_1, g5_3, og5_0]
    · try simp only [go_sem, Int.reduceLT, Int.reduceLE, Int.reduceBEq, Int.reduceBNe, Nat.reduceBNe, Nat.reduceAdd, Nat.reduceMul, Nat.reduceEqDiff, Nat.reduceLeDiff, Nat.reduceLT, Nat.reduceBEq, reduceCtorEq, reduceIte, hx2, lt_t hx2, lt_p hx2, nat_in (lt_n hx2) hlhx2, c6, g5_1, g5_3, og5_0]
      refine ⟨_, [], [0], (Option.some.inj h).symm, by decide, ?_⟩
      try simp only [go_sem, Int.reduceLT, Int.reduceLE, Int.reduceBEq, Int.reduceBNe, Nat.reduceBNe, Nat.reduceAdd, Nat.reduceMul, Nat.reduceEqDiff, Nat.reduceLeDiff, Nat.reduceLT, Nat.reduceBEq, reduceCtorEq, reduceIte, hx2, lt_t hx2, lt_p hx2, nat_in (lt_n hx2) hlhx2, c6, g5_1, g5_3, og5_0, IV, sts_cons, sts_nil, obs_cons, obs_nil]
  · rintro ⟨⟩ ⟨sl, ob, n⟩ hI7 hW8 h
    simp only [IV, sts_cons, sts_nil, obs_cons, obs_nil, and_true, true_and, Nat.reduceAdd, str_len] at hI7
    obtain ⟨⟨g9_1, g9_3⟩, og9_0, hn⟩ := hI7
    subst hn
    try simp only [go_sem, Int.reduceLT, Int.reduceLE, Int.reduceBEq, Int.reduceBNe, Nat.reduceBNe, Nat.reduceAdd, Nat.reduceMul, Nat.reduceEqDiff, Nat.reduceLeDiff, Nat.reduceLT, Nat.reduceBEq, reduceCtorEq, reduceIte, lt_f (f_0.beliefs.reasons.length), g9_1, g9_3, og9_0]
    obtain ⟨v9, e10, h⟩ := bind_K h
    refine call_K (by first | exact s_IsBeliefs_ok e10 | simpa only [go_sem, Int.reduceLT, Int.reduceLE, Int.reduceBEq, Int.reduceBNe, Nat.reduceBNe, Nat.reduceAdd, Nat.reduceMul, Nat.reduceEqDiff, Nat.reduceLeDiff, Nat.reduceLT, Nat.reduceBEq, reduceCtorEq, reduceIte, lt_f (f_0.beliefs.reasons.length), g9_1, g9_3, og9_0] using s_IsBeliefs_ok e10) ?_
    try simp only [go_sem, Int.reduceLT, Int.reduceLE, Int.reduceBEq, Int.reduceBNe, Nat.reduceBNe, Nat.reduceAdd, Nat.reduceMul, Nat.reduceEqDiff, Nat.reduceLeDiff, Nat.reduceLT, Nat.reduceBEq, reduceCtorEq, reduceIte, lt_f (f_0.beliefs.reasons.length), g9_1, g9_3, og9_0]
    refine ite_K h (fun c11 h => ?_) (fun c11 h => ?_)
    · try simp only [go_sem, Int.reduceLT, Int.reduceLE, Int.reduceBEq, Int.reduceBNe, Nat.reduceBNe, Nat.reduceAdd, Nat.reduceMul, Nat.reduceEqDiff, Nat.reduceLeDiff, Nat.reduceLT, Nat.reduceBEq, reduceCtorEq, reduceIte, lt_f (f_0.beliefs.reasons.length), c11, g9_1, g9_3, og9_0]
      obtain ⟨v10, e12, h⟩ := bind_K h
      refine call_K (by first | exact s_l11List_ok e12 | simpa only [go_sem, Int.reduceLT, Int.reduceLE, Int.reduceBEq, Int.reduceBNe, Nat.reduceBNe, Nat.reduceAdd, Nat.reduceMul, Nat.reduceEqDiff, Nat.reduceLeDiff, Nat.reduceLT, Nat.reduceBEq, reduceCtorEq, reduceIte, lt_f (f_0.beliefs.reasons.length), c11, g9_1, g9_3, og9_0] using s_l11List_ok e12) ?_
      try simp only [go_sem, Int.reduceLT, Int.reduceLE, Int.reduceBEq, Int.reduceBNe, Nat.reduceBNe, Nat.reduceAdd, Nat.reduceMul, Nat.reduceEqDiff, Nat.reduceLeDiff, Nat.reduceLT, Nat.reduceBEq, reduceCtorEq, reduceIte, lt_f (f_0.beliefs.reasons.length), c11, g9_1, g9_3, og9_0]
      refine ite_K h (fun c13 h => ?_) (fun c13 h => ?_)
      · try simp only [go_sem, Int.reduceLT, Int.reduceLE, Int.reduceBEq, Int.reduceBNe, Nat.reduceBNe, Nat.reduceAdd, Nat.reduceMul, Nat.reduceEqDiff, Nat.reduceLeDiff, Nat.reduceLT, Nat.reduceBEq, reduceCtorEq, reduceIte, lt_f (f_0.beliefs.reasons.length), c11, c13, g9_1, g9_3, og9_0]
        refine ite_K h (fun c14 h => ?_) (fun c14 h => ?_)
        · try simp only [go_sem, Int.reduceLT, Int.reduceLE, Int.reduceBEq, Int.reduceBNe, Nat.reduceBNe, Nat.reduceAdd, Nat.reduceMul, Nat.reduceEqDiff, Nat.reduceLeDiff, Nat.reduceLT, Nat.reduceBEq, reduceCtorEq, reduceIte, lt_f (f_0.beliefs.reasons.length), c11, c13, c14, g9_1, g9_3, og9_0]
          obtain ⟨v11, e15, h⟩ := bind_K h
          refine call_K (by first | exact s_l11List_ok e15 | simpa only [go_sem, Int.reduceLT, Int.reduceLE, Int.reduceBEq, Int.reduceBNe, Nat.reduceBNe, Nat.reduceAdd, Nat.reduceMul, Nat.reduceEqDiff, Nat.reduceLeDiff, Nat.reduceLT, Nat.reduceBEq, reduceCtorEq, reduceIte, lt_f (f_0.beliefs.reasons.length), c11, c13, c14, g9_1, g9_3, og9_0] using s_l11List_ok e15) ?_
          obtain rfl := Option.some.inj h
          try simp only [go_sem, Int.reduceLT, Int.reduceLE, Int.reduceBEq, Int.reduceBNe, Nat.reduceBNe, Nat.reduceAdd, Nat.reduceMul, Nat.reduceEqDiff, Nat.reduceLeDiff, Nat.reduceLT, Nat.reduceBEq, reduceCtorEq, reduceIte, lt_f (f_0.beliefs.reasons.length), c11, c13, c14, g9_1, g9_3, og9_0]
        · obtain rfl := Option.some.inj h
          try simp only [go_sem, Int.reduceLT, Int.reduceLE, Int.reduceBEq, Int.reduceBNe, Nat.reduceBNe, Nat.reduceAdd, Nat.reduceMul, Nat.reduceEqDiff, Nat.reduceLeDiff, Nat.reduceLT, Nat.reduceBEq, reduceCtorEq, reduceIte, lt_f (f_0.beliefs.reasons.length), c11, c13, c14, g9_1, g9_3, og9_0]
      · obtain rfl := Option.some.inj h
        try simp only [go_sem, Int.reduceLT, Int.reduceLE, Int.reduceBEq, Int.reduceBNe, Nat.reduceBNe, Nat.reduceAdd, Nat.reduceMul, Nat.reduceEqDiff, Nat.reduceLeDiff, Nat.reduceLT, Nat.reduceBEq, reduceCtorEq, reduceIte, lt_f (f_0.beliefs.reasons.length), c11, c13, g9_1, g9_3, og9_0]
    · obtain rfl := Option.some.inj h
      try simp only [go_sem, Int.reduceLT, Int.reduceLE, Int.reduceBEq, Int.reduceBNe, Nat.reduceBNe, Nat.reduceAdd, Nat.reduceMul, Nat.reduceEqDiff, Nat.reduceLeDiff, Nat.reduceLT, Nat.reduceBEq, reduceCtorEq, reduceIte, lt_f (f_0.beliefs.reasons.length), c11, g9_1, g9_3, og9_0]
theorem i_under_ok {f_0 : FrameD} {set_1 : Int} {r : (List Bool)} (h : i_under f_0 set_1 = some r) : Sound Try.prog J0 74 [(true, eFrame f_0), (false, [.int .i64 set_1])] [(false, [(false, .sl 4 1 (List.map eBool r))])] := by
  refine fnk Try.func74 (by kernel_rfl) rfl (by kernel_rfl) (by kernel_rfl) ?_
  unfold i_under at h
  simp only [fnS, f74, argSt, go_sem, Int.reduceLT, Int.reduceLE, Int.reduceBEq, Int.reduceBNe, Nat.reduceBNe, Nat.reduceAdd, Nat.reduceMul, Nat.reduceEqDiff, Nat.reduceLeDiff, Nat.reduceLT, Nat.reduceBEq, reduceCtorEq, reduceIte]
  obtain ⟨v1, e1, h⟩ := bind_K h
  refine call_K (by first | exact i_copyBeliefs_ok e1 | simpa only [go_sem, Int.reduceLT, Int.reduceLE, Int.reduceBEq, Int.reduceBNe, Nat.reduceBNe, Nat.reduceAdd, Nat.reduceMul, Nat.reduceEqDiff, Nat.reduceLeDiff, Nat.reduceLT, Nat.reduceBEq, reduceCtorEq, reduceIte] using i_copyBeliefs_ok e1) ?_
  try simp only [go_sem, Int.reduceLT, Int.reduceLE, Int.reduceBEq, Int.reduceBNe, Nat.reduceBNe, Nat.reduceAdd, Nat.reduceMul, Nat.reduceEqDiff, Nat.reduceLeDiff, Nat.reduceLT, Nat.reduceBEq, reduceCtorEq, reduceIte]
  obtain ⟨v2, e2, h⟩ := bind_K h
  refine call_K (by first | exact i_chosen_ok e2 | simpa only [go_sem, Int.reduceLT, Int.reduceLE, Int.reduceBEq, Int.reduceBNe, Nat.reduceBNe, Nat.reduceAdd, Nat.reduceMul, Nat.reduceEqDiff, Nat.reduceLeDiff, Nat.reduceLT, Nat.reduceBEq, reduceCtorEq, reduceIte] using i_chosen_ok e2) ?_
  try simp only [go_sem, Int.reduceLT, Int.reduceLE, Int.reduceBEq, Int.reduceBNe, Nat.reduceBNe, Nat.reduceAdd, Nat.reduceMul, Nat.reduceEqDiff, Nat.reduceLeDiff, Nat.reduceLT, Nat.reduceBEq, reduceCtorEq, reduceIte]
  refine swp_for h (fun i row_4 st => IV [(5, .bp 0 0), (14, .p false [.row 2]), (15, .p false [.c (.int .i64 ((v2.length : Nat) : Int))]), (16, .p false [.c (.int .i64 ((i : Nat) : Int))])] [.box 50 [.c (.int .i64 v1.nodes), .row 1], .row 147 3 (List.map eReason row_4) 2, .row 3 1 (List.map eInt v2) 2] st) [] [80, 64, 160] (by decide) ?_ ?_ ?_
  · simp only [go_sem, Int.reduceLT, Int.reduceLE, Int.reduceBEq, Int.reduceBNe, Nat.reduceBNe, Nat.reduceAdd, Nat.reduceMul, Nat.reduceEqDiff, Nat.reduceLeDiff, Nat.reduceLT, Nat.reduceBEq, reduceCtorEq, reduceIte, IV, sts_cons, sts_nil, obs_cons, obs_nil]
  · rintro i8 x9 row_4 ⟨sl, ob, n⟩ y3 hx4 hI5 hW6 h hy3
    simp only [IV, sts_cons, sts_nil, obs_cons, obs_nil, and_true, true_and, Nat.reduceAdd, str_len] at hI5
    obtain ⟨⟨g7_5, g7_14, g7_15, g7_16⟩, og7_0, og7_1, og7_2, hn⟩ := hI5
    subst hn
    have hlhx4 := WF.rowL hW6 og7_2
    obtain ⟨p8, h⟩ := chk_K h
    try simp only [Nat.reduceLeDiff] at p8
    try simp only [go_sem, Int.reduceLT, Int.reduceLE, Int.reduceBEq, Int.reduceBNe, Nat.reduceBNe, Nat.reduceAdd, Nat.reduceMul, Nat.reduceEqDiff, Nat.reduceLeDiff, Nat.reduceLT, Nat.reduceBEq, reduceCtorEq, reduceIte, hx4, lt_t hx4, lt_p hx4, nat_in (lt_n hx4) hlhx4, p8, g7_5, g7_14, g7_15, g7_16, og7_0, og7_1, og7_2]
    refine ⟨_, [], [0, 147, 2], (Option.some.inj h).symm, by decide, ?_⟩
    try simp only [go_sem, Int.reduceLT, Int.reduceLE, Int.reduceBEq, Int.reduceBNe, Nat.reduceBNe, Nat.reduceAdd, Nat.reduceMul, Nat.reduceEqDiff, Nat.reduceLeDiff, Nat.reduceLT, Nat.reduceBEq, reduceCtorEq, reduceIte, hx4, lt_t hx4, lt_p hx4, nat_in (lt_n hx4) hlhx4, p8, g7_5, g7_14, g7_15, g7_16, og7_0, og7_1, og7_2, IV, sts_cons, sts_nil, obs_cons, obs_nil]
  · rintro row_4 ⟨sl, ob, n⟩ hI9 hW10 h
    simp only [IV, sts_cons, sts_nil, obs_cons, obs_nil, and_true, true_and, Nat.reduceAdd, str_len] at hI9
    obtain ⟨⟨g11_5, g11_14, g11_15, g11_16⟩, og11_0, og11_1, og11_2, hn⟩ := hI9
    subst hn
    try simp only [go_sem, Int.reduceLT, Int.reduceLE, Int.reduceBEq, Int.reduceBNe, Nat.reduceBNe, Nat.reduceAdd, Nat.reduceMul, Nat.reduceEqDiff, Nat.reduceLeDiff, Nat.reduceLT, Nat.reduceBEq, reduceCtorEq, reduceIte, lt_f (v2.length), g11_5, g11_14, g11_15, g11_16, og11_0, og11_1, og11_2]
    obtain ⟨v10, e12, h⟩ := bind_K h
    refine call_K (by first | exact i_labels_ok e12 | simpa only [go_sem, Int.reduceLT, Int.reduceLE, Int.reduceBEq, Int.reduceBNe, Nat.reduceBNe, Nat.reduceAdd, Nat.reduceMul, Nat.reduceEqDiff, Nat.reduceLeDiff, Nat.reduceLT, Nat.reduceBEq, reduceCtorEq, reduceIte, lt_f (v2.length), g11_5, g11_14, g11_15, g11_16, og11_0, og11_1, og11_2] using i_labels_ok e12) ?_
    obtain rfl := Option.some.inj h
    try simp only [go_sem, Int.reduceLT, Int.reduceLE, Int.reduceBEq, Int.reduceBNe, Nat.reduceBNe, Nat.reduceAdd, Nat.reduceMul, Nat.reduceEqDiff, Nat.reduceLeDiff, Nat.reduceLT, Nat.reduceBEq, reduceCtorEq, reduceIte, lt_f (v2.length), g11_5, g11_14, g11_15, g11_16, og11_0, og11_1, og11_2]
end Go.Proofs.Ytccbhhglghboaaa

namespace Go.Proofs.Ytccbhhglghboaaa
open Go.Proofs.Try
set_option linter.unusedSimpArgs false
set_option linter.unusedVariables false
set_option maxRecDepth 1000000
set_option maxHeartbeats 4000000
theorem s_l13Set_ok {f_0 : FrameD} {set_1 : Int} {r : Bool} (h : s_l13Set f_0 set_1 = some r) : Sound Try.prog J0 64 [(true, eFrame f_0), (false, [.int .i64 set_1])] [(false, [(false, .bool r)])] := by
  refine fnk Try.func64 (by kernel_rfl) rfl (by kernel_rfl) (by kernel_rfl) ?_
  unfold s_l13Set at h
  simp only [fnS, f64, argSt, go_sem, Int.reduceLT, Int.reduceLE, Int.reduceBEq, Int.reduceBNe, Nat.reduceBNe, Nat.reduceAdd, Nat.reduceMul, Nat.reduceEqDiff, Nat.reduceLeDiff, Nat.reduceLT, Nat.reduceBEq, reduceCtorEq, reduceIte]
  obtain ⟨v1, e1, h⟩ := bind_K h
  refine call_K (by first | exact s_IsFrame_ok e1 | simpa only [go_sem, Int.reduceLT, Int.reduceLE, Int.reduceBEq, Int.reduceBNe, Nat.reduceBNe, Nat.reduceAdd, Nat.reduceMul, Nat.reduceEqDiff, Nat.reduceLeDiff, Nat.reduceLT, Nat.reduceBEq, reduceCtorEq, reduceIte] using s_IsFrame_ok e1) ?_
  try simp only [go_sem, Int.reduceLT, Int.reduceLE, Int.reduceBEq, Int.reduceBNe, Nat.reduceBNe, Nat.reduceAdd, Nat.reduceMul, Nat.reduceEqDiff, Nat.reduceLeDiff, Nat.reduceLT, Nat.reduceBEq, reduceCtorEq, reduceIte]
  refine ite_K h (fun c2 h => ?_) (fun c2 h => ?_)
  · obtain ⟨p3, h⟩ := chk_K h
    try simp only [go_sem, Int.reduceLT, Int.reduceLE, Int.reduceBEq, Int.reduceBNe, Nat.reduceBNe, Nat.reduceAdd, Nat.reduceMul, Nat.reduceEqDiff, Nat.reduceLeDiff, Nat.reduceLT, Nat.reduceBEq, reduceCtorEq, reduceIte, c2, p3]
    obtain ⟨v2, e4, h⟩ := bind_K h
    refine call_K (by first | exact s_l1In_ok e4 | simpa only [go_sem, Int.reduceLT, Int.reduceLE, Int.reduceBEq, Int.reduceBNe, Nat.reduceBNe, Nat.reduceAdd, Nat.reduceMul, Nat.reduceEqDiff, Nat.reduceLeDiff, Nat.reduceLT, Nat.reduceBEq, reduceCtorEq, reduceIte, c2, p3] using s_l1In_ok e4) ?_
    obtain rfl := Option.some.inj h
    try simp only [go_sem, Int.reduceLT, Int.reduceLE, Int.reduceBEq, Int.reduceBNe, Nat.reduceBNe, Nat.reduceAdd, Nat.reduceMul, Nat.reduceEqDiff, Nat.reduceLeDiff, Nat.reduceLT, Nat.reduceBEq, reduceCtorEq, reduceIte, c2, p3]
  · obtain rfl := Option.some.inj h
    try simp only [go_sem, Int.reduceLT, Int.reduceLE, Int.reduceBEq, Int.reduceBNe, Nat.reduceBNe, Nat.reduceAdd, Nat.reduceMul, Nat.reduceEqDiff, Nat.reduceLeDiff, Nat.reduceLT, Nat.reduceBEq, reduceCtorEq, reduceIte, c2]
end Go.Proofs.Ytccbhhglghboaaa

namespace Go.Proofs.Ytccbhhglghboaaa
open Go.Proofs.Try
set_option linter.unusedSimpArgs false
set_option linter.unusedVariables false
set_option maxRecDepth 1000000
set_option maxHeartbeats 4000000
theorem i_LabelFor_1_ok {set_0 : Int} {cap_1 : FrameD} {cap_2 : Int} {r : Bool} (h : i_LabelFor_1 set_0 cap_1 cap_2 = some r) : Sound Try.prog J0 85 [(false, [.int .i64 set_0]), (false, [.pt [.int .i64 cap_1.beliefs.nodes, .sl 147 3 (List.map eReason cap_1.beliefs.reasons), .sl 3 1 (List.map eInt cap_1.assumed), .sl 3 1 (List.map eInt cap_1.bad)]]), (false, [.pt [.int .i64 cap_2]])] [(false, [(false, .bool r)])] := by
  refine fnk Try.func85 (by kernel_rfl) rfl (by kernel_rfl) (by kernel_rfl) ?_
  unfold i_LabelFor_1 at h
  simp only [fnS, f85, argSt, go_sem, Int.reduceLT, Int.reduceLE, Int.reduceBEq, Int.reduceBNe, Nat.reduceBNe, Nat.reduceAdd, Nat.reduceMul, Nat.reduceEqDiff, Nat.reduceLeDiff, Nat.reduceLT, Nat.reduceBEq, reduceCtorEq, reduceIte]
  obtain ⟨v1, e1, h⟩ := bind_K h
  refine call_K (by first | exact i_under_ok e1 | simpa only [go_sem, Int.reduceLT, Int.reduceLE, Int.reduceBEq, Int.reduceBNe, Nat.reduceBNe, Nat.reduceAdd, Nat.reduceMul, Nat.reduceEqDiff, Nat.reduceLeDiff, Nat.reduceLT, Nat.reduceBEq, reduceCtorEq, reduceIte] using i_under_ok e1) ?_
  obtain ⟨p2, h⟩ := chk_K h
  obtain ⟨x2, e3, h⟩ := bind_K h
  try simp only [go_sem, Int.reduceLT, Int.reduceLE, Int.reduceBEq, Int.reduceBNe, Nat.reduceBNe, Nat.reduceAdd, Nat.reduceMul, Nat.reduceEqDiff, Nat.reduceLeDiff, Nat.reduceLT, Nat.reduceBEq, reduceCtorEq, reduceIte, p2.1, p2.2, e3]
  refine ite_K h (fun c4 h => ?_) (fun c4 h => ?_)
  · try simp only [go_sem, Int.reduceLT, Int.reduceLE, Int.reduceBEq, Int.reduceBNe, Nat.reduceBNe, Nat.reduceAdd, Nat.reduceMul, Nat.reduceEqDiff, Nat.reduceLeDiff, Nat.reduceLT, Nat.reduceBEq, reduceCtorEq, reduceIte, p2.1, p2.2, e3, c4]
    obtain ⟨v3, e5, h⟩ := bind_K h
    refine call_K (by first | exact i_noneIn_ok e5 | simpa only [go_sem, Int.reduceLT, Int.reduceLE, Int.reduceBEq, Int.reduceBNe, Nat.reduceBNe, Nat.reduceAdd, Nat.reduceMul, Nat.reduceEqDiff, Nat.reduceLeDiff, Nat.reduceLT, Nat.reduceBEq, reduceCtorEq, reduceIte, p2.1, p2.2, e3, c4] using i_noneIn_ok e5) ?_
    obtain rfl := Option.some.inj h
    try simp only [go_sem, Int.reduceLT, Int.reduceLE, Int.reduceBEq, Int.reduceBNe, Nat.reduceBNe, Nat.reduceAdd, Nat.reduceMul, Nat.reduceEqDiff, Nat.reduceLeDiff, Nat.reduceLT, Nat.reduceBEq, reduceCtorEq, reduceIte, p2.1, p2.2, e3, c4]
  · obtain rfl := Option.some.inj h
    try simp only [go_sem, Int.reduceLT, Int.reduceLE, Int.reduceBEq, Int.reduceBNe, Nat.reduceBNe, Nat.reduceAdd, Nat.reduceMul, Nat.reduceEqDiff, Nat.reduceLeDiff, Nat.reduceLT, Nat.reduceBEq, reduceCtorEq, reduceIte, p2.1, p2.2, e3, c4]
end Go.Proofs.Ytccbhhglghboaaa

namespace Go.Proofs.Ytccbhhglghboaaa
open Go.Proofs.Try
set_option linter.unusedSimpArgs false
set_option linter.unusedVariables false
set_option maxRecDepth 1000000
set_option maxHeartbeats 4000000
theorem s_NodesUnder_ok {f_0 : FrameD} {set_1 : Int} {r : (List Int)} (h : s_NodesUnder f_0 set_1 = some r) : Sound Try.prog J0 145 [(true, eFrame f_0), (false, [.int .i64 set_1])] [(false, [(false, .sl 3 1 (List.map eInt r))])] := by
  refine fnk Try.func145 (by kernel_rfl) rfl (by kernel_rfl) (by kernel_rfl) ?_
  unfold s_NodesUnder at h
  simp only [fnS, f145, argSt, go_sem, Int.reduceLT, Int.reduceLE, Int.reduceBEq, Int.reduceBNe, Nat.reduceBNe, Nat.reduceAdd, Nat.reduceMul, Nat.reduceEqDiff, Nat.reduceLeDiff, Nat.reduceLT, Nat.reduceBEq, reduceCtorEq, reduceIte]
  obtain ⟨v1, e1, h⟩ := bind_K h
  refine call_K (by first | exact s_l13Set_ok e1 | simpa only [go_sem, Int.reduceLT, Int.reduceLE, Int.reduceBEq, Int.reduceBNe, Nat.reduceBNe, Nat.reduceAdd, Nat.reduceMul, Nat.reduceEqDiff, Nat.reduceLeDiff, Nat.reduceLT, Nat.reduceBEq, reduceCtorEq, reduceIte] using s_l13Set_ok e1) ?_
  try simp only [go_sem, Int.reduceLT, Int.reduceLE, Int.reduceBEq, Int.reduceBNe, Nat.reduceBNe, Nat.reduceAdd, Nat.reduceMul, Nat.reduceEqDiff, Nat.reduceLeDiff, Nat.reduceLT, Nat.reduceBEq, reduceCtorEq, reduceIte]
  refine ite_K h (fun c2 h => ?_) (fun c2 h => ?_)
  · try simp only [go_sem, Int.reduceLT, Int.reduceLE, Int.reduceBEq, Int.reduceBNe, Nat.reduceBNe, Nat.reduceAdd, Nat.reduceMul, Nat.reduceEqDiff, Nat.reduceLeDiff, Nat.reduceLT, Nat.reduceBEq, reduceCtorEq, reduceIte, c2]
    obtain ⟨v2, e3, h⟩ := bind_K h
    refine call_K (by first | exact s_l13Under_ok e3 | simpa only [go_sem, Int.reduceLT, Int.reduceLE, Int.reduceBEq, Int.reduceBNe, Nat.reduceBNe, Nat.reduceAdd, Nat.reduceMul, Nat.reduceEqDiff, Nat.reduceLeDiff, Nat.reduceLT, Nat.reduceBEq, reduceCtorEq, reduceIte, c2] using s_l13Under_ok e3) ?_
    try simp only [go_sem, Int.reduceLT, Int.reduceLE, Int.reduceBEq, Int.reduceBNe, Nat.reduceBNe, Nat.reduceAdd, Nat.reduceMul, Nat.reduceEqDiff, Nat.reduceLeDiff, Nat.reduceLT, Nat.reduceBEq, reduceCtorEq, reduceIte, c2]
    refine swp_for h (fun i row_4 st => IV [(5, .p false [.row 0]), (6, .p false [.row 1]), (7, .p false [.c (.int .i64 ((i : Nat) : Int))])] [.row 3 1 (List.map eInt row_4) 2, .row 4 1 (List.map eBool v2) 2] st) [] [32, 160] (by decide) ?_ ?_ ?_
    · simp only [go_sem, Int.reduceLT, Int.reduceLE, Int.reduceBEq, Int.reduceBNe, Nat.reduceBNe, Nat.reduceAdd, Nat.reduceMul, Nat.reduceEqDiff, Nat.reduceLeDiff, Nat.reduceLT, Nat.reduceBEq, reduceCtorEq, reduceIte, IV, sts_cons, sts_nil, obs_cons, obs_nil, c2]
    · rintro i7 x8 row_4 ⟨sl, ob, n⟩ y4 hx5 hI6 hW7 h hy4
      simp only [IV, sts_cons, sts_nil, obs_cons, obs_nil, and_true, true_and, Nat.reduceAdd, str_len] at hI6
      obtain ⟨⟨g8_5, g8_6, g8_7⟩, og8_0, og8_1, hn⟩ := hI6
      subst hn
      have hlhx5 := WF.rowL hW7 og8_1
      try simp only [go_sem, Int.reduceLT, Int.reduceLE, Int.reduceBEq, Int.reduceBNe, Nat.reduceBNe, Nat.reduceAdd, Nat.reduceMul, Nat.reduceEqDiff, Nat.reduceLeDiff, Nat.reduceLT, Nat.reduceBEq, reduceCtorEq, reduceIte, c2, hx5, lt_t hx5, lt_p hx5, nat_in (lt_n hx5) hlhx5, g8_5, g8_6, g8_7, og8_0, og8_1]
      refine ite_K h (fun c9 h => ?_) (fun c9 h => ?_)
      · obtain ⟨p10, h⟩ := chk_K h
        try simp only [Nat.reduceLeDiff] at p10
        try simp only [go_sem, Int.reduceLT, Int.reduceLE, Int.reduceBEq, Int.reduceBNe, Nat.reduceBNe, Nat.reduceAdd, Nat.reduceMul, Nat.reduceEqDiff, Nat.reduceLeDiff, Nat.reduceLT, Nat.reduceBEq, reduceCtorEq, reduceIte, c2, hx5, lt_t hx5, lt_p hx5, nat_in (lt_n hx5) hlhx5, c9, p10, g8_5, g8_6, g8_7, og8_0, og8_1]
        refine ⟨_, [], [178, 1], (Option.some.inj h).symm, by decide, ?_⟩
        try simp only [go_sem, Int.reduceLT, Int.reduceLE, Int.reduceBEq, Int.reduceBNe, Nat.reduceBNe, Nat.reduceAdd, Nat.reduceMul, Nat.reduceEqDiff, Nat.reduceLeDiff, Nat.reduceLT, Nat.reduceBEq, reduceCtorEq, reduceIte, c2, hx5, lt_t hx5, lt_p hx5, nat_in (lt_n hx5) hlhx5, c9, p10, g8_5, g8_6, g8_7, og8_0, og8_1, IV, sts_cons, sts_nil, obs_cons, obs_nil]
      · try simp only [go_sem, Int.reduceLT, Int.reduceLE, Int.reduceBEq, Int.reduceBNe, Nat.reduceBNe, Nat.reduceAdd, Nat.reduceMul, Nat.reduceEqDiff, Nat.reduceLeDiff, Nat.reduceLT, Nat.reduceBEq, reduceCtorEq, reduceIte, c2, hx5, lt_t hx5, lt_p hx5, nat_in (lt_n hx5) hlhx5, c9, g8_5, g8_6, g8_7, og8_0, og8_1]
        refine ⟨_, [], [0, 1], (Option.some.inj h).symm, by decide, ?_⟩
        try simp only [go_sem, Int.reduceLT, Int.reduceLE, Int.reduceBEq, Int.reduceBNe, Nat.reduceBNe, Nat.reduceAdd, Nat.reduceMul, Nat.reduceEqDiff, Nat.reduceLeDiff, Nat.reduceLT, Nat.reduceBEq, reduceCtorEq, reduceIte, c2, hx5, lt_t hx5, lt_p hx5, nat_in (lt_n hx5) hlhx5, c9, g8_5, g8_6, g8_7, og8_0, og8_1, IV, sts_cons, sts_nil, obs_cons, obs_nil]
    · rintro row_4 ⟨sl, ob, n⟩ hI11 hW12 h
      simp only [IV, sts_cons, sts_nil, obs_cons, obs_nil, and_true, true_and, Nat.reduceAdd, str_len] at hI11
      obtain ⟨⟨g13_5, g13_6, g13_7⟩, og13_0, og13_1, hn⟩ := hI11
      subst hn
      obtain rfl := Option.some.inj h
      try simp only [go_sem, Int.reduceLT, Int.reduceLE, Int.reduceBEq, Int.reduceBNe, Nat.reduceBNe, Nat.reduceAdd, Nat.reduceMul, Nat.reduceEqDiff, Nat.reduceLeDiff, Nat.reduceLT, Nat.reduceBEq, reduceCtorEq, reduceIte, c2, lt_f (v2.length), g13_5, g13_6, g13_7, og13_0, og13_1]
  · obtain rfl := Option.some.inj h
    try simp only [go_sem, Int.reduceLT, Int.reduceLE, Int.reduceBEq, Int.reduceBNe, Nat.reduceBNe, Nat.reduceAdd, Nat.reduceMul, Nat.reduceEqDiff, Nat.reduceLeDiff, Nat.reduceLT, Nat.reduceBEq, reduceCtorEq, reduceIte, c2]
theorem i_LabelFor_ok {f_0 : FrameD} {x_1 : Int} {r : (List Int)} (h : i_LabelFor f_0 x_1 = some r) : Sound Try.prog J0 40 [(true, eFrame f_0), (false, [.int .i64 x_1])] [(false, [(false, .sl 3 1 (List.map eInt r))])] := by
  refine fnk Try.func40 (by kernel_rfl) rfl (by kernel_rfl) (by kernel_rfl) ?_
  unfold i_LabelFor at h
  simp only [fnS, f40, argSt, go_sem, Int.reduceLT, Int.reduceLE, Int.reduceBEq, Int.reduceBNe, Nat.reduceBNe, Nat.reduceAdd, Nat.reduceMul, Nat.reduceEqDiff, Nat.reduceLeDiff, Nat.reduceLT, Nat.reduceBEq, reduceCtorEq, reduceIte]
  obtain ⟨v1, e1, h⟩ := bind_K h
  refine call_K (by first | exact i_IsFrame_ok e1 | simpa only [go_sem, Int.reduceLT, Int.reduceLE, Int.reduceBEq, Int.reduceBNe, Nat.reduceBNe, Nat.reduceAdd, Nat.reduceMul, Nat.reduceEqDiff, Nat.reduceLeDiff, Nat.reduceLT, Nat.reduceBEq, reduceCtorEq, reduceIte] using i_IsFrame_ok e1) ?_
  try simp only [go_sem, Int.reduceLT, Int.reduceLE, Int.reduceBEq, Int.reduceBNe, Nat.reduceBNe, Nat.reduceAdd, Nat.reduceMul, Nat.reduceEqDiff, Nat.reduceLeDiff, Nat.reduceLT, Nat.reduceBEq, reduceCtorEq, reduceIte]
  refine ite_K h (fun c2 h => ?_) (fun c2 h => ?_)
  · try simp only [go_sem, Int.reduceLT, Int.reduceLE, Int.reduceBEq, Int.reduceBNe, Nat.reduceBNe, Nat.reduceAdd, Nat.reduceMul, Nat.reduceEqDiff, Nat.reduceLeDiff, Nat.reduceLT, Nat.reduceBEq, reduceCtorEq, reduceIte, c2]
    refine ite_K h (fun c3 h => ?_) (fun c3 h => ?_)
    · obtain rfl := Option.some.inj h
      try simp only [go_sem, Int.reduceLT, Int.reduceLE, Int.reduceBEq, Int.reduceBNe, Nat.reduceBNe, Nat.reduceAdd, Nat.reduceMul, Nat.reduceEqDiff, Nat.reduceLeDiff, Nat.reduceLT, Nat.reduceBEq, reduceCtorEq, reduceIte, c2, c3]
    · try simp only [go_sem, Int.reduceLT, Int.reduceLE, Int.reduceBEq, Int.reduceBNe, Nat.reduceBNe, Nat.reduceAdd, Nat.reduceMul, Nat.reduceEqDiff, Nat.reduceLeDiff, Nat.reduceLT, Nat.reduceBEq, reduceCtorEq, reduceIte, c2, c3]
      refine ite_K h (fun c4 h => ?_) (fun c4 h => ?_)
      · obtain rfl := Option.some.inj h
        try simp only [go_sem, Int.reduceLT, Int.reduceLE, Int.reduceBEq, Int.reduceBNe, Nat.reduceBNe, Nat.reduceAdd, Nat.reduceMul, Nat.reduceEqDiff, Nat.reduceLeDiff, Nat.reduceLT, Nat.reduceBEq, reduceCtorEq, reduceIte, c2, c3, c4]
      · try simp only [go_sem, Int.reduceLT, Int.reduceLE, Int.reduceBEq, Int.reduceBNe, Nat.reduceBNe, Nat.reduceAdd, Nat.reduceMul, Nat.reduceEqDiff, Nat.reduceLeDiff, Nat.reduceLT, Nat.reduceBEq, reduceCtorEq, reduceIte, c2, c3, c4]
        obtain ⟨v2, e5, h⟩ := bind_K h
        refine call_K (by first | exact i_setsWith_ok (kkeep_1 := 85) (ckeep_1 := [.pt [.int .i64 f_0.beliefs.nodes, .sl 147 3 (List.map eReason f_0.beliefs.reasons), .sl 3 1 (List.map eInt f_0.assumed), .sl 3 1 (List.map eInt f_0.bad)], .pt [.int .i64 x_1]]) hd_85 (fun hh => i_LabelFor_1_ok hh) e5 | simpa only [go_sem, Int.reduceLT, Int.reduceLE, Int.reduceBEq, Int.reduceBNe, Nat.reduceBNe, Nat.reduceAdd, Nat.reduceMul, Nat.reduceEqDiff, Nat.reduceLeDiff, Nat.reduceLT, Nat.reduceBEq, reduceCtorEq, reduceIte, c2, c3, c4] using i_setsWith_ok (kkeep_1 := 85) (ckeep_1 := [.pt [.int .i64 f_0.beliefs.nodes, .sl 147 3 (List.map eReason f_0.beliefs.reasons), .sl 3 1 (List.map eInt f_0.assumed), .sl 3 1 (List.map eInt f_0.bad)], .pt [.int .i64 x_1]]) hd_85 (fun hh => i_LabelFor_1_ok hh) e5) ?_
        try simp only [go_sem, Int.reduceLT, Int.reduceLE, Int.reduceBEq, Int.reduceBNe, Nat.reduceBNe, Nat.reduceAdd, Nat.reduceMul, Nat.reduceEqDiff, Nat.reduceLeDiff, Nat.reduceLT, Nat.reduceBEq, reduceCtorEq, reduceIte, c2, c3, c4]
        obtain ⟨v3, e6, h⟩ := bind_K h
        refine call_K (by first | exact i_LeastSets_ok e6 | simpa only [go_sem, Int.reduceLT, Int.reduceLE, Int.reduceBEq, Int.reduceBNe, Nat.reduceBNe, Nat.reduceAdd, Nat.reduceMul, Nat.reduceEqDiff, Nat.reduceLeDiff, Nat.reduceLT, Nat.reduceBEq, reduceCtorEq, reduceIte, c2, c3, c4] using i_LeastSets_ok e6) ?_
        obtain rfl := Option.some.inj h
        try simp only [go_sem, Int.reduceLT, Int.reduceLE, Int.reduceBEq, Int.reduceBNe, Nat.reduceBNe, Nat.reduceAdd, Nat.reduceMul, Nat.reduceEqDiff, Nat.reduceLeDiff, Nat.reduceLT, Nat.reduceBEq, reduceCtorEq, reduceIte, c2, c3, c4]
  · obtain rfl := Option.some.inj h
    try simp only [go_sem, Int.reduceLT, Int.reduceLE, Int.reduceBEq, Int.reduceBNe, Nat.reduceBNe, Nat.reduceAdd, Nat.reduceMul, Nat.reduceEqDiff, Nat.reduceLeDiff, Nat.reduceLT, Nat.reduceBEq, reduceCtorEq, reduceIte, c2]
end Go.Proofs.Ytccbhhglghboaaa

namespace Go.Proofs.Ytccbhhglghboaaa
open Go.Proofs.Try
set_option linter.unusedSimpArgs false
set_option linter.unusedVariables false
set_option maxRecDepth 1000000
set_option maxHeartbeats 4000000
theorem s_IsConsistent_ok {f_0 : FrameD} {set_1 : Int} {r : Bool} (h : s_IsConsistent f_0 set_1 = some r) : Sound Try.prog J0 65 [(true, eFrame f_0), (false, [.int .i64 set_1])] [(false, [(false, .bool r)])] := by
  refine fnk Try.func65 (by kernel_rfl) rfl (by kernel_rfl) (by kernel_rfl) ?_
  unfold s_IsConsistent at h
  simp only [fnS, f65, argSt, go_sem, Int.reduceLT, Int.reduceLE, Int.reduceBEq, Int.reduceBNe, Nat.reduceBNe, Nat.reduceAdd, Nat.reduceMul, Nat.reduceEqDiff, Nat.reduceLeDiff, Nat.reduceLT, Nat.reduceBEq, reduceCtorEq, reduceIte]
  obtain ⟨v1, e1, h⟩ := bind_K h
  refine call_K (by first | exact s_l13Set_ok e1 | simpa only [go_sem, Int.reduceLT, Int.reduceLE, Int.reduceBEq, Int.reduceBNe, Nat.reduceBNe, Nat.reduceAdd, Nat.reduceMul, Nat.reduceEqDiff, Nat.reduceLeDiff, Nat.reduceLT, Nat.reduceBEq, reduceCtorEq, reduceIte] using s_l13Set_ok e1) ?_
  try simp only [go_sem, Int.reduceLT, Int.reduceLE, Int.reduceBEq, Int.reduceBNe, Nat.reduceBNe, Nat.reduceAdd, Nat.reduceMul, Nat.reduceEqDiff, Nat.reduceLeDiff, Nat.reduceLT, Nat.reduceBEq, reduceCtorEq, reduceIte]
  refine ite_K h (fun c2 h => ?_) (fun c2 h => ?_)
  · try simp only [go_sem, Int.reduceLT, Int.reduceLE, Int.reduceBEq, Int.reduceBNe, Nat.reduceBNe, Nat.reduceAdd, Nat.reduceMul, Nat.reduceEqDiff, Nat.reduceLeDiff, Nat.reduceLT, Nat.reduceBEq, reduceCtorEq, reduceIte, c2]
    obtain ⟨v2, e3, h⟩ := bind_K h
    refine call_K (by first | exact s_l13Under_ok e3 | simpa only [go_sem, Int.reduceLT, Int.reduceLE, Int.reduceBEq, Int.reduceBNe, Nat.reduceBNe, Nat.reduceAdd, Nat.reduceMul, Nat.reduceEqDiff, Nat.reduceLeDiff, Nat.reduceLT, Nat.reduceBEq, reduceCtorEq, reduceIte, c2] using s_l13Under_ok e3) ?_
    try simp only [go_sem, Int.reduceLT, Int.reduceLE, Int.reduceBEq, Int.reduceBNe, Nat.reduceBNe, Nat.reduceAdd, Nat.reduceMul, Nat.reduceEqDiff, Nat.reduceLeDiff, Nat.reduceLT, Nat.reduceBEq, reduceCtorEq, reduceIte, c2]
    refine swp_for h (fun i _ st => IV [(2, .bp 0 0), (5, .p false [.row 1]), (6, .p false [.c (.int .i64 ((i : Nat) : Int))])] [.box 52 [.c (.int .i64 f_0.beliefs.nodes), .c (.sl 147 3 (List.map eReason f_0.beliefs.reasons)), .c (.sl 3 1 (List.map eInt f_0.assumed)), .c (.sl 3 1 (List.map eInt f_0.bad))], .row 4 1 (List.map eBool v2) 2] st) [] [0, 128] (by decide) ?_ ?_ ?_
    · simp only [go_sem, Int.reduceLT, Int.reduceLE, Int.reduceBEq, Int.reduceBNe, Nat.reduceBNe, Nat.reduceAdd, Nat.reduceMul, Nat.reduceEqDiff, Nat.reduceLeDiff, Nat.reduceLT, Nat.reduceBEq, reduceCtorEq, reduceIte, IV, sts_cons, sts_nil, obs_cons, obs_nil, c2]
    · rintro i8 x9 ⟨⟩ ⟨sl, ob, n⟩ y4 hx5 hI6 hW7 h hy4
      simp only [IV, sts_cons, sts_nil, obs_cons, obs_nil, and_true, true_and, Nat.reduceAdd, str_len] at hI6
      obtain ⟨⟨g8_2, g8_5, g8_6⟩, og8_0, og8_1, hn⟩ := hI6
      subst hn
      have hlhx5 := WF.boxL hW7 og8_0 (j := 3) rfl
      obtain ⟨p9, h⟩ := chk_K h
      obtain ⟨x10, e10, h⟩ := bind_K h
      try simp only [go_sem, Int.reduceLT, Int.reduceLE, Int.reduceBEq, Int.reduceBNe, Nat.reduceBNe, Nat.reduceAdd, Nat.reduceMul, Nat.reduceEqDiff, Nat.reduceLeDiff, Nat.reduceLT, Nat.reduceBEq, reduceCtorEq, reduceIte, c2, hx5, lt_t hx5, lt_p hx5, nat_in (lt_n hx5) hlhx5, p9.1, p9.2, e10, g8_2, g8_5, g8_6, og8_0, og8_1]
      refine ite_K h (fun c11 h => ?_) (fun c11 h => ?_)
      · replace h := inr_K h hy4
        obtain rfl := Option.some.inj h
        try simp only [go_sem, Int.reduceLT, Int.reduceLE, Int.reduceBEq, Int.reduceBNe, Nat.reduceBNe, Nat.reduceAdd, Nat.reduceMul, Nat.reduceEqDiff, Nat.reduceLeDiff, Nat.reduceLT, Nat.reduceBEq, reduceCtorEq, reduceIte, c2, hx5, lt_t hx5, lt_p hx5, nat_in (lt_n hx5) hlhx5, p9.1, p9.2, e10, c11, g8_2, g8_5, g8_6, og8_0, og8_1]
      · try simp only [go_sem, Int.reduceLT, Int.reduceLE, Int.reduceBEq, Int.reduceBNe, Nat.reduceBNe, Nat.reduceAdd, Nat.reduceMul, Nat.reduceEqDiff, Nat.reduceLeDiff, Nat.reduceLT, Nat.reduceBEq, reduceCtorEq, reduceIte, c2, hx5, lt_t hx5, lt_p hx5, nat_in (lt_n hx5) hlhx5, p9.1, p9.2, e10, c11, g8_2, g8_5, g8_6, og8_0, og8_1]
        refine ⟨_, [], [0, 1], (Option.some.inj h).symm, by decide, ?_⟩
        try simp only [go_sem, Int.reduceLT, Int.reduceLE, Int.reduceBEq, Int.reduceBNe, Nat.reduceBNe, Nat.reduceAdd, Nat.reduceMul, Nat.reduceEqDiff, Nat.reduceLeDiff, Nat.reduceLT, Nat.reduceBEq, reduceCtorEq, reduceIte, c2, hx5, lt_t hx5, lt_p hx5, nat_in (lt_n hx5) hlhx5, p9.1, p9.2, e10, c11, g8_2, g8_5, g8_6, og8_0, og8_1, IV, sts_cons, sts_nil, obs_cons, obs_nil]
    · rintro ⟨⟩ ⟨sl, ob, n⟩ hI12 hW13 h
      simp only [IV, sts_cons, sts_nil, obs_cons, obs_nil, and_true, true_and, Nat.reduceAdd, str_len] at hI12
      obtain ⟨⟨g14_2, g14_5, g14_6⟩, og14_0, og14_1, hn⟩ := hI12
      subst hn
      obtain rfl := Option.some.inj h
      try simp only [go_sem, Int.reduceLT, Int.reduceLE, Int.reduceBEq, Int.reduceBNe, Nat.reduceBNe, Nat.reduceAdd, Nat.reduceMul, Nat.reduceEqDiff, Nat.reduceLeDiff, Nat.reduceLT, Nat.reduceBEq, reduceCtorEq, reduceIte, c2, lt_f (f_0.bad.length), g14_2, g14_5, g14_6, og14_0, og14_1]
  · obtain rfl := Option.some.inj h
    try simp only [go_sem, Int.reduceLT, Int.reduceLE, Int.reduceBEq, Int.reduceBNe, Nat.reduceBNe, Nat.reduceAdd, Nat.reduceMul, Nat.reduceEqDiff, Nat.reduceLeDiff, Nat.reduceLT, Nat.reduceBEq, reduceCtorEq, reduceIte, c2]
end Go.Proofs.Ytccbhhglghboaaa

namespace Go.Proofs.Ytccbhhglghboaaa
open Go.Proofs.Try
set_option linter.unusedSimpArgs false
set_option linter.unusedVariables false
set_option maxRecDepth 1000000
set_option maxHeartbeats 4000000
theorem s_HoldsUnder_ok {f_0 : FrameD} {x_1 : Int} {set_2 : Int} {r : Bool} (h : s_HoldsUnder f_0 x_1 set_2 = some r) : Sound Try.prog J0 84 [(true, eFrame f_0), (false, [.int .i64 x_1]), (false, [.int .i64 set_2])] [(false, [(false, .bool r)])] := by
  refine fnk Try.func84 (by kernel_rfl) rfl (by kernel_rfl) (by kernel_rfl) ?_
  unfold s_HoldsUnder at h
  simp only [fnS, f84, argSt, go_sem, Int.reduceLT, Int.reduceLE, Int.reduceBEq, Int.reduceBNe, Nat.reduceBNe, Nat.reduceAdd, Nat.reduceMul, Nat.reduceEqDiff, Nat.reduceLeDiff, Nat.reduceLT, Nat.reduceBEq, reduceCtorEq, reduceIte]
  obtain ⟨v1, e1, h⟩ := bind_K h
  refine call_K (by first | exact s_IsConsistent_ok e1 | simpa only [go_sem, Int.reduceLT, Int.reduceLE, Int.reduceBEq, Int.reduceBNe, Nat.reduceBNe, Nat.reduceAdd, Nat.reduceMul, Nat.reduceEqDiff, Nat.reduceLeDiff, Nat.reduceLT, Nat.reduceBEq, reduceCtorEq, reduceIte] using s_IsConsistent_ok e1) ?_
  try simp only [go_sem, Int.reduceLT, Int.reduceLE, Int.reduceBEq, Int.reduceBNe, Nat.reduceBNe, Nat.reduceAdd, Nat.reduceMul, Nat.reduceEqDiff, Nat.reduceLeDiff, Nat.reduceLT, Nat.reduceBEq, reduceCtorEq, reduceIte]
  refine ite_K h (fun c2 h => ?_) (fun c2 h => ?_)
  · try simp only [go_sem, Int.reduceLT, Int.reduceLE, Int.reduceBEq, Int.reduceBNe, Nat.reduceBNe, Nat.reduceAdd, Nat.reduceMul, Nat.reduceEqDiff, Nat.reduceLeDiff, Nat.reduceLT, Nat.reduceBEq, reduceCtorEq, reduceIte, c2]
    obtain ⟨v2, e3, h⟩ := bind_K h
    refine call_K (by first | exact s_NodesUnder_ok e3 | simpa only [go_sem, Int.reduceLT, Int.reduceLE, Int.reduceBEq, Int.reduceBNe, Nat.reduceBNe, Nat.reduceAdd, Nat.reduceMul, Nat.reduceEqDiff, Nat.reduceLeDiff, Nat.reduceLT, Nat.reduceBEq, reduceCtorEq, reduceIte, c2] using s_NodesUnder_ok e3) ?_
    try simp only [go_sem, Int.reduceLT, Int.reduceLE, Int.reduceBEq, Int.reduceBNe, Nat.reduceBNe, Nat.reduceAdd, Nat.reduceMul, Nat.reduceEqDiff, Nat.reduceLeDiff, Nat.reduceLT, Nat.reduceBEq, reduceCtorEq, reduceIte, c2]
    obtain ⟨v3, e4, h⟩ := bind_K h
    refine call_K (by first | exact s_l1Has_ok e4 | simpa only [go_sem, Int.reduceLT, Int.reduceLE, Int.reduceBEq, Int.reduceBNe, Nat.reduceBNe, Nat.reduceAdd, Nat.reduceMul, Nat.reduceEqDiff, Nat.reduceLeDiff, Nat.reduceLT, Nat.reduceBEq, reduceCtorEq, reduceIte, c2] using s_l1Has_ok e4) ?_
    obtain rfl := Option.some.inj h
    try simp only [go_sem, Int.reduceLT, Int.reduceLE, Int.reduceBEq, Int.reduceBNe, Nat.reduceBNe, Nat.reduceAdd, Nat.reduceMul, Nat.reduceEqDiff, Nat.reduceLeDiff, Nat.reduceLT, Nat.reduceBEq, reduceCtorEq, reduceIte, c2]
  · obtain rfl := Option.some.inj h
    try simp only [go_sem, Int.reduceLT, Int.reduceLE, Int.reduceBEq, Int.reduceBNe, Nat.reduceBNe, Nat.reduceAdd, Nat.reduceMul, Nat.reduceEqDiff, Nat.reduceLeDiff, Nat.reduceLT, Nat.reduceBEq, reduceCtorEq, reduceIte, c2]
end Go.Proofs.Ytccbhhglghboaaa

namespace Go.Proofs.Ytccbhhglghboaaa
open Go.Proofs.Try
set_option linter.unusedSimpArgs false
set_option linter.unusedVariables false
set_option maxRecDepth 1000000
set_option maxHeartbeats 4000000
theorem s_LabelFor_ok {f_0 : FrameD} {x_1 : Int} {r : (List Int)} (h : s_LabelFor f_0 x_1 = some r) : Sound Try.prog J0 39 [(true, eFrame f_0), (false, [.int .i64 x_1])] [(false, [(false, .sl 3 1 (List.map eInt r))])] := by
  refine fnk Try.func39 (by kernel_rfl) rfl (by kernel_rfl) (by kernel_rfl) ?_
  unfold s_LabelFor at h
  simp only [fnS, f39, argSt, go_sem, Int.reduceLT, Int.reduceLE, Int.reduceBEq, Int.reduceBNe, Nat.reduceBNe, Nat.reduceAdd, Nat.reduceMul, Nat.reduceEqDiff, Nat.reduceLeDiff, Nat.reduceLT, Nat.reduceBEq, reduceCtorEq, reduceIte]
  refine swp_iter h (fun s st => match s with | (row_3, set_4) => IV [(1, .p false [.c (.int .i64 x_1)]), (2, .bp 0 0), (5, .p false [.row 1]), (6, .p false [.c (.int .i64 set_4)])] [.box 52 [.c (.int .i64 f_0.beliefs.nodes), .c (.sl 147 3 (List.map eReason f_0.beliefs.reasons)), .c (.sl 3 1 (List.map eInt f_0.assumed)), .c (.sl 3 1 (List.map eInt f_0.bad))], .row 3 1 (List.map eInt row_3) 2] st) [] [0, 32] (by decide) ?_ ?_
  · simp only [go_sem, Int.reduceLT, Int.reduceLE, Int.reduceBEq, Int.reduceBNe, Nat.reduceBNe, Nat.reduceAdd, Nat.reduceMul, Nat.reduceEqDiff, Nat.reduceLeDiff, Nat.reduceLT, Nat.reduceBEq, reduceCtorEq, reduceIte, IV, sts_cons, sts_nil, obs_cons, obs_nil]
  · rintro ⟨row_3, set_4⟩ ⟨sl, ob, n⟩ y1 hI2 hW3 h hy1
    simp only [IV, sts_cons, sts_nil, obs_cons, obs_nil, and_true, true_and, Nat.reduceAdd, str_len] at hI2
    obtain ⟨⟨g4_1, g4_2, g4_5, g4_6⟩, og4_0, og4_1, hn⟩ := hI2
    subst hn
    try simp only [go_sem, Int.reduceLT, Int.reduceLE, Int.reduceBEq, Int.reduceBNe, Nat.reduceBNe, Nat.reduceAdd, Nat.reduceMul, Nat.reduceEqDiff, Nat.reduceLeDiff, Nat.reduceLT, Nat.reduceBEq, reduceCtorEq, reduceIte, g4_1, g4_2, g4_5, g4_6, og4_0, og4_1]
    obtain ⟨v5, e5, h⟩ := bind_K h
    refine call_K (by first | exact s_l13Set_ok e5 | simpa only [go_sem, Int.reduceLT, Int.reduceLE, Int.reduceBEq, Int.reduceBNe, Nat.reduceBNe, Nat.reduceAdd, Nat.reduceMul, Nat.reduceEqDiff, Nat.reduceLeDiff, Nat.reduceLT, Nat.reduceBEq, reduceCtorEq, reduceIte, g4_1, g4_2, g4_5, g4_6, og4_0, og4_1] using s_l13Set_ok e5) ?_
    try simp only [go_sem, Int.reduceLT, Int.reduceLE, Int.reduceBEq, Int.reduceBNe, Nat.reduceBNe, Nat.reduceAdd, Nat.reduceMul, Nat.reduceEqDiff, Nat.reduceLeDiff, Nat.reduceLT, Nat.reduceBEq, reduceCtorEq, reduceIte, g4_1, g4_2, g4_5, g4_6, og4_0, og4_1]
    refine ite_K h (fun c6 h => ?_) (fun c6 h => ?_)
    · try simp only [go_sem, Int.reduceLT, Int.reduceLE, Int.reduceBEq, Int.reduceBNe, Nat.reduceBNe, Nat.reduceAdd, Nat.reduceMul, Nat.reduceEqDiff, Nat.reduceLeDiff, Nat.reduceLT, Nat.reduceBEq, reduceCtorEq, reduceIte, c6, g4_1, g4_2, g4_5, g4_6, og4_0, og4_1]
      obtain ⟨v6, e7, h⟩ := bind_K h
      refine call_K (by first | exact s_HoldsUnder_ok e7 | simpa only [go_sem, Int.reduceLT, Int.reduceLE, Int.reduceBEq, Int.reduceBNe, Nat.reduceBNe, Nat.reduceAdd, Nat.reduceMul, Nat.reduceEqDiff, Nat.reduceLeDiff, Nat.reduceLT, Nat.reduceBEq, reduceCtorEq, reduceIte, c6, g4_1, g4_2, g4_5, g4_6, og4_0, og4_1] using s_HoldsUnder_ok e7) ?_
      try simp only [go_sem, Int.reduceLT, Int.reduceLE, Int.reduceBEq, Int.reduceBNe, Nat.reduceBNe, Nat.reduceAdd, Nat.reduceMul, Nat.reduceEqDiff, Nat.reduceLeDiff, Nat.reduceLT, Nat.reduceBEq, reduceCtorEq, reduceIte, c6, g4_1, g4_2, g4_5, g4_6, og4_0, og4_1]
      refine ite_K h (fun c8 h => ?_) (fun c8 h => ?_)
      · obtain ⟨p9, h⟩ := chk_K h
        try simp only [Nat.reduceLeDiff] at p9
        try simp only [go_sem, Int.reduceLT, Int.reduceLE, Int.reduceBEq, Int.reduceBNe, Nat.reduceBNe, Nat.reduceAdd, Nat.reduceMul, Nat.reduceEqDiff, Nat.reduceLeDiff, Nat.reduceLT, Nat.reduceBEq, reduceCtorEq, reduceIte, c6, c8, p9, g4_1, g4_2, g4_5, g4_6, og4_0, og4_1]
        refine ⟨_, [], [0, 162], (Option.some.inj h).symm, by decide, ?_⟩
        try simp only [go_sem, Int.reduceLT, Int.reduceLE, Int.reduceBEq, Int.reduceBNe, Nat.reduceBNe, Nat.reduceAdd, Nat.reduceMul, Nat.reduceEqDiff, Nat.reduceLeDiff, Nat.reduceLT, Nat.reduceBEq, reduceCtorEq, reduceIte, c6, c8, p9, g4_1, g4_2, g4_5, g4_6, og4_0, og4_1, IV, sts_cons, sts_nil, obs_cons, obs_nil]
      · try simp only [go_sem, Int.reduceLT, Int.reduceLE, Int.reduceBEq, Int.reduceBNe, Nat.reduceBNe, Nat.reduceAdd, Nat.reduceMul, Nat.reduceEqDiff, Nat.reduceLeDiff, Nat.reduceLT, Nat.reduceBEq, reduceCtorEq, reduceIte, c6, c8, g4_1, g4_2, g4_5, g4_6, og4_0, og4_1]
        refine ⟨_, [], [0, 1], (Option.some.inj h).symm, by decide, ?_⟩
        try simp only [go_sem, Int.reduceLT, Int.reduceLE, Int.reduceBEq, Int.reduceBNe, Nat.reduceBNe, Nat.reduceAdd, Nat.reduceMul, Nat.reduceEqDiff, Nat.reduceLeDiff, Nat.reduceLT, Nat.reduceBEq, reduceCtorEq, reduceIte, c6, c8, g4_1, g4_2, g4_5, g4_6, og4_0, og4_1, IV, sts_cons, sts_nil, obs_cons, obs_nil]
    · try simp only [go_sem, Int.reduceLT, Int.reduceLE, Int.reduceBEq, Int.reduceBNe, Nat.reduceBNe, Nat.reduceAdd, Nat.reduceMul, Nat.reduceEqDiff, Nat.reduceLeDiff, Nat.reduceLT, Nat.reduceBEq, reduceCtorEq, reduceIte, c6, g4_1, g4_2, g4_5, g4_6, og4_0, og4_1]
      obtain ⟨v7, e10, h⟩ := bind_K h
      refine call_K (by first | exact s_LeastSets_ok e10 | simpa only [go_sem, Int.reduceLT, Int.reduceLE, Int.reduceBEq, Int.reduceBNe, Nat.reduceBNe, Nat.reduceAdd, Nat.reduceMul, Nat.reduceEqDiff, Nat.reduceLeDiff, Nat.reduceLT, Nat.reduceBEq, reduceCtorEq, reduceIte, c6, g4_1, g4_2, g4_5, g4_6, og4_0, og4_1] using s_LeastSets_ok e10) ?_
      replace h := inr_K h hy1
      obtain rfl := Option.some.inj h
      try simp only [go_sem, Int.reduceLT, Int.reduceLE, Int.reduceBEq, Int.reduceBNe, Nat.reduceBNe, Nat.reduceAdd, Nat.reduceMul, Nat.reduceEqDiff, Nat.reduceLeDiff, Nat.reduceLT, Nat.reduceBEq, reduceCtorEq, reduceIte, c6, g4_1, g4_2, g4_5, g4_6, og4_0, og4_1]
end Go.Proofs.Ytccbhhglghboaaa

namespace Go.Proofs.Ytccbhhglghboaaa
open Go.RowKit
/-- a codec and trees say the same -/
structure Enc {α : Type} (c : Codec α) (f : α → List CT) : Prop where
  to : ∀ {w : World} {cs : List Value} {x : α} {L : List Nat}, c.rep w cs x L → RCs w (f x) cs L
  of : ∀ {w : World} {cs : List Value} {x : α} {L : List Nat}, RCs w (f x) cs L → c.rep w cs x L
section
variable {α : Type} {c : Codec α} {f : α → List CT} {w : World}
theorem Enc.reps (h : Enc c f) : ∀ {ds : List α} {xs : List Value} {L : List Nat}, c.reps w xs ds L → REs w c.size (ds.map f) xs L
  | [], _, _, h1 => h1
  | _ :: _, _, _, ⟨c1, c2, L1, L2, h1, h2, h3, h4⟩ => ⟨c1, c2, L1, L2, h1, h2, ⟨h.to h3, c.len h3⟩, h.reps h4⟩
theorem Enc.reps_of (h : Enc c f) : ∀ {ds : List α} {xs : List Value} {L : List Nat}, REs w c.size (ds.map f) xs L → c.reps w xs ds L
  | [], _, _, h1 => h1
  | _ :: _, _, _, ⟨c1, c2, L1, L2, h1, h2, h3, h4⟩ => ⟨c1, c2, L1, L2, h1, h2, h.of h3.1, h.reps_of h4⟩
theorem Enc.sl (h : Enc c f) (e : Nat) {v : Value} {ds : List α} {L : List Nat} : (sliceC c).rep w [v] ds L ↔ RC w (.sl e c.size (ds.map f)) v L := by
  constructor
  · rintro ⟨A, cap, hv, h1, h2, xs, L0, L1, hL, h3, h4⟩
    obtain rfl : v = _ := by simpa using hv
    exact ⟨A, cap, xs, L0, L1, by simp, by simpa using h1, h2, hL, c.pos, by simpa using h3, h.reps h4⟩
  · rintro ⟨A, cap, xs, L0, L1, hv, h1, h2, hL, h0, h3, h4⟩
    exact ⟨A, cap, by simpa using hv, by simpa using h1, h2, xs, L0, L1, hL, by simpa using h3, h.reps_of h4⟩
theorem RCs.solo {x : CT} {v : Value} {L : List Nat} (h : RC w x v L) : RCs w [x] [v] L := ⟨v, [], L, [], rfl, by simp, h, rfl, rfl⟩
theorem RCs.more {x : CT} {v : Value} {L M : List Nat} {r : List CT} {cs : List Value} (h : RC w x v L) (k : RCs w r cs M) : RCs w (x :: r) (v :: cs) (L ++ M) := ⟨v, cs, L, M, rfl, rfl, h, k⟩
theorem Enc.slice (h : Enc c f) (e : Nat) : Enc (sliceC c) (fun l => [.sl e c.size (l.map f)]) where
  to := fun {w cs x L} hr => by
    obtain ⟨A, cap, rfl, h1⟩ := id hr
    exact RCs.solo ((h.sl e).1 hr)
  of := fun {w cs x L} hr => by
    obtain ⟨v, cs', L1, L2, rfl, rfl, h1, rfl, rfl⟩ := hr
    rw [List.append_nil]
    exact (h.sl e).2 h1
end
theorem encInt : Enc intC eInt where
  to := fun ⟨h1, h2⟩ => by subst h1; subst h2; exact RCs.solo ⟨rfl, rfl⟩
  of := fun ⟨v, cs', L1, L2, h1, h2, h3, h4, h5⟩ => by
    obtain ⟨rfl, rfl⟩ := h3
    subst h4; subst h5; exact ⟨h1, h2⟩
theorem encByte : Enc byteC eByte where
  to := fun ⟨h1, h2⟩ => by subst h1; subst h2; exact RCs.solo ⟨rfl, rfl⟩
  of := fun ⟨v, cs', L1, L2, h1, h2, h3, h4, h5⟩ => by
    obtain ⟨rfl, rfl⟩ := h3
    subst h4; subst h5; exact ⟨h1, h2⟩
theorem encBool : Enc boolC eBool where
  to := fun ⟨h1, h2⟩ => by subst h1; subst h2; exact RCs.solo ⟨rfl, rfl⟩
  of := fun ⟨v, cs', L1, L2, h1, h2, h3, h4, h5⟩ => by
    obtain ⟨rfl, rfl⟩ := h3
    subst h4; subst h5; exact ⟨h1, h2⟩
theorem encStr : Enc strC eStr where
  to := fun ⟨h1, h2, h3⟩ => by subst h1; subst h2; exact RCs.solo ⟨rfl, rfl, h3⟩
  of := fun ⟨v, cs', L1, L2, h1, h2, h3, h4, h5⟩ => by
    obtain ⟨rfl, rfl, t⟩ := h3
    subst h4; subst h5; exact ⟨h1, h2, t⟩
/-- an argument; nothing is written to in the meantime -/
def Arg0 (w : World) : Bool × List CT → Value → Prop := ArgR w fun _ => False
theorem arg_sl {α : Type} {c : Codec α} {f : α → List CT} (h : Enc c f) (e : Nat) {w : World} {v : Value} {ds : List α} {L : List Nat} (hr : (sliceC c).rep w [v] ds L) : Arg0 w (false, [.sl e c.size (ds.map f)]) v := .inr ⟨rfl, _, L, rfl, (h.sl e).1 hr, fun _ _ h => h⟩
theorem arg_int (w : World) (n : Int) : Arg0 w (false, [.int .i64 n]) (.int .i64 n) := .inr ⟨rfl, _, [], rfl, ⟨rfl, rfl⟩, fun _ _ h => h⟩
theorem arg_bool (w : World) (b : Bool) : Arg0 w (false, [.bool b]) (.bool b) := .inr ⟨rfl, _, [], rfl, ⟨rfl, rfl⟩, fun _ _ h => h⟩
theorem arg_str (w : World) (s : ByteArray) (h : s.size ≤ 9223372036854775807) : Arg0 w (false, [.str s]) (.string s) := .inr ⟨rfl, _, [], rfl, ⟨rfl, rfl, h⟩, fun _ _ h => h⟩
theorem arg_agg {α : Type} {c : Codec α} {f : α → List CT} (h : Enc c f) {w : World} {vs : List Value} {x : α} {L : List Nat} (hr : c.rep w vs x L) : Arg0 w (true, f x) (.agg vs.toArray) := .inl ⟨rfl, vs, L, rfl, h.to hr, fun _ _ h => h⟩
section
variable {w w' : World} {v : Value} {e : Ending}
theorem res_one {B : Nat} {n : Nat → Prop} {x : RT} (h : ResR w B n [x] v) : ∃ F, OP w B n x v F ∧ Own w B F := by
  obtain ⟨vs, F, ⟨u, vs', F1, F2, rfl, rfl, h1, rfl, rfl⟩, h2, rfl⟩ := h
  rw [List.append_nil] at h2
  exact ⟨F1, by simpa using h1, h2⟩
theorem res_sl {α : Type} {c : Codec α} {f : α → List CT} (h : Enc c f) {t : Nat} {ds : List α} {n : Nat → Prop} (hr : ResR w' w.heap.size n [(false, [(false, .sl t c.size (ds.map f))])] v) (hb : Below w.heap.size w w') : AccC c t w v ds w' := by
  obtain ⟨F, h1, h2⟩ := res_one hr
  rcases h1 with ⟨h1, _⟩ | ⟨_, ct, h1, h3⟩
  · simp at h1
  · obtain rfl : _ = ct := by simpa using h1
    obtain ⟨_, cs, L, h4, h5, rfl, _⟩ := h3
    exact ⟨⟨cs, L, by simpa using h4, h.reps_of h5, h2⟩, hb⟩
theorem res_int {n : Int} {B : Nat} {m : Nat → Prop} (hr : ResR w B m [(false, [(false, .int .i64 n)])] v) : v = .int .i64 n := by
  obtain ⟨F, h1, h2⟩ := res_one hr
  rcases h1 with ⟨h1, _⟩ | ⟨_, ct, h1, h3⟩
  · simp at h1
  · obtain rfl : _ = ct := by simpa using h1
    exact h3.1.1
theorem res_bool {b : Bool} {B : Nat} {m : Nat → Prop} (hr : ResR w B m [(false, [(false, .bool b)])] v) : v = .bool b := by
  obtain ⟨F, h1, h2⟩ := res_one hr
  rcases h1 with ⟨h1, _⟩ | ⟨_, ct, h1, h3⟩
  · simp at h1
  · obtain rfl : _ = ct := by simpa using h1
    exact h3.1.1
theorem res_str {s : ByteArray} {B : Nat} {m : Nat → Prop} (hr : ResR w B m [(false, [(false, .str s)])] v) : v = .string s := by
  obtain ⟨F, h1, h2⟩ := res_one hr
  rcases h1 with ⟨h1, _⟩ | ⟨_, ct, h1, h3⟩
  · simp at h1
  · obtain rfl : _ = ct := by simpa using h1
    exact h3.1.1
/-- a slice that is only lent: what it leads to lies in the world -/
theorem res_lent {α : Type} {c : Codec α} {f : α → List CT} (h : Enc c f) {t B : Nat} {ds : List α} {n : Nat → Prop} (hr : ResR w B n [(false, [(true, .sl t c.size (ds.map f))])] v) : ∃ L, (sliceC c).rep w [v] ds L := by
  obtain ⟨F, h1, h2⟩ := res_one hr
  rcases h1 with ⟨h1, _⟩ | ⟨_, ct, h1, h3⟩
  · simp at h1
  · obtain rfl : _ = ct := by simpa using h1
    obtain ⟨_, L, h4, _⟩ := h3
    exact ⟨L, (h.sl t).2 h4⟩
end
section
variable {P : Program} {J : World → Prop} {f : FuncId} {args : List (Bool × List CT)} {res : List RT}
theorem Sound.calls (h : Sound P J f args res) {w : World} {vs : List Value} (hj : J w) (ha : All2 (Arg0 w) args vs) : Calls P f vs.toArray w fun e w' => ∃ v n, e = .returned v ∧ ResR w' w.heap.size n res v ∧ Below w.heap.size w w' :=
  (h.2 w (fun _ => False) vs hj (fun _ h => h.elim) ha).mono fun _ _ ⟨v, n, h1, h2, _, h3⟩ => ⟨v, n, h1, h2, h3⟩
/-- a slice as the result -/
theorem Sound.givesS {α : Type} {c : Codec α} {g : α → List CT} {t : Nat} {ds : List α} (h : Sound P J f args [(false, [(false, .sl t c.size (ds.map g))])]) (hg : Enc c g) {w : World} {vs : List Value} (hj : J w) (ha : All2 (Arg0 w) args vs) : Calls P f vs.toArray w (GivesS c t w ds) :=
  (h.calls hj ha).mono fun _ _ ⟨v, _, h1, h2, h3⟩ => ⟨v, h1, res_sl hg h2 h3⟩
theorem Sound.givesB {b : Bool} (h : Sound P J f args [(false, [(false, .bool b)])]) {w : World} {vs : List Value} (hj : J w) (ha : All2 (Arg0 w) args vs) : Calls P f vs.toArray w fun e w' => e = .returned (.bool b) ∧ Below w.heap.size w w' :=
  (h.calls hj ha).mono fun _ _ ⟨v, _, h1, h2, h3⟩ => ⟨by rw [h1, res_bool h2], h3⟩
theorem Sound.givesI {b : Int} (h : Sound P J f args [(false, [(false, .int .i64 b)])]) {w : World} {vs : List Value} (hj : J w) (ha : All2 (Arg0 w) args vs) : Calls P f vs.toArray w fun e w' => e = .returned (.int .i64 b) ∧ Below w.heap.size w w' :=
  (h.calls hj ha).mono fun _ _ ⟨v, _, h1, h2, h3⟩ => ⟨by rw [h1, res_int h2], h3⟩
theorem Sound.givesT {b : ByteArray} (h : Sound P J f args [(false, [(false, .str b)])]) {w : World} {vs : List Value} (hj : J w) (ha : All2 (Arg0 w) args vs) : Calls P f vs.toArray w fun e w' => e = .returned (.string b) ∧ Below w.heap.size w w' :=
  (h.calls hj ha).mono fun _ _ ⟨v, _, h1, h2, h3⟩ => ⟨by rw [h1, res_str h2], h3⟩
end
end Go.Proofs.Ytccbhhglghboaaa

namespace Go.Proofs.Ytccbhhglghboaaa
theorem encReason : Enc cReason eReason where
  to := fun {w cs x L} h => by
    obtain ⟨A1, c1, L1, A2, c2, L2, rfl, rfl, n1, m1, s1, n2, m2, s2⟩ := h
    have hh : RCs w (eReason x) _ _ := RCs.more ⟨rfl, rfl⟩ (RCs.more ((encInt.sl 3).1 ⟨A1, c1, rfl, n1, m1, s1⟩) (RCs.solo ((encInt.sl 3).1 ⟨A2, c2, rfl, n2, m2, s2⟩)))
    simpa only [List.nil_append, List.append_nil, List.append_assoc] using hh
  of := fun {w cs x L} h => by
    obtain ⟨v0, r0, K0, M0, rfl, rfl, h0, v1, r1, K1, M1, rfl, rfl, h1, v2, r2, K2, M2, rfl, rfl, h2, rfl, rfl⟩ := h
    obtain ⟨rfl, rfl⟩ := h0
    obtain ⟨A1, c1, e1, n1, m1, s1⟩ := (encInt.sl 3).2 h1
    cases e1
    obtain ⟨A2, c2, e2, n2, m2, s2⟩ := (encInt.sl 3).2 h2
    cases e2
    exact ⟨A1, c1, _, A2, c2, _, rfl, by simp only [List.nil_append, List.append_nil, List.append_assoc], n1, m1, s1, n2, m2, s2⟩
theorem encFrame : Enc cFrame eFrame where
  to := fun {w cs x L} h => by
    obtain ⟨A1, c1, L1, A2, c2, L2, A3, c3, L3, rfl, rfl, n1, m1, s1, n2, m2, s2, n3, m3, s3⟩ := h
    have hh : RCs w (eFrame x) _ _ := RCs.more ⟨rfl, rfl⟩ (RCs.more ((encReason.sl 147).1 ⟨A1, c1, rfl, n1, m1, s1⟩) (RCs.more ((encInt.sl 3).1 ⟨A2, c2, rfl, n2, m2, s2⟩) (RCs.solo ((encInt.sl 3).1 ⟨A3, c3, rfl, n3, m3, s3⟩))))
    simpa only [List.nil_append, List.append_nil, List.append_assoc] using hh
  of := fun {w cs x L} h => by
    obtain ⟨v0, r0, K0, M0, rfl, rfl, h0, v1, r1, K1, M1, rfl, rfl, h1, v2, r2, K2, M2, rfl, rfl, h2, v3, r3, K3, M3, rfl, rfl, h3, rfl, rfl⟩ := h
    obtain ⟨rfl, rfl⟩ := h0
    obtain ⟨A1, c1, e1, n1, m1, s1⟩ := (encReason.sl 147).2 h1
    cases e1
    obtain ⟨A2, c2, e2, n2, m2, s2⟩ := (encInt.sl 3).2 h2
    cases e2
    obtain ⟨A3, c3, e3, n3, m3, s3⟩ := (encInt.sl 3).2 h3
    cases e3
    exact ⟨A1, c1, _, A2, c2, _, A3, c3, _, rfl, by simp only [List.nil_append, List.append_nil, List.append_assoc], n1, m1, s1, n2, m2, s2, n3, m3, s3⟩
end Go.Proofs.Ytccbhhglghboaaa

namespace Go.Proofs.Ytccbhhglghboaaa
open Go.RowKit

set_option maxHeartbeats 400000 in
theorem szIntS_any (A : Option Addr) (n c : Nat) (left : Int) (w : World) (hm : n ≤ 9223372036854775807) (h0 : 0 ≤ left) (h1 : left ≤ 1048576) :
    Calls Try.prog 63 #[.slice A n c, .int .i64 left] w (SzPost n left w) := by
  by_cases hlen : (n : Int) ≤ left
  all_goals
    go_enter Try.func63, Try.ntmps63
    go_wp2
    go_ret
  · exact ⟨ret_i (by rw [szR_pos hlen]), Below.refl _ _⟩
  · exact ⟨ret_i (by rw [szR_neg (by omega)]), Below.refl _ _⟩


set_option maxHeartbeats 800000 in
theorem szReason_any (cs : List Value) (x : ReasonD) (L : List Nat) (left : Int) (w : World) (h0 : 0 ≤ left) (h1 : left ≤ 1048576) (h : cReason.rep w cs x L) :
    Calls Try.prog 159 #[.agg cs.toArray, .int .i64 left] w (SzPost (costReason x) left w) := by
  obtain ⟨A1, c1, L1, A2, c2, L2, rfl, _hL, n1, m1, s1, n2, m2, s2⟩ := h
  unfold maxLen at m1 m2
  have S1 := Lib.hid s1
  clear s1
  have S2 := Lib.hid s2
  clear s2
  have B0 : Hid (Below w.heap.size w (w.alloc (.cells #[.int .i64 x.for_, .slice A1 x.inn.length c1, .slice A2 x.outs.length c2] 173))) := (Below.refl _ _).alloc (Nat.le_refl _) _
  have K0 : Hid (Blk (w.alloc (.cells #[.int .i64 x.for_, .slice A1 x.inn.length c1, .slice A2 x.outs.length c2] 173)) w.heap.size 173 #[.int .i64 x.for_, .slice A1 x.inn.length c1, .slice A2 x.outs.length c2]) := Blk.new _ _ _
  go_enter Try.func159, Try.ntmps159
  go_wp2_with fail
  refine (szIntS_any A1 _ c1 _ _ (by omega) (by omega) (by omega)).mono ?_
  rintro e w1 ⟨rfl, hb1⟩
  have B1 := Lib.hid (B0.out.trans (hb1.mono B0.out.size))
  have K1 := Lib.hid (K0.out.later hb1)
  have f0 := K1.out.at (i := 0) rfl
  have f1 := K1.out.at (i := 1) rfl
  have f2 := K1.out.at (i := 2) rfl
  clear hb1
  by_cases k1 : ((x.inn.length : Nat) : Int) ≤ left
  rotate_left
  · rw [szR_neg k1]
    go_wp2_with fail
    go_ret
    exact ⟨ret_i (by rw [szR_neg (by simp only [costReason]; omega)]), B1.out⟩
  rw [szR_pos k1]
  go_wp2_with fail
  refine (szIntS_any A2 _ c2 _ _ (by omega) (by omega) (by omega)).mono ?_
  rintro e w2 ⟨rfl, hb2⟩
  have B2 := Lib.hid (B1.out.trans (hb2.mono B1.out.size))
  have K2 := Lib.hid (K1.out.later hb2)
  clear f0 f1 f2
  have f0 := K2.out.at (i := 0) rfl
  have f1 := K2.out.at (i := 1) rfl
  have f2 := K2.out.at (i := 2) rfl
  clear hb2
  by_cases k2 : ((x.outs.length : Nat) : Int) ≤ left - (x.inn.length : Nat)
  rotate_left
  · rw [szR_neg k2]
    go_wp2_with fail
    go_ret
    exact ⟨ret_i (by rw [szR_neg (by simp only [costReason]; omega)]), B2.out⟩
  rw [szR_pos k2]
  go_wp2_with fail
  go_ret
  exact ⟨ret_i (by rw [szR_pos (by simp only [costReason]; omega)] <;> simp only [costReason] <;> omega), B2.out⟩

set_option maxHeartbeats 800000 in
theorem szReasonS_any (A : Option Addr) (n c : Nat) (ds : List ReasonD) (L : List Nat) (left : Int) (w : World) (hn : n = ds.length) (hm : n ≤ 9223372036854775807) (h0 : 0 ≤ left) (h1 : left ≤ 1048576) (h : Sli cReason w A ds L) :
    Calls Try.prog 110 #[.slice A n c, .int .i64 left] w (SzPost (costReasonS ds) left w) := by
  have H := Lib.hid h
  have HN := Lib.hid hn
  clear h hn
  by_cases hlen : (n : Int) ≤ left
  · go_enter Try.func110, Try.ntmps110
    go_wp2
    go_loopw [1, 5] (fun q i wr => ∃ (k : Nat) (l : Int), k ≤ n ∧ i = .int .i64 k ∧ q = .int .i64 l ∧ 0 ≤ l ∧ l ≤ left ∧ Hid (Below w.heap.size w wr) ∧ Hid (szR ((ds.drop k).map costReason).sum l = szR (costReasonS ds) left)) (fun _ i _ => n - (intOf i).toNat)
    case atStart => exact ⟨0, left - n, Nat.zero_le _, rfl, rfl, by omega, by omega, Below.refl _ _, Lib.hid (by
        have e := HN.out
        exact szR_step _ _ _ _ (by omega) (by simp only [costReasonS, List.drop_zero]; omega))⟩
    case round =>
      obtain ⟨k, l, hk, rfl, rfl, hl0, hl1, HB, HE⟩ := hrel
      by_cases hlt : k < n
      · have hkl : k < ds.length := by have := HN.out; omega
        obtain ⟨b, off, cs, Lk, rfl, hbL, hLk, hrep, hc⟩ := H.out.at_ hkl
        have hbl : b < w.heap.size := H.out.lt b hbL
        have HR := Lib.hid (cReason.keep hrep (keep_below HB.out (fun y m => H.out.lt y (hLk y m))))
        obtain ⟨A1, c1, A2, c2, rfl⟩ := cReason_cells hrep
        have q0 : wr.cell? ⟨b, off + k * 3, none⟩ = _ := (HB.out.cell (p := ⟨b, off + (k * 3 + 0), none⟩) hbl).trans (hc 0 _ rfl)
        have q1 : wr.cell? ⟨b, off + k * 3 + 1, none⟩ = _ := (HB.out.cell (p := ⟨b, off + (k * 3 + 1), none⟩) hbl).trans (hc 1 _ rfl)
        have q2 : wr.cell? ⟨b, off + k * 3 + 2, none⟩ = _ := (HB.out.cell (p := ⟨b, off + (k * 3 + 2), none⟩) hbl).trans (hc 2 _ rfl)
        have hd : Hid (ds.drop k = ds[k] :: ds.drop (k + 1)) := List.drop_eq_getElem_cons _
        generalize ds[k] = x at *
        clear hc hrep
        by_cases hs : (costReason x : Int) ≤ l
        · go_wp2_with (go_at_call 159; refine (szReason_any _ x Lk _ _ (by omega) (by omega) HR.out).mono ?_; rintro e w1 ⟨rfl, hb1⟩; rw [szR_pos hs]; have HB1 := Lib.hid (HB.out.trans (hb1.mono HB.out.size)); clear hb1)
          go_roundw
          case rel => exact ⟨k + 1, l - costReason x, by omega, by go_num, rfl, by omega, by omega, HB1.out, Lib.hid (by rw [← HE.out, hd.out]; exact szR_step _ _ _ _ (by omega) (by simp))⟩
          case measure => simp [intOf]; omega
        · go_wp2_with (go_at_call 159; refine (szReason_any _ x Lk _ _ (by omega) (by omega) HR.out).mono ?_; rintro e w1 ⟨rfl, hb1⟩; rw [szR_neg hs]; have HB1 := Lib.hid (HB.out.trans (hb1.mono HB.out.size)); clear hb1)
          go_ret
          exact ⟨ret_i (by rw [← HE.out, hd.out, szR_neg (by simp; omega)]), HB1.out⟩
      · go_wp2
        go_ret
        exact ⟨ret_i (by rw [← HE.out, List.drop_of_length_le (by have := HN.out; omega)]; simp [szR, hl0]), HB.out⟩
  · go_enter Try.func110, Try.ntmps110
    go_wp2
    go_ret
    exact ⟨ret_i (by rw [szR_neg (by have := HN.out; simp only [costReasonS]; omega)]), Below.refl _ _⟩

set_option maxHeartbeats 800000 in
theorem szBeliefs_any (cs : List Value) (x : BeliefsD) (L : List Nat) (left : Int) (w : World) (h0 : 0 ≤ left) (h1 : left ≤ 1048576) (h : cBeliefs.rep w cs x L) :
    Calls Try.prog 62 #[.agg cs.toArray, .int .i64 left] w (SzPost (costBeliefs x) left w) := by
  obtain ⟨A1, c1, L1, rfl, _hL, n1, m1, s1⟩ := h
  unfold maxLen at m1
  have S1 := Lib.hid s1
  clear s1
  have B0 : Hid (Below w.heap.size w (w.alloc (.cells #[.int .i64 x.nodes, .slice A1 x.reasons.length c1] 42))) := (Below.refl _ _).alloc (Nat.le_refl _) _
  have K0 : Hid (Blk (w.alloc (.cells #[.int .i64 x.nodes, .slice A1 x.reasons.length c1] 42)) w.heap.size 42 #[.int .i64 x.nodes, .slice A1 x.reasons.length c1]) := Blk.new _ _ _
  go_enter Try.func62, Try.ntmps62
  go_wp2_with fail
  refine (szReasonS_any A1 _ c1 x.reasons L1 _ _ rfl (by omega) (by omega) (by omega) (S1.out.below B0.out)).mono ?_
  rintro e w1 ⟨rfl, hb1⟩
  have B1 := Lib.hid (B0.out.trans (hb1.mono B0.out.size))
  have K1 := Lib.hid (K0.out.later hb1)
  have f0 := K1.out.at (i := 0) rfl
  have f1 := K1.out.at (i := 1) rfl
  clear hb1
  by_cases k1 : ((costReasonS x.reasons : Nat) : Int) ≤ left
  rotate_left
  · rw [szR_neg k1]
    go_wp2_with fail
    go_ret
    exact ⟨ret_i (by rw [szR_neg (by simp only [costBeliefs]; omega)]), B1.out⟩
  rw [szR_pos k1]
  go_wp2_with fail
  go_ret
  exact ⟨ret_i (by rw [szR_pos (by simp only [costBeliefs]; omega)] <;> simp only [costBeliefs] <;> omega), B1.out⟩

set_option maxHeartbeats 800000 in
theorem szFrame_any (cs : List Value) (x : FrameD) (L : List Nat) (left : Int) (w : World) (h0 : 0 ≤ left) (h1 : left ≤ 1048576) (h : cFrame.rep w cs x L) :
    Calls Try.prog 25 #[.agg cs.toArray, .int .i64 left] w (SzPost (costFrame x) left w) := by
  obtain ⟨A1, c1, L1, A2, c2, L2, A3, c3, L3, rfl, _hL, n1, m1, s1, n2, m2, s2, n3, m3, s3⟩ := h
  unfold maxLen at m1 m2 m3
  have S1 := Lib.hid s1
  clear s1
  have S2 := Lib.hid s2
  clear s2
  have S3 := Lib.hid s3
  clear s3
  have B0 : Hid (Below w.heap.size w (w.alloc (.cells #[.int .i64 x.beliefs.nodes, .slice A1 x.beliefs.reasons.length c1, .slice A2 x.assumed.length c2, .slice A3 x.bad.length c3] 45))) := (Below.refl _ _).alloc (Nat.le_refl _) _
  have K0 : Hid (Blk (w.alloc (.cells #[.int .i64 x.beliefs.nodes, .slice A1 x.beliefs.reasons.length c1, .slice A2 x.assumed.length c2, .slice A3 x.bad.length c3] 45)) w.heap.size 45 #[.int .i64 x.beliefs.nodes, .slice A1 x.beliefs.reasons.length c1, .slice A2 x.assumed.length c2, .slice A3 x.bad.length c3]) := Blk.new _ _ _
  go_enter Try.func25, Try.ntmps25
  go_wp2_with fail
  refine (szBeliefs_any [.int .i64 x.beliefs.nodes, .slice A1 x.beliefs.reasons.length c1] x.beliefs _ _ _ (by omega) (by omega) ⟨A1, c1, L1, rfl, rfl, n1, (by unfold maxLen; omega), S1.out.below B0.out⟩).mono ?_
  rintro e w1 ⟨rfl, hb1⟩
  have B1 := Lib.hid (B0.out.trans (hb1.mono B0.out.size))
  have K1 := Lib.hid (K0.out.later hb1)
  have f0 := K1.out.at (i := 0) rfl
  have f1 := K1.out.at (i := 1) rfl
  have f2 := K1.out.at (i := 2) rfl
  have f3 := K1.out.at (i := 3) rfl
  clear hb1
  by_cases k1 : ((costBeliefs x.beliefs : Nat) : Int) ≤ left
  rotate_left
  · rw [szR_neg k1]
    go_wp2_with fail
    go_ret
    exact ⟨ret_i (by rw [szR_neg (by simp only [costFrame]; omega)]), B1.out⟩
  rw [szR_pos k1]
  go_wp2_with fail
  refine (szIntS_any A2 _ c2 _ _ (by omega) (by omega) (by omega)).mono ?_
  rintro e w2 ⟨rfl, hb2⟩
  have B2 := Lib.hid (B1.out.trans (hb2.mono B1.out.size))
  have K2 := Lib.hid (K1.out.later hb2)
  clear f0 f1 f2 f3
  have f0 := K2.out.at (i := 0) rfl
  have f1 := K2.out.at (i := 1) rfl
  have f2 := K2.out.at (i := 2) rfl
  have f3 := K2.out.at (i := 3) rfl
  clear hb2
  by_cases k2 : ((x.assumed.length : Nat) : Int) ≤ left - (costBeliefs x.beliefs : Nat)
  rotate_left
  · rw [szR_neg k2]
    go_wp2_with fail
    go_ret
    exact ⟨ret_i (by rw [szR_neg (by simp only [costFrame]; omega)]), B2.out⟩
  rw [szR_pos k2]
  go_wp2_with fail
  refine (szIntS_any A3 _ c3 _ _ (by omega) (by omega) (by omega)).mono ?_
  rintro e w3 ⟨rfl, hb3⟩
  have B3 := Lib.hid (B2.out.trans (hb3.mono B2.out.size))
  have K3 := Lib.hid (K2.out.later hb3)
  clear f0 f1 f2 f3
  have f0 := K3.out.at (i := 0) rfl
  have f1 := K3.out.at (i := 1) rfl
  have f2 := K3.out.at (i := 2) rfl
  have f3 := K3.out.at (i := 3) rfl
  clear hb3
  by_cases k3 : ((x.bad.length : Nat) : Int) ≤ left - (costBeliefs x.beliefs : Nat) - (x.assumed.length : Nat)
  rotate_left
  · rw [szR_neg k3]
    go_wp2_with fail
    go_ret
    exact ⟨ret_i (by rw [szR_neg (by simp only [costFrame]; omega)]), B3.out⟩
  rw [szR_pos k3]
  go_wp2_with fail
  go_ret
  exact ⟨ret_i (by rw [szR_pos (by simp only [costFrame]; omega)] <;> simp only [costFrame] <;> omega), B3.out⟩

end Go.Proofs.Ytccbhhglghboaaa

namespace Go.Proofs.Ytccbhhglghboaaa
open Go.RowKit

theorem Try.infoInt_ : (Try.prog.info? 3).map (fun i => (i.zero, i.size, i.bytes)) = some (some (.int .i64 0), 1, 8) := by kernel_rfl
set_option maxHeartbeats 1600000 in
theorem toIntS_any (A : Option Addr) (n c : Nat) (ds : List Int) (L : List Nat) (w : World) (hn : n = ds.length) (hm : ds.length ≤ 1099511627776) (h : Sli intC w A ds L) :
    Calls Try.prog 68 #[.slice A n c] w (GivesS intC 3 w ds) := by
  obtain ⟨i0, hi, hz0, hz1, hz2⟩ := info_parts Try.infoInt_
  rw [← hn] at hm
  have H := Lib.hid h
  have HN := Lib.hid hn
  clear h hn
  go_enter Try.func68, Try.ntmps68
  go_wp2_with (at_make; refine wpList_make_full _ rfl _ _ 43 rfl w.heap.size 3 i0 _ 1 Try.underlying43 hi hz0 hz1 .i64 .i64 _ _ n rfl rfl rfl rfl (by rw [hz2]; omega) (by unfold maxLen; omega) (Nat.le_refl _) ?_; intro w1 hown hg)
  have hb : Below w.heap.size w w1 := (Below.refl _ _).grown hg (Nat.le_refl _) (by simp)
  have HF0 : Hid (Filling intC 3 w n ds 0 w1) := Filling.start hown hb
  clear hown hg hb
  go_wp2
  go_loopw [4] (fun i wr => ∃ (k : Nat), k ≤ n ∧ i = .int .i64 k ∧ Hid (Filling intC 3 w n ds k wr)) (fun i _ => n - (intOf i).toNat)
  case atStart => exact ⟨0, Nat.zero_le _, rfl, HF0⟩
  case round =>
    obtain ⟨k, hk, rfl, HF⟩ := hrel
    by_cases hlt : k < n
    · have hkl : k < ds.length := by have := HN.out; omega
      obtain ⟨b, off, cs, Lk, rfl, hbL, hLk, hrep, hc⟩ := H.out.at_ hkl
      have hbl : b < w.heap.size := H.out.lt b hbL
      have hrep0 := hrep
      obtain ⟨rfl, _⟩ := hrep0
      have q0 := (HF.out.below.cell (p := ⟨b, off + (k * intC.size + 0), none⟩) hbl).trans (hc 0 _ rfl)
      have HS := Lib.hid (HF.out.store (w2 := wr) (x := ds[k]) (M := []) hlt HN.out (fun _ => rfl) (Below.refl _ _) ⟨⟨rfl, rfl⟩, Own.nil _ _⟩)
      obtain ⟨d0, e0⟩ := HF.out.cell hlt (j := 0) (by decide)
      have z0 := HF.out.frozen k
      simp only [show intC.size = 1 from rfl, Nat.mul_one, Nat.add_zero] at q0 HS e0
      generalize ds[k] = x at *
      clear hc hrep
      go_wp2_with fail
      go_roundw
      case rel => exact ⟨k + 1, by omega, by go_num, HS.out⟩
      case measure => simp [intOf]; omega
    · obtain rfl : k = n := by omega
      go_wp2
      go_ret
      exact ⟨_, rfl, HF.out.done HN.out⟩

set_option maxHeartbeats 1600000 in
theorem toReason_any (cs : List Value) (x : ReasonD) (L : List Nat) (w : World) (hz : costReason x ≤ 1048576) (h : cReason.rep w cs x L) :
    Calls Try.prog 162 #[.agg cs.toArray] w (Gives cReason w x) := by
  obtain ⟨A1, c1, L1, A2, c2, L2, rfl, _hL, n1, m1, s1, n2, m2, s2⟩ := h
  unfold maxLen at m1 m2
  have S1 := Lib.hid s1
  clear s1
  have S2 := Lib.hid s2
  clear s2
  simp only [costReason] at hz
  go_enter Try.func162, Try.ntmps162
  go_wp2_with fail
  refine (toIntS_any A1 _ c1 x.inn L1 _ rfl (by omega) (S1.out.below (by repeat (first | refine Below.setCell ?_ (by dsimp only; omega) _ | refine Below.alloc ?_ (by first | (simp; done) | (simp; omega) | omega) _ | exact Below.refl _ _)))).mono ?_
  rintro e w1 ⟨v1, rfl, a1⟩
  obtain ⟨vA1, vc1, rfl⟩ := a1.shape
  have hb1 := a1.below
  obtain ⟨M1, g1⟩ := a1.got
  clear a1
  have G1 := Lib.hid (g1.mono (show w.heap.size + 3 ≤ _ by simp))
  have lt1 := Lib.hid g1.lt
  clear g1
  have B1 : Hid (Below w.heap.size w w1) := Below.trans (by repeat (first | refine Below.setCell ?_ (by dsimp only; omega) _ | refine Below.alloc ?_ (by first | (simp; done) | (simp; omega) | omega) _ | exact Below.refl _ _)) (hb1.mono (by first | (simp; done) | (simp; omega) | omega))
  have K0 : Hid (Blk w1 w.heap.size 173 #[.int .i64 x.for_, .slice A1 x.inn.length c1, .slice A2 x.outs.length c2]) := Blk.later (Blk.alloc (Blk.alloc (Blk.new _ _ _) _) _) hb1
  have K1 : Hid (Blk w1 (w.heap.size + 1) 147 #[.int .i64 0, .slice none 0 0, .slice none 0 0]) := Blk.later (Blk.alloc (Blk.new_at (by simp)) _) hb1
  have K2 : Hid (Blk w1 (w.heap.size + 1 + 1) 147 #[.int .i64 x.for_, .slice none 0 0, .slice none 0 0]) := Blk.later (Blk.new_at (by simp)) hb1
  have f0 := K0.out.at (i := 0) rfl
  have r0 := K1.out.at (i := 0) rfl
  have o0 := K2.out.at (i := 0) rfl
  have rz0 := K1.out.frozen 0
  have oz0 := K2.out.frozen 0
  have f1 := K0.out.at (i := 1) rfl
  have r1 := K1.out.at (i := 1) rfl
  have o1 := K2.out.at (i := 1) rfl
  have rz1 := K1.out.frozen 1
  have oz1 := K2.out.frozen 1
  have f2 := K0.out.at (i := 2) rfl
  have r2 := K1.out.at (i := 2) rfl
  have o2 := K2.out.at (i := 2) rfl
  have rz2 := K1.out.frozen 2
  have oz2 := K2.out.frozen 2
  have hz1 : w.heap.size + 2 < w1.heap.size := by have := hb1.size; simp at this; omega
  clear hb1
  go_wp2_with fail
  refine (toIntS_any A2 _ c2 x.outs L2 _ rfl (by omega) (S2.out.below (by repeat (first | refine Below.setCell ?_ (by dsimp only; omega) _ | refine Below.alloc ?_ (by first | (simp; done) | (simp; omega) | omega) _ | exact B1.out)))).mono ?_
  rintro e w2 ⟨v2, rfl, a2⟩
  obtain ⟨vA2, vc2, rfl⟩ := a2.shape
  have hb2 := a2.below
  obtain ⟨M2, g2⟩ := a2.got
  clear a2
  have G2 := Lib.hid (g2.mono (show w1.heap.size ≤ _ by simp))
  have lt2 := Lib.hid g2.lt
  clear g2
  have B2 : Hid (Below w.heap.size w w2) := Below.trans (by repeat (first | refine Below.setCell ?_ (by dsimp only; omega) _ | refine Below.alloc ?_ (by first | (simp; done) | (simp; omega) | omega) _ | exact B1.out)) (hb2.mono (by first | (simp; done) | (simp; omega) | omega))
  have G1 : Hid (Got (sliceC intC) (w.heap.size + 3) [.slice vA1 x.inn.length vc1] x.inn M1 w2) := Got.later (by repeat (first | refine Got.setCell ?_ (by dsimp only; omega) _ | exact G1.out)) hb2
  have K0 := Lib.hid (Blk.later (Blk.far K0.out (by dsimp only; omega) _) hb2)
  have K1 := Lib.hid (Blk.later (Blk.far K1.out (by dsimp only; omega) _) hb2)
  have K2 := Lib.hid (Blk.later (Blk.set_ K2.out 1 _) hb2)
  clear f0 r0 o0 rz0 oz0 f1 r1 o1 rz1 oz1 f2 r2 o2 rz2 oz2
  have f0 := K0.out.at (i := 0) rfl
  have r0 := K1.out.at (i := 0) rfl
  have o0 := K2.out.at (i := 0) rfl
  have rz0 := K1.out.frozen 0
  have oz0 := K2.out.frozen 0
  have f1 := K0.out.at (i := 1) rfl
  have r1 := K1.out.at (i := 1) rfl
  have o1 := K2.out.at (i := 1) rfl
  have rz1 := K1.out.frozen 1
  have oz1 := K2.out.frozen 1
  have f2 := K0.out.at (i := 2) rfl
  have r2 := K1.out.at (i := 2) rfl
  have o2 := K2.out.at (i := 2) rfl
  have rz2 := K1.out.frozen 2
  have oz2 := K2.out.frozen 2
  have hz2 : w.heap.size + 2 < w2.heap.size := by have := hb2.size; simp at this; omega
  have hy2 : w1.heap.size ≤ w2.heap.size := by have := hb2.size; simp at this; omega
  clear hb2
  go_wp2_with fail
  refine bodyPost_ret (v := .agg #[.int .i64 x.for_, .slice vA1 x.inn.length vc1, .slice vA2 x.outs.length vc2]) (by simp [results, Try.results162, go_sem, r0, r1, r2]) rfl ?_
  obtain ⟨nn1, mm1, ss1⟩ := sliceC_out G1.out.rep
  obtain ⟨nn2, mm2, ss2⟩ := sliceC_out G2.out.rep
  exact gives_of (wr := w2) (M1 ++ M2) ⟨⟨vA1, vc1, M1, vA2, vc2, M2, rfl, rfl, nn1, mm1, ss1, nn2, mm2, ss2⟩, by have o := (Own.append G1.out.own G2.out.own (by omega) lt1.out); simpa only [List.append_assoc] using o⟩ (by intro b hb; repeat rw [Below.heap_setCell _ _ _ _ (by dsimp only; omega)]) (by repeat (first | refine Below.setCell ?_ (by dsimp only; omega) _ | refine Below.alloc ?_ (by first | (simp; done) | (simp; omega) | omega) _ | exact B2.out))

theorem Try.infoReason : (Try.prog.info? 147).map (fun i => (i.zero, i.size, i.bytes)) = some (some (.agg #[.int .i64 0, .slice none 0 0, .slice none 0 0]), 3, 56) := by kernel_rfl
set_option maxHeartbeats 1600000 in
theorem toReasonS_any (A : Option Addr) (n c : Nat) (ds : List ReasonD) (L : List Nat) (w : World) (hn : n = ds.length) (hz : costReasonS ds ≤ 1048576) (h : Sli cReason w A ds L) :
    Calls Try.prog 116 #[.slice A n c] w (GivesS cReason 147 w ds) := by
  obtain ⟨i0, hi, hz0, hz1, hz2⟩ := info_parts Try.infoReason
  have H := Lib.hid h
  have HN := Lib.hid hn
  have hm : n ≤ 1048576 := by simp only [costReasonS] at hz; omega
  have HZ := Lib.hid hz
  clear h hn hz
  go_enter Try.func116, Try.ntmps116
  go_wp2_with (at_make; refine wpList_make_full _ rfl _ _ 48 rfl w.heap.size 147 i0 _ 3 Try.underlying48 hi hz0 hz1 .i64 .i64 _ _ n rfl rfl rfl rfl (by rw [hz2]; omega) (by unfold maxLen; omega) (Nat.le_refl _) ?_; intro w1 hown hg)
  have hb : Below w.heap.size w w1 := (Below.refl _ _).grown hg (Nat.le_refl _) (by simp)
  have HF0 : Hid (Filling cReason 147 w n ds 0 w1) := Filling.start hown hb
  clear hown hg hb
  go_wp2
  go_loopw [4] (fun i wr => ∃ (k : Nat), k ≤ n ∧ i = .int .i64 k ∧ Hid (Filling cReason 147 w n ds k wr)) (fun i _ => n - (intOf i).toNat)
  case atStart => exact ⟨0, Nat.zero_le _, rfl, HF0⟩
  case round =>
    obtain ⟨k, hk, rfl, HF⟩ := hrel
    by_cases hlt : k < n
    · have hkl : k < ds.length := by have := HN.out; omega
      obtain ⟨b, off, cs, Lk, rfl, hbL, hLk, hrep, hc⟩ := H.out.at_ hkl
      have hbl : b < w.heap.size := H.out.lt b hbL
      have HR := Lib.hid (cReason.keep hrep (keep_below HF.out.below (fun y m => H.out.lt y (hLk y m))))
      obtain ⟨A1, c1, A2, c2, rfl⟩ := cReason_cells hrep
      have q0 : wr.cell? ⟨b, off + k * 3, none⟩ = _ := (HF.out.below.cell (p := ⟨b, off + (k * 3 + 0), none⟩) hbl).trans (hc 0 _ rfl)
      have q1 : wr.cell? ⟨b, off + k * 3 + 1, none⟩ = _ := (HF.out.below.cell (p := ⟨b, off + (k * 3 + 1), none⟩) hbl).trans (hc 1 _ rfl)
      have q2 : wr.cell? ⟨b, off + k * 3 + 2, none⟩ = _ := (HF.out.below.cell (p := ⟨b, off + (k * 3 + 2), none⟩) hbl).trans (hc 2 _ rfl)
      have hcx : Hid (costReason ds[k] ≤ 1048576) := cost_le costReason ds k hkl (by have := HZ.out; simp only [costReasonS] at this; omega)
      obtain ⟨x, hx⟩ : ∃ x, x = ds[k] := ⟨_, rfl⟩
      have HX := Lib.hid hx
      rw [← hx] at HR q0 q1 q2 hcx
      clear hc hrep hx
      go_wp2_with fail
      refine (toReason_any _ x Lk _ hcx.out HR.out).mono ?_
      rintro e w2 ⟨cs2, M2, rfl, g2, hb2⟩
      have HF2 := Lib.hid (HF.out.later hb2)
      have HS := Lib.hid (HF.out.store hlt HN.out (fun _ => HX.out) hb2 g2)
      obtain ⟨vA1, vc1, vA2, vc2, rfl⟩ := cReason_cells g2.rep
      clear g2 hb2
      obtain ⟨d0, e0⟩ : ∃ d, w2.cell? ⟨w.heap.size, k * 3, none⟩ = some d := HF2.out.cell hlt (j := 0) (by decide)
      have z0 := HF2.out.frozen (k * 3)
      obtain ⟨d1, e1⟩ : ∃ d, w2.cell? ⟨w.heap.size, k * 3 + 1, none⟩ = some d := HF2.out.cell hlt (j := 1) (by decide)
      have z1 := HF2.out.frozen (k * 3 + 1)
      obtain ⟨d2, e2⟩ : ∃ d, w2.cell? ⟨w.heap.size, k * 3 + 2, none⟩ = some d := HF2.out.cell hlt (j := 2) (by decide)
      have z2 := HF2.out.frozen (k * 3 + 2)
      go_wp2_with fail
      go_roundw
      case rel => exact ⟨k + 1, by omega, by go_num, HS.out⟩
      case measure => simp [intOf]; omega
    · obtain rfl : k = n := by omega
      go_wp2
      go_ret
      exact ⟨_, rfl, HF.out.done HN.out⟩

set_option maxHeartbeats 1600000 in
theorem toBeliefs_any (cs : List Value) (x : BeliefsD) (L : List Nat) (w : World) (hz : costBeliefs x ≤ 1048576) (h : cBeliefs.rep w cs x L) :
    Calls Try.prog 67 #[.agg cs.toArray] w (Gives cBeliefs w x) := by
  obtain ⟨A1, c1, L1, rfl, _hL, n1, m1, s1⟩ := h
  unfold maxLen at m1
  have S1 := Lib.hid s1
  clear s1
  simp only [costBeliefs] at hz
  go_enter Try.func67, Try.ntmps67
  go_wp2_with fail
  refine (toReasonS_any A1 _ c1 x.reasons L1 _ rfl (by omega) (S1.out.below (by repeat (first | refine Below.setCell ?_ (by dsimp only; omega) _ | refine Below.alloc ?_ (by first | (simp; done) | (simp; omega) | omega) _ | exact Below.refl _ _)))).mono ?_
  rintro e w1 ⟨v1, rfl, a1⟩
  obtain ⟨vA1, vc1, rfl⟩ := a1.shape
  have hb1 := a1.below
  obtain ⟨M1, g1⟩ := a1.got
  clear a1
  have G1 := Lib.hid (g1.mono (show w.heap.size + 3 ≤ _ by simp))
  have lt1 := Lib.hid g1.lt
  clear g1
  have B1 : Hid (Below w.heap.size w w1) := Below.trans (by repeat (first | refine Below.setCell ?_ (by dsimp only; omega) _ | refine Below.alloc ?_ (by first | (simp; done) | (simp; omega) | omega) _ | exact Below.refl _ _)) (hb1.mono (by first | (simp; done) | (simp; omega) | omega))
  have K0 : Hid (Blk w1 w.heap.size 42 #[.int .i64 x.nodes, .slice A1 x.reasons.length c1]) := Blk.later (Blk.alloc (Blk.alloc (Blk.new _ _ _) _) _) hb1
  have K1 : Hid (Blk w1 (w.heap.size + 1) 50 #[.int .i64 0, .slice none 0 0]) := Blk.later (Blk.alloc (Blk.new_at (by simp)) _) hb1
  have K2 : Hid (Blk w1 (w.heap.size + 1 + 1) 50 #[.int .i64 x.nodes, .slice none 0 0]) := Blk.later (Blk.new_at (by simp)) hb1
  have f0 := K0.out.at (i := 0) rfl
  have r0 := K1.out.at (i := 0) rfl
  have o0 := K2.out.at (i := 0) rfl
  have rz0 := K1.out.frozen 0
  have oz0 := K2.out.frozen 0
  have f1 := K0.out.at (i := 1) rfl
  have r1 := K1.out.at (i := 1) rfl
  have o1 := K2.out.at (i := 1) rfl
  have rz1 := K1.out.frozen 1
  have oz1 := K2.out.frozen 1
  have hz1 : w.heap.size + 2 < w1.heap.size := by have := hb1.size; simp at this; omega
  clear hb1
  go_wp2_with fail
  refine bodyPost_ret (v := .agg #[.int .i64 x.nodes, .slice vA1 x.reasons.length vc1]) (by simp [results, Try.results67, go_sem, r0, r1]) rfl ?_
  obtain ⟨nn1, mm1, ss1⟩ := sliceC_out G1.out.rep
  exact gives_of (wr := w1) (M1) ⟨⟨vA1, vc1, M1, rfl, rfl, nn1, mm1, ss1⟩, by have o := G1.out.own; simpa only [List.append_assoc] using o⟩ (by intro b hb; repeat rw [Below.heap_setCell _ _ _ _ (by dsimp only; omega)]) (by repeat (first | refine Below.setCell ?_ (by dsimp only; omega) _ | refine Below.alloc ?_ (by first | (simp; done) | (simp; omega) | omega) _ | exact B1.out))

set_option maxHeartbeats 1600000 in
theorem toFrame_any (cs : List Value) (x : FrameD) (L : List Nat) (w : World) (hz : costFrame x ≤ 1048576) (h : cFrame.rep w cs x L) :
    Calls Try.prog 27 #[.agg cs.toArray] w (Gives cFrame w x) := by
  obtain ⟨A1, c1, L1, A2, c2, L2, A3, c3, L3, rfl, _hL, n1, m1, s1, n2, m2, s2, n3, m3, s3⟩ := h
  unfold maxLen at m1 m2 m3
  have S1 := Lib.hid s1
  clear s1
  have S2 := Lib.hid s2
  clear s2
  have S3 := Lib.hid s3
  clear s3
  simp only [costFrame] at hz
  go_enter Try.func27, Try.ntmps27
  go_wp2_with fail
  refine (toBeliefs_any [.int .i64 x.beliefs.nodes, .slice A1 x.beliefs.reasons.length c1] x.beliefs _ _ (by omega) ⟨A1, c1, L1, rfl, rfl, n1, (by unfold maxLen; omega), S1.out.below (by repeat (first | refine Below.setCell ?_ (by dsimp only; omega) _ | refine Below.alloc ?_ (by first | (simp; done) | (simp; omega) | omega) _ | exact Below.refl _ _))⟩).mono ?_
  rintro e w1 ⟨cs1, M1, rfl, g1, hb1⟩
  obtain ⟨vA1, vc1, rfl⟩ := cBeliefs_cells g1.rep
  have G1 := Lib.hid (g1.mono (show w.heap.size + 3 ≤ _ by simp))
  have lt1 := Lib.hid g1.lt
  clear g1
  have B1 : Hid (Below w.heap.size w w1) := Below.trans (by repeat (first | refine Below.setCell ?_ (by dsimp only; omega) _ | refine Below.alloc ?_ (by first | (simp; done) | (simp; omega) | omega) _ | exact Below.refl _ _)) (hb1.mono (by first | (simp; done) | (simp; omega) | omega))
  have K0 : Hid (Blk w1 w.heap.size 45 #[.int .i64 x.beliefs.nodes, .slice A1 x.beliefs.reasons.length c1, .slice A2 x.assumed.length c2, .slice A3 x.bad.length c3]) := Blk.later (Blk.alloc (Blk.alloc (Blk.new _ _ _) _) _) hb1
  have K1 : Hid (Blk w1 (w.heap.size + 1) 52 #[.int .i64 0, .slice none 0 0, .slice none 0 0, .slice none 0 0]) := Blk.later (Blk.alloc (Blk.new_at (by simp)) _) hb1
  have K2 : Hid (Blk w1 (w.heap.size + 1 + 1) 52 #[.int .i64 0, .slice none 0 0, .slice none 0 0, .slice none 0 0]) := Blk.later (Blk.new_at (by simp)) hb1
  have f0 := K0.out.at (i := 0) rfl
  have r0 := K1.out.at (i := 0) rfl
  have o0 := K2.out.at (i := 0) rfl
  have rz0 := K1.out.frozen 0
  have oz0 := K2.out.frozen 0
  have f1 := K0.out.at (i := 1) rfl
  have r1 := K1.out.at (i := 1) rfl
  have o1 := K2.out.at (i := 1) rfl
  have rz1 := K1.out.frozen 1
  have oz1 := K2.out.frozen 1
  have f2 := K0.out.at (i := 2) rfl
  have r2 := K1.out.at (i := 2) rfl
  have o2 := K2.out.at (i := 2) rfl
  have rz2 := K1.out.frozen 2
  have oz2 := K2.out.frozen 2
  have f3 := K0.out.at (i := 3) rfl
  have r3 := K1.out.at (i := 3) rfl
  have o3 := K2.out.at (i := 3) rfl
  have rz3 := K1.out.frozen 3
  have oz3 := K2.out.frozen 3
  have hz1 : w.heap.size + 2 < w1.heap.size := by have := hb1.size; simp at this; omega
  clear hb1
  go_wp2_with fail
  refine (toIntS_any A2 _ c2 x.assumed L2 _ rfl (by omega) (S2.out.below (by repeat (first | refine Below.setCell ?_ (by dsimp only; omega) _ | refine Below.alloc ?_ (by first | (simp; done) | (simp; omega) | omega) _ | exact B1.out)))).mono ?_
  rintro e w2 ⟨v2, rfl, a2⟩
  obtain ⟨vA2, vc2, rfl⟩ := a2.shape
  have hb2 := a2.below
  obtain ⟨M2, g2⟩ := a2.got
  clear a2
  have G2 := Lib.hid (g2.mono (show w1.heap.size ≤ _ by simp))
  have lt2 := Lib.hid g2.lt
  clear g2
  have B2 : Hid (Below w.heap.size w w2) := Below.trans (by repeat (first | refine Below.setCell ?_ (by dsimp only; omega) _ | refine Below.alloc ?_ (by first | (simp; done) | (simp; omega) | omega) _ | exact B1.out)) (hb2.mono (by first | (simp; done) | (simp; omega) | omega))
  have G1 : Hid (Got cBeliefs (w.heap.size + 3) [.int .i64 x.beliefs.nodes, .slice vA1 x.beliefs.reasons.length vc1] x.beliefs M1 w2) := Got.later (by repeat (first | refine Got.setCell ?_ (by dsimp only; omega) _ | exact G1.out)) hb2
  have K0 := Lib.hid (Blk.later (Blk.far (Blk.far K0.out (by dsimp only; omega) _) (by dsimp only; omega) _) hb2)
  have K1 := Lib.hid (Blk.later (Blk.far (Blk.far K1.out (by dsimp only; omega) _) (by dsimp only; omega) _) hb2)
  have K2 := Lib.hid (Blk.later (Blk.set_ (Blk.set_ K2.out 0 _) 1 _) hb2)
  clear f0 r0 o0 rz0 oz0 f1 r1 o1 rz1 oz1 f2 r2 o2 rz2 oz2 f3 r3 o3 rz3 oz3
  have f0 := K0.out.at (i := 0) rfl
  have r0 := K1.out.at (i := 0) rfl
  have o0 := K2.out.at (i := 0) rfl
  have rz0 := K1.out.frozen 0
  have oz0 := K2.out.frozen 0
  have f1 := K0.out.at (i := 1) rfl
  have r1 := K1.out.at (i := 1) rfl
  have o1 := K2.out.at (i := 1) rfl
  have rz1 := K1.out.frozen 1
  have oz1 := K2.out.frozen 1
  have f2 := K0.out.at (i := 2) rfl
  have r2 := K1.out.at (i := 2) rfl
  have o2 := K2.out.at (i := 2) rfl
  have rz2 := K1.out.frozen 2
  have oz2 := K2.out.frozen 2
  have f3 := K0.out.at (i := 3) rfl
  have r3 := K1.out.at (i := 3) rfl
  have o3 := K2.out.at (i := 3) rfl
  have rz3 := K1.out.frozen 3
  have oz3 := K2.out.frozen 3
  have hz2 : w.heap.size + 2 < w2.heap.size := by have := hb2.size; simp at this; omega
  have hy2 : w1.heap.size ≤ w2.heap.size := by have := hb2.size; simp at this; omega
  clear hb2
  go_wp2_with fail
  refine (toIntS_any A3 _ c3 x.bad L3 _ rfl (by omega) (S3.out.below (by repeat (first | refine Below.setCell ?_ (by dsimp only; omega) _ | refine Below.alloc ?_ (by first | (simp; done) | (simp; omega) | omega) _ | exact B2.out)))).mono ?_
  rintro e w3 ⟨v3, rfl, a3⟩
  obtain ⟨vA3, vc3, rfl⟩ := a3.shape
  have hb3 := a3.below
  obtain ⟨M3, g3⟩ := a3.got
  clear a3
  have G3 := Lib.hid (g3.mono (show w2.heap.size ≤ _ by simp))
  have lt3 := Lib.hid g3.lt
  clear g3
  have B3 : Hid (Below w.heap.size w w3) := Below.trans (by repeat (first | refine Below.setCell ?_ (by dsimp only; omega) _ | refine Below.alloc ?_ (by first | (simp; done) | (simp; omega) | omega) _ | exact B2.out)) (hb3.mono (by first | (simp; done) | (simp; omega) | omega))
  have G1 : Hid (Got cBeliefs (w.heap.size + 3) [.int .i64 x.beliefs.nodes, .slice vA1 x.beliefs.reasons.length vc1] x.beliefs M1 w3) := Got.later (by repeat (first | refine Got.setCell ?_ (by dsimp only; omega) _ | exact G1.out)) hb3
  have G2 : Hid (Got (sliceC intC) (w1.heap.size) [.slice vA2 x.assumed.length vc2] x.assumed M2 w3) := Got.later (by repeat (first | refine Got.setCell ?_ (by dsimp only; omega) _ | exact G2.out)) hb3
  have K0 := Lib.hid (Blk.later (Blk.far K0.out (by dsimp only; omega) _) hb3)
  have K1 := Lib.hid (Blk.later (Blk.far K1.out (by dsimp only; omega) _) hb3)
  have K2 := Lib.hid (Blk.later (Blk.set_ K2.out 2 _) hb3)
  clear f0 r0 o0 rz0 oz0 f1 r1 o1 rz1 oz1 f2 r2 o2 rz2 oz2 f3 r3 o3 rz3 oz3
  have f0 := K0.out.at (i := 0) rfl
  have r0 := K1.out.at (i := 0) rfl
  have o0 := K2.out.at (i := 0) rfl
  have rz0 := K1.out.frozen 0
  have oz0 := K2.out.frozen 0
  have f1 := K0.out.at (i := 1) rfl
  have r1 := K1.out.at (i := 1) rfl
  have o1 := K2.out.at (i := 1) rfl
  have rz1 := K1.out.frozen 1
  have oz1 := K2.out.frozen 1
  have f2 := K0.out.at (i := 2) rfl
  have r2 := K1.out.at (i := 2) rfl
  have o2 := K2.out.at (i := 2) rfl
  have rz2 := K1.out.frozen 2
  have oz2 := K2.out.frozen 2
  have f3 := K0.out.at (i := 3) rfl
  have r3 := K1.out.at (i := 3) rfl
  have o3 := K2.out.at (i := 3) rfl
  have rz3 := K1.out.frozen 3
  have oz3 := K2.out.frozen 3
  have hz3 : w.heap.size + 2 < w3.heap.size := by have := hb3.size; simp at this; omega
  have hy3 : w2.heap.size ≤ w3.heap.size := by have := hb3.size; simp at this; omega
  clear hb3
  go_wp2_with fail
  refine bodyPost_ret (v := .agg #[.int .i64 x.beliefs.nodes, .slice vA1 x.beliefs.reasons.length vc1, .slice vA2 x.assumed.length vc2, .slice vA3 x.bad.length vc3]) (by simp [results, Try.results27, go_sem, r0, r1, r2, r3]) rfl ?_
  obtain ⟨_, _, N1, hcs1, hL1, nn1, mm1, ss1⟩ := G1.out.rep
  cases hcs1
  subst hL1
  obtain ⟨nn2, mm2, ss2⟩ := sliceC_out G2.out.rep
  obtain ⟨nn3, mm3, ss3⟩ := sliceC_out G3.out.rep
  exact gives_of (wr := w3) (M1 ++ (M2 ++ M3)) ⟨⟨vA1, vc1, M1, vA2, vc2, M2, vA3, vc3, M3, rfl, rfl, nn1, mm1, ss1, nn2, mm2, ss2, nn3, mm3, ss3⟩, by have o := (Own.append G1.out.own (Own.append G2.out.own G3.out.own (by omega) lt2.out) (by omega) lt1.out); simpa only [List.append_assoc] using o⟩ (by intro b hb; repeat rw [Below.heap_setCell _ _ _ _ (by dsimp only; omega)]) (by repeat (first | refine Below.setCell ?_ (by dsimp only; omega) _ | refine Below.alloc ?_ (by first | (simp; done) | (simp; omega) | omega) _ | exact B3.out))

end Go.Proofs.Ytccbhhglghboaaa

namespace Go.Proofs.Ytccbhhglghboaaa
open Go.RowKit

def TruePost (w : World) (e : Ending) (w' : World) : Prop := e = .returned (.bool true) ∧ Below w.heap.size w w'

set_option maxHeartbeats 1600000 in
theorem eqIntS_any (A B : Option Addr) (n c d : Nat) (ds : List Int) (L M : List Nat) (w : World) (hn : n = ds.length) (hm : n ≤ 9223372036854775807) (h1 : Sli intC w A ds L) (h2 : Sli intC w B ds M) :
    Calls Try.prog 29 #[.slice A n c, .slice B n d] w (TruePost w) := by
  have H1 := Lib.hid h1
  have H2 := Lib.hid h2
  have HN := Lib.hid hn
  clear h1 h2 hn
  have hne : ((n : Int) != n) = false := by simp
  go_enter Try.func29, Try.ntmps29
  go_wp2
  go_loopw [5] (fun i wr => ∃ (k : Nat), k ≤ n ∧ i = .int .i64 k ∧ Hid (∃ q, wr = w.drewN q)) (fun i _ => n - (intOf i).toNat)
  case atStart => exact ⟨0, Nat.zero_le _, rfl, 0, rfl⟩
  case round =>
    obtain ⟨k, hk, rfl, hq⟩ := hrel
    obtain ⟨q, rfl⟩ := hq.out
    by_cases hlt : k < n
    · have hkl : k < ds.length := by have := HN.out; omega
      obtain ⟨b, off, cs, Lk, rfl, _, _, hrep, hc⟩ := H1.out.at_ hkl
      obtain ⟨b', off', cs', Mk, rfl, _, _, hrep', hc'⟩ := H2.out.at_ hkl
      generalize ds[k] = x at *
      obtain ⟨rfl, _⟩ := hrep
      obtain ⟨rfl, _⟩ := hrep'
      have q0 := hc 0 _ rfl
      have p0 := hc' 0 _ rfl
      simp only [show intC.size = 1 from rfl, Nat.mul_one, Nat.add_zero] at q0 p0
      clear hc hc'
      have k0 : (0 : Int) ≤ k := by omega
      have k1 : (k : Int) < n := by omega
      go_wp2_with fail
      go_quiet (fail)
      go_wp2_with fail
      go_roundw
      case rel => exact ⟨k + 1, by omega, by go_num, by first | exact drew_ex _ _ _ | exact drew_ex1 _ _⟩
      case measure => simp [intOf]; omega
    · go_wp2
      go_ret
      exact ⟨rfl, below_of_drewN _ _ _⟩

set_option maxHeartbeats 1600000 in
theorem eqReason_any (cs ds : List Value) (x : ReasonD) (L M : List Nat) (w : World) (h1 : cReason.rep w cs x L) (h2 : cReason.rep w ds x M) :
    Calls Try.prog 166 #[.agg cs.toArray, .agg ds.toArray] w (TruePost w) := by
  obtain ⟨aA1, ac1, aL1, aA2, ac2, aL2, rfl, _ahL, an1, am1, as1, an2, am2, as2⟩ := h1
  obtain ⟨bA1, bc1, bL1, bA2, bc2, bL2, rfl, _bhL, bn1, bm1, bs1, bn2, bm2, bs2⟩ := h2
  unfold maxLen at am1 bm1 am2 bm2
  have SA1 := Lib.hid as1
  have SB1 := Lib.hid bs1
  clear as1 bs1
  have SA2 := Lib.hid as2
  have SB2 := Lib.hid bs2
  clear as2 bs2
  go_enter Try.func166, Try.ntmps166
  go_wp2_with fail
  refine (eqIntS_any aA1 bA1 _ ac1 bc1 x.inn aL1 bL1 _ rfl (by omega) (SA1.out.below (by repeat (first | refine Below.setCell ?_ (by dsimp only; omega) _ | refine Below.alloc ?_ (by first | (simp; done) | (simp; omega) | omega) _ | exact Below.refl _ _))) (SB1.out.below (by repeat (first | refine Below.setCell ?_ (by dsimp only; omega) _ | refine Below.alloc ?_ (by first | (simp; done) | (simp; omega) | omega) _ | exact Below.refl _ _)))).mono ?_
  rintro e w1 ⟨rfl, hb1⟩
  have B1 : Hid (Below w.heap.size w w1) := Below.trans (by repeat (first | refine Below.setCell ?_ (by dsimp only; omega) _ | refine Below.alloc ?_ (by first | (simp; done) | (simp; omega) | omega) _ | exact Below.refl _ _)) (hb1.mono (by first | (simp; done) | (simp; omega) | omega))
  have K0 : Hid (Blk w1 w.heap.size 147 #[.int .i64 x.for_, .slice aA1 x.inn.length ac1, .slice aA2 x.outs.length ac2]) := Blk.later (Blk.alloc (Blk.new _ _ _) _) hb1
  have K1 : Hid (Blk w1 (w.heap.size + 1) 147 #[.int .i64 x.for_, .slice bA1 x.inn.length bc1, .slice bA2 x.outs.length bc2]) := Blk.later (Blk.new_at (by simp)) hb1
  have f0 := K0.out.at (i := 0) rfl
  have r0 := K1.out.at (i := 0) rfl
  have f1 := K0.out.at (i := 1) rfl
  have r1 := K1.out.at (i := 1) rfl
  have f2 := K0.out.at (i := 2) rfl
  have r2 := K1.out.at (i := 2) rfl
  clear hb1
  have hz1 := B1.out.size
  go_wp2_with fail
  refine (eqIntS_any aA2 bA2 _ ac2 bc2 x.outs aL2 bL2 _ rfl (by omega) (SA2.out.below (by repeat (first | refine Below.setCell ?_ (by dsimp only; omega) _ | refine Below.alloc ?_ (by first | (simp; done) | (simp; omega) | omega) _ | exact B1.out))) (SB2.out.below (by repeat (first | refine Below.setCell ?_ (by dsimp only; omega) _ | refine Below.alloc ?_ (by first | (simp; done) | (simp; omega) | omega) _ | exact B1.out)))).mono ?_
  rintro e w2 ⟨rfl, hb2⟩
  have B2 : Hid (Below w.heap.size w w2) := Below.trans (by repeat (first | refine Below.setCell ?_ (by dsimp only; omega) _ | refine Below.alloc ?_ (by first | (simp; done) | (simp; omega) | omega) _ | exact B1.out)) (hb2.mono (by first | (simp; done) | (simp; omega) | omega))
  have K0 := Lib.hid (K0.out.later hb2)
  have K1 := Lib.hid (K1.out.later hb2)
  clear f0 r0 f1 r1 f2 r2
  have f0 := K0.out.at (i := 0) rfl
  have r0 := K1.out.at (i := 0) rfl
  have f1 := K0.out.at (i := 1) rfl
  have r1 := K1.out.at (i := 1) rfl
  have f2 := K0.out.at (i := 2) rfl
  have r2 := K1.out.at (i := 2) rfl
  clear hb2
  have hz2 := B2.out.size
  go_wp2_with fail
  go_ret
  exact ⟨rfl, (by repeat (first | refine Below.setCell ?_ (by dsimp only; omega) _ | refine Below.alloc ?_ (by first | (simp; done) | (simp; omega) | omega) _ | exact B2.out))⟩

set_option maxRecDepth 100000 in
set_option maxHeartbeats 1600000 in
theorem eqReasonS_any (A B : Option Addr) (n c d : Nat) (ds : List ReasonD) (L M : List Nat) (w : World) (hn : n = ds.length) (hm : n ≤ 9223372036854775807) (h1 : Sli cReason w A ds L) (h2 : Sli cReason w B ds M) :
    Calls Try.prog 125 #[.slice A n c, .slice B n d] w (TruePost w) := by
  have H1 := Lib.hid h1
  have H2 := Lib.hid h2
  have HN := Lib.hid hn
  clear h1 h2 hn
  have hne : ((n : Int) != n) = false := by simp
  go_enter Try.func125, Try.ntmps125
  go_wp2
  go_loopw [5] (fun i wr => ∃ (k : Nat), k ≤ n ∧ i = .int .i64 k ∧ Hid (Below w.heap.size w wr)) (fun i _ => n - (intOf i).toNat)
  case atStart => exact ⟨0, Nat.zero_le _, rfl, Below.refl _ _⟩
  case round =>
    obtain ⟨k, hk, rfl, HB⟩ := hrel
    by_cases hlt : k < n
    · have hkl : k < ds.length := by have := HN.out; omega
      obtain ⟨b, off, cs, Lk, rfl, hbL, hLk, hrep, hc⟩ := H1.out.at_ hkl
      obtain ⟨b', off', cs', Mk, rfl, hbM, hMk, hrep', hc'⟩ := H2.out.at_ hkl
      have hbl : b < w.heap.size := H1.out.lt b hbL
      have hbl' : b' < w.heap.size := H2.out.lt b' hbM
      have HR := Lib.hid (cReason.keep hrep (keep_below HB.out (fun y m => H1.out.lt y (hLk y m))))
      have HR' := Lib.hid (cReason.keep hrep' (keep_below HB.out (fun y m => H2.out.lt y (hMk y m))))
      generalize ds[k] = x at *
      obtain ⟨aA1, ac1, aA2, ac2, rfl⟩ := cReason_cells hrep
      obtain ⟨bA1, bc1, bA2, bc2, rfl⟩ := cReason_cells hrep'
      have q0 : wr.cell? ⟨b, off + k * 3, none⟩ = _ := (HB.out.cell (p := ⟨b, off + (k * 3 + 0), none⟩) hbl).trans (hc 0 _ rfl)
      have p0 : wr.cell? ⟨b', off' + k * 3, none⟩ = _ := (HB.out.cell (p := ⟨b', off' + (k * 3 + 0), none⟩) hbl').trans (hc' 0 _ rfl)
      have q1 : wr.cell? ⟨b, off + k * 3 + 1, none⟩ = _ := (HB.out.cell (p := ⟨b, off + (k * 3 + 1), none⟩) hbl).trans (hc 1 _ rfl)
      have p1 : wr.cell? ⟨b', off' + k * 3 + 1, none⟩ = _ := (HB.out.cell (p := ⟨b', off' + (k * 3 + 1), none⟩) hbl').trans (hc' 1 _ rfl)
      have q2 : wr.cell? ⟨b, off + k * 3 + 2, none⟩ = _ := (HB.out.cell (p := ⟨b, off + (k * 3 + 2), none⟩) hbl).trans (hc 2 _ rfl)
      have p2 : wr.cell? ⟨b', off' + k * 3 + 2, none⟩ = _ := (HB.out.cell (p := ⟨b', off' + (k * 3 + 2), none⟩) hbl').trans (hc' 2 _ rfl)
      clear hc hc' hrep hrep'
      have k0 : (0 : Int) ≤ k := by omega
      have k1 : (k : Int) < n := by omega
      go_wp2_with fail
      go_still_tail 8, (by kernel_rfl)
      change wpList _ _ _ _ _ wr.drew
      go_wp2_with (go_at_call 166; (refine (eqReason_any _ _ x Lk Mk wr.drew (cReason.keep HR.out (fun _ _ => rfl)) (cReason.keep HR'.out (fun _ _ => rfl))).mono ?_; rintro e w1 ⟨rfl, hb1⟩; have HB1 := Lib.hid (HB.out.drew.trans (hb1.mono HB.out.size)); clear hb1))
      go_roundw
      case rel => exact ⟨k + 1, by omega, by go_num, HB1.out⟩
      case measure => simp [intOf]; omega
    · go_wp2
      go_ret
      exact ⟨rfl, HB.out⟩

set_option maxHeartbeats 1600000 in
theorem eqBeliefs_any (cs ds : List Value) (x : BeliefsD) (L M : List Nat) (w : World) (h1 : cBeliefs.rep w cs x L) (h2 : cBeliefs.rep w ds x M) :
    Calls Try.prog 75 #[.agg cs.toArray, .agg ds.toArray] w (TruePost w) := by
  obtain ⟨aA1, ac1, aL1, rfl, _ahL, an1, am1, as1⟩ := h1
  obtain ⟨bA1, bc1, bL1, rfl, _bhL, bn1, bm1, bs1⟩ := h2
  unfold maxLen at am1 bm1
  have SA1 := Lib.hid as1
  have SB1 := Lib.hid bs1
  clear as1 bs1
  go_enter Try.func75, Try.ntmps75
  go_wp2_with fail
  refine (eqReasonS_any aA1 bA1 _ ac1 bc1 x.reasons aL1 bL1 _ rfl (by omega) (SA1.out.below (by repeat (first | refine Below.setCell ?_ (by dsimp only; omega) _ | refine Below.alloc ?_ (by first | (simp; done) | (simp; omega) | omega) _ | exact Below.refl _ _))) (SB1.out.below (by repeat (first | refine Below.setCell ?_ (by dsimp only; omega) _ | refine Below.alloc ?_ (by first | (simp; done) | (simp; omega) | omega) _ | exact Below.refl _ _)))).mono ?_
  rintro e w1 ⟨rfl, hb1⟩
  have B1 : Hid (Below w.heap.size w w1) := Below.trans (by repeat (first | refine Below.setCell ?_ (by dsimp only; omega) _ | refine Below.alloc ?_ (by first | (simp; done) | (simp; omega) | omega) _ | exact Below.refl _ _)) (hb1.mono (by first | (simp; done) | (simp; omega) | omega))
  have K0 : Hid (Blk w1 w.heap.size 50 #[.int .i64 x.nodes, .slice aA1 x.reasons.length ac1]) := Blk.later (Blk.alloc (Blk.new _ _ _) _) hb1
  have K1 : Hid (Blk w1 (w.heap.size + 1) 50 #[.int .i64 x.nodes, .slice bA1 x.reasons.length bc1]) := Blk.later (Blk.new_at (by simp)) hb1
  have f0 := K0.out.at (i := 0) rfl
  have r0 := K1.out.at (i := 0) rfl
  have f1 := K0.out.at (i := 1) rfl
  have r1 := K1.out.at (i := 1) rfl
  clear hb1
  have hz1 := B1.out.size
  go_wp2_with fail
  go_ret
  exact ⟨rfl, (by repeat (first | refine Below.setCell ?_ (by dsimp only; omega) _ | refine Below.alloc ?_ (by first | (simp; done) | (simp; omega) | omega) _ | exact B1.out))⟩

set_option maxHeartbeats 1600000 in
theorem eqFrame_any (cs ds : List Value) (x : FrameD) (L M : List Nat) (w : World) (h1 : cFrame.rep w cs x L) (h2 : cFrame.rep w ds x M) :
    Calls Try.prog 30 #[.agg cs.toArray, .agg ds.toArray] w (TruePost w) := by
  obtain ⟨aA1, ac1, aL1, aA2, ac2, aL2, aA3, ac3, aL3, rfl, _ahL, an1, am1, as1, an2, am2, as2, an3, am3, as3⟩ := h1
  obtain ⟨bA1, bc1, bL1, bA2, bc2, bL2, bA3, bc3, bL3, rfl, _bhL, bn1, bm1, bs1, bn2, bm2, bs2, bn3, bm3, bs3⟩ := h2
  unfold maxLen at am1 bm1 am2 bm2 am3 bm3
  have SA1 := Lib.hid as1
  have SB1 := Lib.hid bs1
  clear as1 bs1
  have SA2 := Lib.hid as2
  have SB2 := Lib.hid bs2
  clear as2 bs2
  have SA3 := Lib.hid as3
  have SB3 := Lib.hid bs3
  clear as3 bs3
  go_enter Try.func30, Try.ntmps30
  go_wp2_with fail
  refine (eqBeliefs_any [.int .i64 x.beliefs.nodes, .slice aA1 x.beliefs.reasons.length ac1] [.int .i64 x.beliefs.nodes, .slice bA1 x.beliefs.reasons.length bc1] x.beliefs _ _ _ ⟨aA1, ac1, aL1, rfl, rfl, an1, (by unfold maxLen; omega), SA1.out.below (by repeat (first | refine Below.setCell ?_ (by dsimp only; omega) _ | refine Below.alloc ?_ (by first | (simp; done) | (simp; omega) | omega) _ | exact Below.refl _ _))⟩ ⟨bA1, bc1, bL1, rfl, rfl, bn1, (by unfold maxLen; omega), SB1.out.below (by repeat (first | refine Below.setCell ?_ (by dsimp only; omega) _ | refine Below.alloc ?_ (by first | (simp; done) | (simp; omega) | omega) _ | exact Below.refl _ _))⟩).mono ?_
  rintro e w1 ⟨rfl, hb1⟩
  have B1 : Hid (Below w.heap.size w w1) := Below.trans (by repeat (first | refine Below.setCell ?_ (by dsimp only; omega) _ | refine Below.alloc ?_ (by first | (simp; done) | (simp; omega) | omega) _ | exact Below.refl _ _)) (hb1.mono (by first | (simp; done) | (simp; omega) | omega))
  have K0 : Hid (Blk w1 w.heap.size 52 #[.int .i64 x.beliefs.nodes, .slice aA1 x.beliefs.reasons.length ac1, .slice aA2 x.assumed.length ac2, .slice aA3 x.bad.length ac3]) := Blk.later (Blk.alloc (Blk.new _ _ _) _) hb1
  have K1 : Hid (Blk w1 (w.heap.size + 1) 52 #[.int .i64 x.beliefs.nodes, .slice bA1 x.beliefs.reasons.length bc1, .slice bA2 x.assumed.length bc2, .slice bA3 x.bad.length bc3]) := Blk.later (Blk.new_at (by simp)) hb1
  have f0 := K0.out.at (i := 0) rfl
  have r0 := K1.out.at (i := 0) rfl
  have f1 := K0.out.at (i := 1) rfl
  have r1 := K1.out.at (i := 1) rfl
  have f2 := K0.out.at (i := 2) rfl
  have r2 := K1.out.at (i := 2) rfl
  have f3 := K0.out.at (i := 3) rfl
  have r3 := K1.out.at (i := 3) rfl
  clear hb1
  have hz1 := B1.out.size
  go_wp2_with fail
  refine (eqIntS_any aA2 bA2 _ ac2 bc2 x.assumed aL2 bL2 _ rfl (by omega) (SA2.out.below (by repeat (first | refine Below.setCell ?_ (by dsimp only; omega) _ | refine Below.alloc ?_ (by first | (simp; done) | (simp; omega) | omega) _ | exact B1.out))) (SB2.out.below (by repeat (first | refine Below.setCell ?_ (by dsimp only; omega) _ | refine Below.alloc ?_ (by first | (simp; done) | (simp; omega) | omega) _ | exact B1.out)))).mono ?_
  rintro e w2 ⟨rfl, hb2⟩
  have B2 : Hid (Below w.heap.size w w2) := Below.trans (by repeat (first | refine Below.setCell ?_ (by dsimp only; omega) _ | refine Below.alloc ?_ (by first | (simp; done) | (simp; omega) | omega) _ | exact B1.out)) (hb2.mono (by first | (simp; done) | (simp; omega) | omega))
  have K0 := Lib.hid (K0.out.later hb2)
  have K1 := Lib.hid (K1.out.later hb2)
  clear f0 r0 f1 r1 f2 r2 f3 r3
  have f0 := K0.out.at (i := 0) rfl
  have r0 := K1.out.at (i := 0) rfl
  have f1 := K0.out.at (i := 1) rfl
  have r1 := K1.out.at (i := 1) rfl
  have f2 := K0.out.at (i := 2) rfl
  have r2 := K1.out.at (i := 2) rfl
  have f3 := K0.out.at (i := 3) rfl
  have r3 := K1.out.at (i := 3) rfl
  clear hb2
  have hz2 := B2.out.size
  go_wp2_with fail
  refine (eqIntS_any aA3 bA3 _ ac3 bc3 x.bad aL3 bL3 _ rfl (by omega) (SA3.out.below (by repeat (first | refine Below.setCell ?_ (by dsimp only; omega) _ | refine Below.alloc ?_ (by first | (simp; done) | (simp; omega) | omega) _ | exact B2.out))) (SB3.out.below (by repeat (first | refine Below.setCell ?_ (by dsimp only; omega) _ | refine Below.alloc ?_ (by first | (simp; done) | (simp; omega) | omega) _ | exact B2.out)))).mono ?_
  rintro e w3 ⟨rfl, hb3⟩
  have B3 : Hid (Below w.heap.size w w3) := Below.trans (by repeat (first | refine Below.setCell ?_ (by dsimp only; omega) _ | refine Below.alloc ?_ (by first | (simp; done) | (simp; omega) | omega) _ | exact B2.out)) (hb3.mono (by first | (simp; done) | (simp; omega) | omega))
  have K0 := Lib.hid (K0.out.later hb3)
  have K1 := Lib.hid (K1.out.later hb3)
  clear f0 r0 f1 r1 f2 r2 f3 r3
  have f0 := K0.out.at (i := 0) rfl
  have r0 := K1.out.at (i := 0) rfl
  have f1 := K0.out.at (i := 1) rfl
  have r1 := K1.out.at (i := 1) rfl
  have f2 := K0.out.at (i := 2) rfl
  have r2 := K1.out.at (i := 2) rfl
  have f3 := K0.out.at (i := 3) rfl
  have r3 := K1.out.at (i := 3) rfl
  clear hb3
  have hz3 := B3.out.size
  go_wp2_with fail
  go_ret
  exact ⟨rfl, (by repeat (first | refine Below.setCell ?_ (by dsimp only; omega) _ | refine Below.alloc ?_ (by first | (simp; done) | (simp; omega) | omega) _ | exact B3.out))⟩

end Go.Proofs.Ytccbhhglghboaaa

namespace Go.Proofs.Ytccbhhglghboaaa
open Go.RowKit

def mkIntS : Int → List Int → List Int
  | _, [] => []
  | k, _ :: r => k :: mkIntS (k + 1) r
def nextIntS (k : Int) (l : List Int) : Int := k + l.length
theorem mkIntS_len (k : Int) (l : List Int) : (mkIntS k l).length = l.length := by induction l generalizing k with | nil => rfl | cons x r ih => simp [mkIntS, ih]
theorem nextIntS_ge (k : Int) (l : List Int) : k ≤ nextIntS k l := by unfold nextIntS; omega
theorem nextIntS_le (k : Int) (l : List Int) : nextIntS k l ≤ k + 16 * l.length := by unfold nextIntS; omega
def mkReason (k : Int) (x : ReasonD) : ReasonD := ⟨(k), mkIntS (k + 1) x.inn, mkIntS (nextIntS (k + 1) x.inn) x.outs⟩
def nextReason (k : Int) (x : ReasonD) : Int := nextIntS (nextIntS (k + 1) x.inn) x.outs
def mkReasonS : Int → List ReasonD → List ReasonD
  | _, [] => []
  | k, x :: r => mkReason k x :: mkReasonS (nextReason k x) r
def nextReasonS : Int → List ReasonD → Int
  | k, [] => k
  | k, x :: r => nextReasonS (nextReason k x) r
theorem mkReasonS_len (k : Int) (l : List ReasonD) : (mkReasonS k l).length = l.length := by induction l generalizing k with | nil => rfl | cons x r ih => simp [mkReasonS, ih]
theorem nextReason_ge (k : Int) (x : ReasonD) : k ≤ nextReason k x := by
  unfold nextReason
  have := nextIntS_ge (k + 1) x.inn
  have := nextIntS_ge (nextIntS (k + 1) x.inn) x.outs
  omega
theorem nextReasonS_ge (k : Int) (l : List ReasonD) : k ≤ nextReasonS k l := by
  induction l generalizing k with
  | nil => exact Int.le_refl _
  | cons x r ih => exact Int.le_trans (nextReason_ge k x) (ih _)
theorem nextReason_le (k : Int) (x : ReasonD) : nextReason k x ≤ k + 1 + 16 * costReason x := by
  unfold nextReason
  have := nextIntS_le (k + 1) x.inn
  have := nextIntS_le (nextIntS (k + 1) x.inn) x.outs
  simp only [costReason]
  omega
theorem nextReasonS_le (k : Int) (l : List ReasonD) : nextReasonS k l ≤ k + 16 * costReasonS l := by
  induction l generalizing k with
  | nil => simp [nextReasonS, costReasonS]
  | cons x r ih =>
    have h1 := nextReason_le k x
    have h2 := ih (nextReason k x)
    simp only [nextReasonS, costReasonS, List.length_cons, List.map_cons, List.sum_cons] at h2 ⊢
    omega

end Go.Proofs.Ytccbhhglghboaaa
