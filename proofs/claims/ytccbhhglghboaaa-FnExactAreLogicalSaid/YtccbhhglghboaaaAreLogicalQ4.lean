/- Texts of this proof, joined: Dp0, Dp4, Dp2, Dp7, Dp8, Dp6, Dp9, Dp10, Dp12, Dp15, Dp13, Dp16. What each holds is said at its theorems. -/
import Derived.Test.YtccbhhglghboaaaAreLogicalQ3
set_option linter.unusedSimpArgs false
set_option linter.unusedVariables false
namespace Go.Proofs.Ytccbhhglghboaaa
open Go.Proofs.Try
set_option linter.unusedSimpArgs false
set_option linter.unusedVariables false
set_option maxRecDepth 1000000
set_option maxHeartbeats 4000000
theorem s_l1Put_ok {l_0 : (List ByteArray)} {s_1 : ByteArray} {r : (List ByteArray)} (h : s_l1Put l_0 s_1 = some r) : Sound Try.prog J0 53 [(false, [.sl 9 1 (List.map eStr l_0)]), (false, [.str s_1])] [(false, [(false, .sl 9 1 (List.map eStr r))])] := by
  refine fnk Try.func53 (by kernel_rfl) rfl (by kernel_rfl) (by kernel_rfl) ?_
  unfold s_l1Put at h
  simp only [fnS, f53, argSt, go_sem, Int.reduceLT, Int.reduceLE, Int.reduceBEq, Int.reduceBNe, Nat.reduceBNe, Nat.reduceAdd, Nat.reduceMul, Nat.reduceEqDiff, Nat.reduceLeDiff, Nat.reduceLT, Nat.reduceBEq, reduceCtorEq, reduceIte]
  refine swp_for h (fun i s st => match s with | (row_2, done_5) => IV [(0, .p false [.c (.sl 9 1 (List.map eStr l_0))]), (1, .p false [.c (.str s_1)]), (5, .p false [.row 0]), (6, .p false [.c (.bool done_5)]), (7, .p false [.c (.int .i64 ((i : Nat) : Int))])] [.row 9 1 (List.map eStr row_2) 2] st) [] [16] (by decide) ?_ ?_ ?_
  · simp only [go_sem, Int.reduceLT, Int.reduceLE, Int.reduceBEq, Int.reduceBNe, Nat.reduceBNe, Nat.reduceAdd, Nat.reduceMul, Nat.reduceEqDiff, Nat.reduceLeDiff, Nat.reduceLT, Nat.reduceBEq, reduceCtorEq, reduceIte, IV, sts_cons, sts_nil, obs_cons, obs_nil]
  · rintro i8 x9 ⟨row_2, done_5⟩ ⟨sl, ob, n⟩ y1 hx2 hI3 hW4 h hy1
    simp only [IV, sts_cons, sts_nil, obs_cons, obs_nil, and_true, true_and, Nat.reduceAdd, str_len] at hI3
    obtain ⟨⟨g5_0, g5_1, g5_5, g5_6, g5_7⟩, og5_0, hn⟩ := hI3
    subst hn
    have hlhx2 := WF.slotL hW4 g5_0 (j := 0) rfl
    try simp only [go_sem, Int.reduceLT, Int.reduceLE, Int.reduceBEq, Int.reduceBNe, Nat.reduceBNe, Nat.reduceAdd, Nat.reduceMul, Nat.reduceEqDiff, Nat.reduceLeDiff, Nat.reduceLT, Nat.reduceBEq, reduceCtorEq, reduceIte, hx2, lt_t hx2, lt_p hx2, nat_in (lt_n hx2) hlhx2, g5_0, g5_1, g5_5, g5_6, g5_7, og5_0]
    refine ite_K h (fun c6 h => ?_) (fun c6 h => ?_)
    · obtain ⟨p7, h⟩ := chk_K h
      try simp only [Nat.reduceLeDiff] at p7
      try simp only [go_sem, Int.reduceLT, Int.reduceLE, Int.reduceBEq, Int.reduceBNe, Nat.reduceBNe, Nat.reduceAdd, Nat.reduceMul, Nat.reduceEqDiff, Nat.reduceLeDiff, Nat.reduceLT, Nat.reduceBEq, reduceCtorEq, reduceIte, hx2, lt_t hx2, lt_p hx2, nat_in (lt_n hx2) hlhx2, c6, p7, g5_0, g5_1, g5_5, g5_6, g5_7, og5_0]
      refine ⟨_, [], [321], (Option.some.inj h).symm, by decide, ?_⟩
      try simp only [go_sem, Int.reduceLT, Int.reduceLE, Int.reduceBEq, Int.reduceBNe, Nat.reduceBNe, Nat.reduceAdd, Nat.reduceMul, Nat.reduceEqDiff, Nat.reduceLeDiff, Nat.reduceLT, Nat.reduceBEq, reduceCtorEq, reduceIte, hx2, lt_t hx2, lt_p hx2, nat_in (lt_n hx2) hlhx2, c6, p7, g5_0, g5_1, g5_5, g5_6, g5_7, og5_0, IV, sts_cons, sts_nil, obs_cons, obs_nil]
    · try simp only [go_sem, Int.reduceLT, Int.reduceLE, Int.reduceBEq, Int.reduceBNe, Nat.reduceBNe, Nat.reduceAdd, Nat.reduceMul, Nat.reduceEqDiff, Nat.reduceLeDiff, Nat.reduceLT, Nat.reduceBEq, reduceCtorEq, reduceIte, hx2, lt_t hx2, lt_p hx2, nat_in (lt_n hx2) hlhx2, c6, g5_0, g5_1, g5_5, g5_6, g5_7, og5_0]
      refine ite_K h (fun c8 h => ?_) (fun c8 h => ?_)
      · obtain ⟨p9, h⟩ := chk_K h
        try simp only [Nat.reduceLeDiff] at p9
        try simp only [go_sem, Int.reduceLT, Int.reduceLE, Int.reduceBEq, Int.reduceBNe, Nat.reduceBNe, Nat.reduceAdd, Nat.reduceMul, Nat.reduceEqDiff, Nat.reduceLeDiff, Nat.reduceLT, Nat.reduceBEq, reduceCtorEq, reduceIte, hx2, lt_t hx2, lt_p hx2, nat_in (lt_n hx2) hlhx2, c6, c8, p9, g5_0, g5_1, g5_5, g5_6, g5_7, og5_0]
        refine ⟨_, [], [321], (Option.some.inj h).symm, by decide, ?_⟩
        try simp only [go_sem, Int.reduceLT, Int.reduceLE, Int.reduceBEq, Int.reduceBNe, Nat.reduceBNe, Nat.reduceAdd, Nat.reduceMul, Nat.reduceEqDiff, Nat.reduceLeDiff, Nat.reduceLT, Nat.reduceBEq, reduceCtorEq, reduceIte, hx2, lt_t hx2, lt_p hx2, nat_in (lt_n hx2) hlhx2, c6, c8, p9, g5_0, g5_1, g5_5, g5_6, g5_7, og5_0, IV, sts_cons, sts_nil, obs_cons, obs_nil]
      · try simp only [go_sem, Int.reduceLT, Int.reduceLE, Int.reduceBEq, Int.reduceBNe, Nat.reduceBNe, Nat.reduceAdd, Nat.reduceMul, Nat.reduceEqDiff, Nat.reduceLeDiff, Nat.reduceLT, Nat.reduceBEq, reduceCtorEq, reduceIte, hx2, lt_t hx2, lt_p hx2, nat_in (lt_n hx2) hlhx2, c6, c8, g5_0, g5_1, g5_5, g5_6, g5_7, og5_0]
        refine ite_K h (fun c10 h => ?_) (fun c10 h => ?_)
        · obtain ⟨p11, h⟩ := chk_K h
          try simp only [Nat.reduceLeDiff] at p11
          try simp only [go_sem, Int.reduceLT, Int.reduceLE, Int.reduceBEq, Int.reduceBNe, Nat.reduceBNe, Nat.reduceAdd, Nat.reduceMul, Nat.reduceEqDiff, Nat.reduceLeDiff, Nat.reduceLT, Nat.reduceBEq, reduceCtorEq, reduceIte, hx2, lt_t hx2, lt_p hx2, nat_in (lt_n hx2) hlhx2, c6, c8, c10, p11, g5_0, g5_1, g5_5, g5_6, g5_7, og5_0]
          refine ⟨_, [], [433], (Option.some.inj h).symm, by decide, ?_⟩
          try simp only [go_sem, Int.reduceLT, Int.reduceLE, Int.reduceBEq, Int.reduceBNe, Nat.reduceBNe, Nat.reduceAdd, Nat.reduceMul, Nat.reduceEqDiff, Nat.reduceLeDiff, Nat.reduceLT, Nat.reduceBEq, reduceCtorEq, reduceIte, hx2, lt_t hx2, lt_p hx2, nat_in (lt_n hx2) hlhx2, c6, c8, c10, p11, g5_0, g5_1, g5_5, g5_6, g5_7, og5_0, IV, sts_cons, sts_nil, obs_cons, obs_nil]
        · obtain ⟨p12, h⟩ := chk_K h
          try simp only [Nat.reduceLeDiff] at p12
          obtain ⟨p13, h⟩ := chk_K h
          try simp only [Nat.reduceLeDiff] at p13
          try simp only [go_sem, Int.reduceLT, Int.reduceLE, Int.reduceBEq, Int.reduceBNe, Nat.reduceBNe, Nat.reduceAdd, Nat.reduceMul, Nat.reduceEqDiff, Nat.reduceLeDiff, Nat.reduceLT, Nat.reduceBEq, reduceCtorEq, reduceIte, hx2, lt_t hx2, lt_p hx2, nat_in (lt_n hx2) hlhx2, c6, c8, c10, p12, p13, g5_0, g5_1, g5_5, g5_6, g5_7, og5_0]
          refine ⟨_, [], [513], (Option.some.inj h).symm, by decide, ?_⟩
          try simp only [go_sem, Int.reduceLT, Int.reduceLE, Int.reduceBEq, Int.reduceBNe, Nat.reduceBNe, Nat.reduceAdd, Nat.reduceMul, Nat.reduceEqDiff, Nat.reduceLeDiff, Nat.reduceLT, Nat.reduceBEq, reduceCtorEq, reduceIte, hx2, lt_t hx2, lt_p hx2, nat_in (lt_n hx2) hlhx2, c6, c8, c10, p12, p13, g5_0, g5_1, g5_5, g5_6, g5_7, og5_0, IV, sts_cons, sts_nil, obs_cons, obs_nil]
  · rintro ⟨row_2, done_5⟩ ⟨sl, ob, n⟩ hI14 hW15 h
    simp only [IV, sts_cons, sts_nil, obs_cons, obs_nil, and_true, true_and, Nat.reduceAdd, str_len] at hI14
    obtain ⟨⟨g16_0, g16_1, g16_5, g16_6, g16_7⟩, og16_0, hn⟩ := hI14
    subst hn
    try simp only [go_sem, Int.reduceLT, Int.reduceLE, Int.reduceBEq, Int.reduceBNe, Nat.reduceBNe, Nat.reduceAdd, Nat.reduceMul, Nat.reduceEqDiff, Nat.reduceLeDiff, Nat.reduceLT, Nat.reduceBEq, reduceCtorEq, reduceIte, lt_f (l_0.length), g16_0, g16_1, g16_5, g16_6, g16_7, og16_0]
    refine ite_K h (fun c17 h => ?_) (fun c17 h => ?_)
    · obtain rfl := Option.some.inj h
      try simp only [go_sem, Int.reduceLT, Int.reduceLE, Int.reduceBEq, Int.reduceBNe, Nat.reduceBNe, Nat.reduceAdd, Nat.reduceMul, Nat.reduceEqDiff, Nat.reduceLeDiff, Nat.reduceLT, Nat.reduceBEq, reduceCtorEq, reduceIte, lt_f (l_0.length), c17, g16_0, g16_1, g16_5, g16_6, g16_7, og16_0]
    · obtain ⟨p18, h⟩ := chk_K h
      try simp only [Nat.reduceLeDiff] at p18
      obtain rfl := Option.some.inj h
      try simp only [go_sem, Int.reduceLT, Int.reduceLE, Int.reduceBEq, Int.reduceBNe, Nat.reduceBNe, Nat.reduceAdd, Nat.reduceMul, Nat.reduceEqDiff, Nat.reduceLeDiff, Nat.reduceLT, Nat.reduceBEq, reduceCtorEq, reduceIte, lt_f (l_0.length), c17, p18, g16_0, g16_1, g16_5, g16_6, g16_7, og16_0]
theorem i_SortedTexts_ok {l_0 : (List ByteArray)} {r : (List ByteArray)} (h : i_SortedTexts l_0 = some r) : Sound Try.prog J0 55 [(false, [.sl 9 1 (List.map eStr l_0)])] [(false, [(false, .sl 9 1 (List.map eStr r))])] := by
  refine fnk Try.func55 (by kernel_rfl) rfl (by kernel_rfl) (by kernel_rfl) ?_
  unfold i_SortedTexts at h
  simp only [fnS, f55, argSt, go_sem, Int.reduceLT, Int.reduceLE, Int.reduceBEq, Int.reduceBNe, Nat.reduceBNe, Nat.reduceAdd, Nat.reduceMul, Nat.reduceEqDiff, Nat.reduceLeDiff, Nat.reduceLT, Nat.reduceBEq, reduceCtorEq, reduceIte]
  obtain ⟨p1, h⟩ := chk_K h
  try simp only [Nat.reduceLeDiff] at p1
  try simp only [go_sem, Int.reduceLT, Int.reduceLE, Int.reduceBEq, Int.reduceBNe, Nat.reduceBNe, Nat.reduceAdd, Nat.reduceMul, Nat.reduceEqDiff, Nat.reduceLeDiff, Nat.reduceLT, Nat.reduceBEq, reduceCtorEq, reduceIte, p1]
  obtain ⟨v1, e2, h⟩ := bind_K h
  refine hand_K (by first | exact x_sortStrings_ok e2 | simpa only [go_sem, Int.reduceLT, Int.reduceLE, Int.reduceBEq, Int.reduceBNe, Nat.reduceBNe, Nat.reduceAdd, Nat.reduceMul, Nat.reduceEqDiff, Nat.reduceLeDiff, Nat.reduceLT, Nat.reduceBEq, reduceCtorEq, reduceIte, p1] using x_sortStrings_ok e2) ?_
  try simp only [go_sem, Int.reduceLT, Int.reduceLE, Int.reduceBEq, Int.reduceBNe, Nat.reduceBNe, Nat.reduceAdd, Nat.reduceMul, Nat.reduceEqDiff, Nat.reduceLeDiff, Nat.reduceLT, Nat.reduceBEq, reduceCtorEq, reduceIte, p1]
  refine swp_for h (fun i row_4 st => IV [(3, .p false [.row 0]), (4, .p false [.row 1]), (11, .p false [.row 0]), (12, .p false [.c (.int .i64 ((v1.length : Nat) : Int))]), (13, .p false [.c (.int .i64 ((i : Nat) : Int))])] [.row 9 1 (List.map eStr v1) 2, .row 9 1 (List.map eStr row_4) 2] st) [(false, 4, 0)] [32, 160] (by decide) ?_ ?_ ?_
  · simp only [go_sem, Int.reduceLT, Int.reduceLE, Int.reduceBEq, Int.reduceBNe, Nat.reduceBNe, Nat.reduceAdd, Nat.reduceMul, Nat.reduceEqDiff, Nat.reduceLeDiff, Nat.reduceLT, Nat.reduceBEq, reduceCtorEq, reduceIte, IV, sts_cons, sts_nil, obs_cons, obs_nil, p1]
  · rintro i8 x9 row_4 ⟨sl, ob, n⟩ y3 hx4 hI5 hW6 h hy3
    simp only [IV, sts_cons, sts_nil, obs_cons, obs_nil, and_true, true_and, Nat.reduceAdd, str_len] at hI5
    obtain ⟨⟨g7_3, g7_4, g7_11, g7_12, g7_13⟩, og7_0, og7_1, hn⟩ := hI5
    subst hn
    have hlhx4 := WF.rowL hW6 og7_0
    try simp only [go_sem, Int.reduceLT, Int.reduceLE, Int.reduceBEq, Int.reduceBNe, Nat.reduceBNe, Nat.reduceAdd, Nat.reduceMul, Nat.reduceEqDiff, Nat.reduceLeDiff, Nat.reduceLT, Nat.reduceBEq, reduceCtorEq, reduceIte, p1, hx4, lt_t hx4, lt_p hx4, nat_in (lt_n hx4) hlhx4, g7_3, g7_4, g7_11, g7_12, g7_13, og7_0, og7_1]
    refine ite_K h (fun c8 h => ?_) (fun c8 h => ?_)
    · obtain ⟨p9, h⟩ := chk_K h
      try simp only [Nat.reduceLeDiff] at p9
      try simp only [go_sem, Int.reduceLT, Int.reduceLE, Int.reduceBEq, Int.reduceBNe, Nat.reduceBNe, Nat.reduceAdd, Nat.reduceMul, Nat.reduceEqDiff, Nat.reduceLeDiff, Nat.reduceLT, Nat.reduceBEq, reduceCtorEq, reduceIte, p1, hx4, lt_t hx4, lt_p hx4, nat_in (lt_n hx4) hlhx4, c8, p9, g7_3, g7_4, g7_11, g7_12, g7_13, og7_0, og7_1]
      refine ⟨_, [], [0, 322], (Option.some.inj h).symm, by decide, ?_⟩
      try simp only [go_sem, Int.reduceLT, Int.reduceLE, Int.reduceBEq, Int.reduceBNe, Nat.reduceBNe, Nat.reduceAdd, Nat.reduceMul, Nat.reduceEqDiff, Nat.reduceLeDiff, Nat.reduceLT, Nat.reduceBEq, reduceCtorEq, reduceIte, p1, hx4, lt_t hx4, lt_p hx4, nat_in (lt_n hx4) hlhx4, c8, p9, g7_3, g7_4, g7_11, g7_12, g7_13, og7_0, og7_1, IV, sts_cons, sts_nil, obs_cons, obs_nil]
    · obtain ⟨p10, h⟩ := chk_K h
      obtain ⟨x10, e11, h⟩ := bind_K h
      try simp only [go_sem, Int.reduceLT, Int.reduceLE, Int.reduceBEq, Int.reduceBNe, Nat.reduceBNe, Nat.reduceAdd, Nat.reduceMul, Nat.reduceEqDiff, Nat.reduceLeDiff, Nat.reduceLT, Nat.reduceBEq, reduceCtorEq, reduceIte, p1, hx4, lt_t hx4, lt_p hx4, nat_in (lt_n hx4) hlhx4, c8, p10.1, p10.2, e11, g7_3, g7_4, g7_11, g7_12, g7_13, og7_0, og7_1]
      refine ite_K h (fun c12 h => ?_) (fun c12 h => ?_)
      · try simp only [go_sem, Int.reduceLT, Int.reduceLE, Int.reduceBEq, Int.reduceBNe, Nat.reduceBNe, Nat.reduceAdd, Nat.reduceMul, Nat.reduceEqDiff, Nat.reduceLeDiff, Nat.reduceLT, Nat.reduceBEq, reduceCtorEq, reduceIte, p1, hx4, lt_t hx4, lt_p hx4, nat_in (lt_n hx4) hlhx4, c8, p10.1, p10.2, e11, c12, g7_3, g7_4, g7_11, g7_12, g7_13, og7_0, og7_1]
        refine ⟨_, [], [0, 1], (Option.some.inj h).symm, by decide, ?_⟩
        try simp only [go_sem, Int.reduceLT, Int.reduceLE, Int.reduceBEq, Int.reduceBNe, Nat.reduceBNe, Nat.reduceAdd, Nat.reduceMul, Nat.reduceEqDiff, Nat.reduceLeDiff, Nat.reduceLT, Nat.reduceBEq, reduceCtorEq, reduceIte, p1, hx4, lt_t hx4, lt_p hx4, nat_in (lt_n hx4) hlhx4, c8, p10.1, p10.2, e11, c12, g7_3, g7_4, g7_11, g7_12, g7_13, og7_0, og7_1, IV, sts_cons, sts_nil, obs_cons, obs_nil]
      · obtain ⟨p13, h⟩ := chk_K h
        try simp only [Nat.reduceLeDiff] at p13
        try simp only [go_sem, Int.reduceLT, Int.reduceLE, Int.reduceBEq, Int.reduceBNe, Nat.reduceBNe, Nat.reduceAdd, Nat.reduceMul, Nat.reduceEqDiff, Nat.reduceLeDiff, Nat.reduceLT, Nat.reduceBEq, reduceCtorEq, reduceIte, p1, hx4, lt_t hx4, lt_p hx4, nat_in (lt_n hx4) hlhx4, c8, p10.1, p10.2, e11, c12, p13, g7_3, g7_4, g7_11, g7_12, g7_13, og7_0, og7_1]
        refine ⟨_, [], [0, 322], (Option.some.inj h).symm, by decide, ?_⟩
        try simp only [go_sem, Int.reduceLT, Int.reduceLE, Int.reduceBEq, Int.reduceBNe, Nat.reduceBNe, Nat.reduceAdd, Nat.reduceMul, Nat.reduceEqDiff, Nat.reduceLeDiff, Nat.reduceLT, Nat.reduceBEq, reduceCtorEq, reduceIte, p1, hx4, lt_t hx4, lt_p hx4, nat_in (lt_n hx4) hlhx4, c8, p10.1, p10.2, e11, c12, p13, g7_3, g7_4, g7_11, g7_12, g7_13, og7_0, og7_1, IV, sts_cons, sts_nil, obs_cons, obs_nil]
  · rintro row_4 ⟨sl, ob, n⟩ hI14 hW15 h
    simp only [IV, sts_cons, sts_nil, obs_cons, obs_nil, and_true, true_and, Nat.reduceAdd, str_len] at hI14
    obtain ⟨⟨g16_3, g16_4, g16_11, g16_12, g16_13⟩, og16_0, og16_1, hn⟩ := hI14
    subst hn
    obtain rfl := Option.some.inj h
    try simp only [go_sem, Int.reduceLT, Int.reduceLE, Int.reduceBEq, Int.reduceBNe, Nat.reduceBNe, Nat.reduceAdd, Nat.reduceMul, Nat.reduceEqDiff, Nat.reduceLeDiff, Nat.reduceLT, Nat.reduceBEq, reduceCtorEq, reduceIte, p1, lt_f (v1.length), g16_3, g16_4, g16_11, g16_12, g16_13, og16_0, og16_1]
theorem s_l1HasText_ok {l_0 : (List ByteArray)} {s_1 : ByteArray} {r : Bool} (h : s_l1HasText l_0 s_1 = some r) : Sound Try.prog J0 58 [(false, [.sl 9 1 (List.map eStr l_0)]), (false, [.str s_1])] [(false, [(false, .bool r)])] := by
  refine fnk Try.func58 (by kernel_rfl) rfl (by kernel_rfl) (by kernel_rfl) ?_
  unfold s_l1HasText at h
  simp only [fnS, f58, argSt, go_sem, Int.reduceLT, Int.reduceLE, Int.reduceBEq, Int.reduceBNe, Nat.reduceBNe, Nat.reduceAdd, Nat.reduceMul, Nat.reduceEqDiff, Nat.reduceLeDiff, Nat.reduceLT, Nat.reduceBEq, reduceCtorEq, reduceIte]
  refine swp_for h (fun i _ st => IV [(0, .p false [.c (.sl 9 1 (List.map eStr l_0))]), (1, .p false [.c (.str s_1)]), (5, .p false [.c (.int .i64 ((i : Nat) : Int))])] [] st) [] [] (by decide) ?_ ?_ ?_
  · simp only [go_sem, Int.reduceLT, Int.reduceLE, Int.reduceBEq, Int.reduceBNe, Nat.reduceBNe, Nat.reduceAdd, Nat.reduceMul, Nat.reduceEqDiff, Nat.reduceLeDiff, Nat.reduceLT, Nat.reduceBEq, reduceCtorEq, reduceIte, IV, sts_cons, sts_nil, obs_cons, obs_nil]
  · rintro i4 x5 ⟨⟩ ⟨sl, ob, n⟩ y1 hx2 hI3 hW4 h hy1
    simp only [IV, sts_cons, sts_nil, obs_cons, obs_nil, and_true, true_and, Nat.reduceAdd, str_len] at hI3
    obtain ⟨⟨g5_0, g5_1, g5_5⟩, hn⟩ := hI3
    subst hn
    have hlhx2 := WF.slotL hW4 g5_0 (j := 0) rfl
    try simp only [go_sem, Int.reduceLT, Int.reduceLE, Int.reduceBEq, Int.reduceBNe, Nat.reduceBNe, Nat.reduceAdd, Nat.reduceMul, Nat.reduceEqDiff, Nat.reduceLeDiff, Nat.reduceLT, Nat.reduceBEq, reduceCtorEq, reduceIte, hx2, lt_t hx2, lt_p hx2, nat_in (lt_n hx2) hlhx2, g5_0, g5_1, g5_5]
    refine ite_K h (fun c6 h => ?_) (fun c6 h => ?_)
    · replace h := inr_K h hy1
      obtain rfl := Option.some.inj h
      try simp only [go_sem, Int.reduceLT, Int.reduceLE, Int.reduceBEq, Int.reduceBNe, Nat.reduceBNe, Nat.reduceAdd, Nat.reduceMul, Nat.reduceEqDiff, Nat.reduceLeDiff, Nat.reduceLT, Nat.reduceBEq, reduceCtorEq, reduceIte, hx2, lt_t hx2, lt_p hx2, nat_in (lt_n hx2) hlhx2, c6, g5_0, g5_1, g5_5]
    · try simp only [go_sem, Int.reduceLT, Int.reduceLE, Int.reduceBEq, Int.reduceBNe, Nat.reduceBNe, Nat.reduceAdd, Nat.reduceMul, Nat.reduceEqDiff, Nat.reduceLeDiff, Nat.reduceLT, Nat.reduceBEq, reduceCtorEq, reduceIte, hx2, lt_t hx2, lt_p hx2, nat_in (lt_n hx2) hlhx2, c6, g5_0, g5_1, g5_5]
      refine ⟨_, [], [], (Option.some.inj h).symm, by decide, ?_⟩
      try simp only [go_sem, Int.reduceLT, Int.reduceLE, Int.reduceBEq, Int.reduceBNe, Nat.reduceBNe, Nat.reduceAdd, Nat.reduceMul, Nat.reduceEqDiff, Nat.reduceLeDiff, Nat.reduceLT, Nat.reduceBEq, reduceCtorEq, reduceIte, hx2, lt_t hx2, lt_p hx2, nat_in (lt_n hx2) hlhx2, c6, g5_0, g5_1, g5_5, IV, sts_cons, sts_nil, obs_cons, obs_nil]
  · rintro ⟨⟩ ⟨sl, ob, n⟩ hI7 hW8 h
    simp only [IV, sts_cons, sts_nil, obs_cons, obs_nil, and_true, true_and, Nat.reduceAdd, str_len] at hI7
    obtain ⟨⟨g9_0, g9_1, g9_5⟩, hn⟩ := hI7
    subst hn
    obtain rfl := Option.some.inj h
    try simp only [go_sem, Int.reduceLT, Int.reduceLE, Int.reduceBEq, Int.reduceBNe, Nat.reduceBNe, Nat.reduceAdd, Nat.reduceMul, Nat.reduceEqDiff, Nat.reduceLeDiff, Nat.reduceLT, Nat.reduceBEq, reduceCtorEq, reduceIte, lt_f (l_0.length), g9_0, g9_1, g9_5]
theorem i_hasText_ok {l_0 : (List ByteArray)} {s_1 : ByteArray} {r : Bool} (h : i_hasText l_0 s_1 = some r) : Sound Try.prog J0 94 [(false, [.sl 9 1 (List.map eStr l_0)]), (false, [.str s_1])] [(false, [(false, .bool r)])] := by
  refine fnk Try.func94 (by kernel_rfl) rfl (by kernel_rfl) (by kernel_rfl) ?_
  unfold i_hasText at h
  simp only [fnS, f94, argSt, go_sem, Int.reduceLT, Int.reduceLE, Int.reduceBEq, Int.reduceBNe, Nat.reduceBNe, Nat.reduceAdd, Nat.reduceMul, Nat.reduceEqDiff, Nat.reduceLeDiff, Nat.reduceLT, Nat.reduceBEq, reduceCtorEq, reduceIte]
  refine swp_for h (fun i _ st => IV [(1, .p false [.c (.str s_1)]), (7, .p false [.c (.sl 9 1 (List.map eStr l_0))]), (8, .p false [.c (.int .i64 ((l_0.length : Nat) : Int))]), (9, .p false [.c (.int .i64 ((i : Nat) : Int))])] [] st) [] [] (by decide) ?_ ?_ ?_
  · simp only [go_sem, Int.reduceLT, Int.reduceLE, Int.reduceBEq, Int.reduceBNe, Nat.reduceBNe, Nat.reduceAdd, Nat.reduceMul, Nat.reduceEqDiff, Nat.reduceLeDiff, Nat.reduceLT, Nat.reduceBEq, reduceCtorEq, reduceIte, IV, sts_cons, sts_nil, obs_cons, obs_nil]
  · rintro i4 x5 ⟨⟩ ⟨sl, ob, n⟩ y1 hx2 hI3 hW4 h hy1
    simp only [IV, sts_cons, sts_nil, obs_cons, obs_nil, and_true, true_and, Nat.reduceAdd, str_len] at hI3
    obtain ⟨⟨g5_1, g5_7, g5_8, g5_9⟩, hn⟩ := hI3
    subst hn
    have hlhx2 := WF.slotL hW4 g5_7 (j := 0) rfl
    try simp only [go_sem, Int.reduceLT, Int.reduceLE, Int.reduceBEq, Int.reduceBNe, Nat.reduceBNe, Nat.reduceAdd, Nat.reduceMul, Nat.reduceEqDiff, Nat.reduceLeDiff, Nat.reduceLT, Nat.reduceBEq, reduceCtorEq, reduceIte, hx2, lt_t hx2, lt_p hx2, nat_in (lt_n hx2) hlhx2, g5_1, g5_7, g5_8, g5_9]
    refine ite_K h (fun c6 h => ?_) (fun c6 h => ?_)
    · replace h := inr_K h hy1
      obtain rfl := Option.some.inj h
      try simp only [go_sem, Int.reduceLT, Int.reduceLE, Int.reduceBEq, Int.reduceBNe, Nat.reduceBNe, Nat.reduceAdd, Nat.reduceMul, Nat.reduceEqDiff, Nat.reduceLeDiff, Nat.reduceLT, Nat.reduceBEq, reduceCtorEq, reduceIte, hx2, lt_t hx2, lt_p hx2, nat_in (lt_n hx2) hlhx2, c6, g5_1, g5_7, g5_8, g5_9]
    · try simp only [go_sem, Int.reduceLT, Int.reduceLE, Int.reduceBEq, Int.reduceBNe, Nat.reduceBNe, Nat.reduceAdd, Nat.reduceMul, Nat.reduceEqDiff, Nat.reduceLeDiff, Nat.reduceLT, Nat.reduceBEq, reduceCtorEq, reduceIte, hx2, lt_t hx2, lt_p hx2, nat_in (lt_n hx2) hlhx2, c6, g5_1, g5_7, g5_8, g5_9]
      refine ⟨_, [], [], (Option.some.inj h).symm, by decide, ?_⟩
      try simp only [go_sem, Int.reduceLT, Int.reduceLE, Int.reduceBEq, Int.reduceBNe, Nat.reduceBNe, Nat.reduceAdd, Nat.reduceMul, Nat.reduceEqDiff, Nat.reduceLeDiff, Nat.reduceLT, Nat.reduceBEq, reduceCtorEq, reduceIte, hx2, lt_t hx2, lt_p hx2, nat_in (lt_n hx2) hlhx2, c6, g5_1, g5_7, g5_8, g5_9, IV, sts_cons, sts_nil, obs_cons, obs_nil]
  · rintro ⟨⟩ ⟨sl, ob, n⟩ hI7 hW8 h
    simp only [IV, sts_cons, sts_nil, obs_cons, obs_nil, and_true, true_and, Nat.reduceAdd, str_len] at hI7
    obtain ⟨⟨g9_1, g9_7, g9_8, g9_9⟩, hn⟩ := hI7
    subst hn
    obtain rfl := Option.some.inj h
    try simp only [go_sem, Int.reduceLT, Int.reduceLE, Int.reduceBEq, Int.reduceBNe, Nat.reduceBNe, Nat.reduceAdd, Nat.reduceMul, Nat.reduceEqDiff, Nat.reduceLeDiff, Nat.reduceLT, Nat.reduceBEq, reduceCtorEq, reduceIte, lt_f (l_0.length), g9_1, g9_7, g9_8, g9_9]
theorem s_l1In_ok {x_0 : Int} {least_1 : Int} {most_2 : Int} {r : Bool} (h : s_l1In x_0 least_1 most_2 = some r) : Sound Try.prog J0 112 [(false, [.int .i64 x_0]), (false, [.int .i64 least_1]), (false, [.int .i64 most_2])] [(false, [(false, .bool r)])] := by
  refine fnk Try.func112 (by kernel_rfl) rfl (by kernel_rfl) (by kernel_rfl) ?_
  unfold s_l1In at h
  simp only [fnS, f112, argSt, go_sem, Int.reduceLT, Int.reduceLE, Int.reduceBEq, Int.reduceBNe, Nat.reduceBNe, Nat.reduceAdd, Nat.reduceMul, Nat.reduceEqDiff, Nat.reduceLeDiff, Nat.reduceLT, Nat.reduceBEq, reduceCtorEq, reduceIte]
  refine ite_K h (fun c1 h => ?_) (fun c1 h => ?_)
  · obtain rfl := Option.some.inj h
    try simp only [go_sem, Int.reduceLT, Int.reduceLE, Int.reduceBEq, Int.reduceBNe, Nat.reduceBNe, Nat.reduceAdd, Nat.reduceMul, Nat.reduceEqDiff, Nat.reduceLeDiff, Nat.reduceLT, Nat.reduceBEq, reduceCtorEq, reduceIte, c1]
  · obtain rfl := Option.some.inj h
    try simp only [go_sem, Int.reduceLT, Int.reduceLE, Int.reduceBEq, Int.reduceBNe, Nat.reduceBNe, Nat.reduceAdd, Nat.reduceMul, Nat.reduceEqDiff, Nat.reduceLeDiff, Nat.reduceLT, Nat.reduceBEq, reduceCtorEq, reduceIte, c1]
end Go.Proofs.Ytccbhhglghboaaa

namespace Go.Proofs.Ytccbhhglghboaaa
open Go.Proofs.Try
set_option linter.unusedSimpArgs false
set_option linter.unusedVariables false
set_option maxRecDepth 1000000
set_option maxHeartbeats 4000000
theorem s_WritesOf_ok {r_0 : RuleD} {r : (List ByteArray)} (h : s_WritesOf r_0 = some r) : Sound Try.prog J0 59 [(true, eRule r_0)] [(false, [(false, .sl 9 1 (List.map eStr r))])] := by
  refine fnk Try.func59 (by kernel_rfl) rfl (by kernel_rfl) (by kernel_rfl) ?_
  unfold s_WritesOf at h
  simp only [fnS, f59, argSt, go_sem, Int.reduceLT, Int.reduceLE, Int.reduceBEq, Int.reduceBNe, Nat.reduceBNe, Nat.reduceAdd, Nat.reduceMul, Nat.reduceEqDiff, Nat.reduceLeDiff, Nat.reduceLT, Nat.reduceBEq, reduceCtorEq, reduceIte]
  refine swp_for h (fun i row_4 st => IV [(1, .bp 0 0), (3, .p false [.row 1]), (4, .p false [.c (.int .i64 ((i : Nat) : Int))])] [.box 75 [.c (.str r_0.name), .c (.int .i64 r_0.priority), .c (.sl 120 5 (List.map eCond r_0.cond)), .c (.sl 128 3 (List.map eAction r_0.thn))], .row 9 1 (List.map eStr row_4) 2] st) [] [0, 32] (by decide) ?_ ?_ ?_
  · simp only [go_sem, Int.reduceLT, Int.reduceLE, Int.reduceBEq, Int.reduceBNe, Nat.reduceBNe, Nat.reduceAdd, Nat.reduceMul, Nat.reduceEqDiff, Nat.reduceLeDiff, Nat.reduceLT, Nat.reduceBEq, reduceCtorEq, reduceIte, IV, sts_cons, sts_nil, obs_cons, obs_nil]
  · rintro i9 x10 row_4 ⟨sl, ob, n⟩ y1 hx2 hI3 hW4 h hy1
    simp only [IV, sts_cons, sts_nil, obs_cons, obs_nil, and_true, true_and, Nat.reduceAdd, str_len] at hI3
    obtain ⟨⟨g5_1, g5_3, g5_4⟩, og5_0, og5_1, hn⟩ := hI3
    subst hn
    have hlhx2 := WF.boxL hW4 og5_0 (j := 3) rfl
    try simp only [go_sem, Int.reduceLT, Int.reduceLE, Int.reduceBEq, Int.reduceBNe, Nat.reduceBNe, Nat.reduceAdd, Nat.reduceMul, Nat.reduceEqDiff, Nat.reduceLeDiff, Nat.reduceLT, Nat.reduceBEq, reduceCtorEq, reduceIte, hx2, lt_t hx2, lt_p hx2, nat_in (lt_n hx2) hlhx2, g5_1, g5_3, g5_4, og5_0, og5_1]
    refine ite_K h (fun c6 h => ?_) (fun c6 h => ?_)
    · try simp only [go_sem, Int.reduceLT, Int.reduceLE, Int.reduceBEq, Int.reduceBNe, Nat.reduceBNe, Nat.reduceAdd, Nat.reduceMul, Nat.reduceEqDiff, Nat.reduceLeDiff, Nat.reduceLT, Nat.reduceBEq, reduceCtorEq, reduceIte, hx2, lt_t hx2, lt_p hx2, nat_in (lt_n hx2) hlhx2, c6, g5_1, g5_3, g5_4, og5_0, og5_1]
      obtain ⟨v11, e7, h⟩ := bind_K h
      refine call_K (by first | exact s_l1Put_ok e7 | simpa only [go_sem, Int.reduceLT, Int.reduceLE, Int.reduceBEq, Int.reduceBNe, Nat.reduceBNe, Nat.reduceAdd, Nat.reduceMul, Nat.reduceEqDiff, Nat.reduceLeDiff, Nat.reduceLT, Nat.reduceBEq, reduceCtorEq, reduceIte, hx2, lt_t hx2, lt_p hx2, nat_in (lt_n hx2) hlhx2, c6, g5_1, g5_3, g5_4, og5_0, og5_1] using s_l1Put_ok e7) ?_
      try simp only [go_sem, Int.reduceLT, Int.reduceLE, Int.reduceBEq, Int.reduceBNe, Nat.reduceBNe, Nat.reduceAdd, Nat.reduceMul, Nat.reduceEqDiff, Nat.reduceLeDiff, Nat.reduceLT, Nat.reduceBEq, reduceCtorEq, reduceIte, hx2, lt_t hx2, lt_p hx2, nat_in (lt_n hx2) hlhx2, c6, g5_1, g5_3, g5_4, og5_0, og5_1]
      refine ⟨_, [], [0, 466], (Option.some.inj h).symm, by decide, ?_⟩
      try simp only [go_sem, Int.reduceLT, Int.reduceLE, Int.reduceBEq, Int.reduceBNe, Nat.reduceBNe, Nat.reduceAdd, Nat.reduceMul, Nat.reduceEqDiff, Nat.reduceLeDiff, Nat.reduceLT, Nat.reduceBEq, reduceCtorEq, reduceIte, hx2, lt_t hx2, lt_p hx2, nat_in (lt_n hx2) hlhx2, c6, g5_1, g5_3, g5_4, og5_0, og5_1, IV, sts_cons, sts_nil, obs_cons, obs_nil]
    · try simp only [go_sem, Int.reduceLT, Int.reduceLE, Int.reduceBEq, Int.reduceBNe, Nat.reduceBNe, Nat.reduceAdd, Nat.reduceMul, Nat.reduceEqDiff, Nat.reduceLeDiff, Nat.reduceLT, Nat.reduceBEq, reduceCtorEq, reduceIte, hx2, lt_t hx2, lt_p hx2, nat_in (lt_n hx2) hlhx2, c6, g5_1, g5_3, g5_4, og5_0, og5_1]
      refine ite_K h (fun c8 h => ?_) (fun c8 h => ?_)
      · try simp only [go_sem, Int.reduceLT, Int.reduceLE, Int.reduceBEq, Int.reduceBNe, Nat.reduceBNe, Nat.reduceAdd, Nat.reduceMul, Nat.reduceEqDiff, Nat.reduceLeDiff, Nat.reduceLT, Nat.reduceBEq, reduceCtorEq, reduceIte, hx2, lt_t hx2, lt_p hx2, nat_in (lt_n hx2) hlhx2, c6, c8, g5_1, g5_3, g5_4, og5_0, og5_1]
        obtain ⟨v12, e9, h⟩ := bind_K h
        refine call_K (by first | exact s_l1Put_ok e9 | simpa only [go_sem, Int.reduceLT, Int.reduceLE, Int.reduceBEq, Int.reduceBNe, Nat.reduceBNe, Nat.reduceAdd, Nat.reduceMul, Nat.reduceEqDiff, Nat.reduceLeDiff, Nat.reduceLT, Nat.reduceBEq, reduceCtorEq, reduceIte, hx2, lt_t hx2, lt_p hx2, nat_in (lt_n hx2) hlhx2, c6, c8, g5_1, g5_3, g5_4, og5_0, og5_1] using s_l1Put_ok e9) ?_
        try simp only [go_sem, Int.reduceLT, Int.reduceLE, Int.reduceBEq, Int.reduceBNe, Nat.reduceBNe, Nat.reduceAdd, Nat.reduceMul, Nat.reduceEqDiff, Nat.reduceLeDiff, Nat.reduceLT, Nat.reduceBEq, reduceCtorEq, reduceIte, hx2, lt_t hx2, lt_p hx2, nat_in (lt_n hx2) hlhx2, c6, c8, g5_1, g5_3, g5_4, og5_0, og5_1]
        refine ⟨_, [], [0, 466], (Option.some.inj h).symm, by decide, ?_⟩
        try simp only [go_sem, Int.reduceLT, Int.reduceLE, Int.reduceBEq, Int.reduceBNe, Nat.reduceBNe, Nat.reduceAdd, Nat.reduceMul, Nat.reduceEqDiff, Nat.reduceLeDiff, Nat.reduceLT, Nat.reduceBEq, reduceCtorEq, reduceIte, hx2, lt_t hx2, lt_p hx2, nat_in (lt_n hx2) hlhx2, c6, c8, g5_1, g5_3, g5_4, og5_0, og5_1, IV, sts_cons, sts_nil, obs_cons, obs_nil]
      · try simp only [go_sem, Int.reduceLT, Int.reduceLE, Int.reduceBEq, Int.reduceBNe, Nat.reduceBNe, Nat.reduceAdd, Nat.reduceMul, Nat.reduceEqDiff, Nat.reduceLeDiff, Nat.reduceLT, Nat.reduceBEq, reduceCtorEq, reduceIte, hx2, lt_t hx2, lt_p hx2, nat_in (lt_n hx2) hlhx2, c6, c8, g5_1, g5_3, g5_4, og5_0, og5_1]
        refine ⟨_, [], [0, 1], (Option.some.inj h).symm, by decide, ?_⟩
        try simp only [go_sem, Int.reduceLT, Int.reduceLE, Int.reduceBEq, Int.reduceBNe, Nat.reduceBNe, Nat.reduceAdd, Nat.reduceMul, Nat.reduceEqDiff, Nat.reduceLeDiff, Nat.reduceLT, Nat.reduceBEq, reduceCtorEq, reduceIte, hx2, lt_t hx2, lt_p hx2, nat_in (lt_n hx2) hlhx2, c6, c8, g5_1, g5_3, g5_4, og5_0, og5_1, IV, sts_cons, sts_nil, obs_cons, obs_nil]
  · rintro row_4 ⟨sl, ob, n⟩ hI10 hW11 h
    simp only [IV, sts_cons, sts_nil, obs_cons, obs_nil, and_true, true_and, Nat.reduceAdd, str_len] at hI10
    obtain ⟨⟨g12_1, g12_3, g12_4⟩, og12_0, og12_1, hn⟩ := hI10
    subst hn
    obtain rfl := Option.some.inj h
    try simp only [go_sem, Int.reduceLT, Int.reduceLE, Int.reduceBEq, Int.reduceBNe, Nat.reduceBNe, Nat.reduceAdd, Nat.reduceMul, Nat.reduceEqDiff, Nat.reduceLeDiff, Nat.reduceLT, Nat.reduceBEq, reduceCtorEq, reduceIte, lt_f (r_0.thn.length), g12_1, g12_3, g12_4, og12_0, og12_1]
theorem s_ReadsOf_ok {r_0 : RuleD} {r : (List ByteArray)} (h : s_ReadsOf r_0 = some r) : Sound Try.prog J0 60 [(true, eRule r_0)] [(false, [(false, .sl 9 1 (List.map eStr r))])] := by
  refine fnk Try.func60 (by kernel_rfl) rfl (by kernel_rfl) (by kernel_rfl) ?_
  unfold s_ReadsOf at h
  simp only [fnS, f60, argSt, go_sem, Int.reduceLT, Int.reduceLE, Int.reduceBEq, Int.reduceBNe, Nat.reduceBNe, Nat.reduceAdd, Nat.reduceMul, Nat.reduceEqDiff, Nat.reduceLeDiff, Nat.reduceLT, Nat.reduceBEq, reduceCtorEq, reduceIte]
  refine swp_for h (fun i row_4 st => IV [(1, .bp 0 0), (3, .p false [.row 1]), (4, .p false [.c (.int .i64 ((i : Nat) : Int))])] [.box 75 [.c (.str r_0.name), .c (.int .i64 r_0.priority), .c (.sl 120 5 (List.map eCond r_0.cond)), .c (.sl 128 3 (List.map eAction r_0.thn))], .row 9 1 (List.map eStr row_4) 2] st) [] [0, 32] (by decide) ?_ ?_ ?_
  · simp only [go_sem, Int.reduceLT, Int.reduceLE, Int.reduceBEq, Int.reduceBNe, Nat.reduceBNe, Nat.reduceAdd, Nat.reduceMul, Nat.reduceEqDiff, Nat.reduceLeDiff, Nat.reduceLT, Nat.reduceBEq, reduceCtorEq, reduceIte, IV, sts_cons, sts_nil, obs_cons, obs_nil]
  · rintro i9 x10 row_4 ⟨sl, ob, n⟩ y1 hx2 hI3 hW4 h hy1
    simp only [IV, sts_cons, sts_nil, obs_cons, obs_nil, and_true, true_and, Nat.reduceAdd, str_len] at hI3
    obtain ⟨⟨g5_1, g5_3, g5_4⟩, og5_0, og5_1, hn⟩ := hI3
    subst hn
    have hlhx2 := WF.boxL hW4 og5_0 (j := 2) rfl
    try simp only [go_sem, Int.reduceLT, Int.reduceLE, Int.reduceBEq, Int.reduceBNe, Nat.reduceBNe, Nat.reduceAdd, Nat.reduceMul, Nat.reduceEqDiff, Nat.reduceLeDiff, Nat.reduceLT, Nat.reduceBEq, reduceCtorEq, reduceIte, hx2, lt_t hx2, lt_p hx2, nat_in (lt_n hx2) hlhx2, g5_1, g5_3, g5_4, og5_0, og5_1]
    refine ite_K h (fun c6 h => ?_) (fun c6 h => ?_)
    · try simp only [go_sem, Int.reduceLT, Int.reduceLE, Int.reduceBEq, Int.reduceBNe, Nat.reduceBNe, Nat.reduceAdd, Nat.reduceMul, Nat.reduceEqDiff, Nat.reduceLeDiff, Nat.reduceLT, Nat.reduceBEq, reduceCtorEq, reduceIte, hx2, lt_t hx2, lt_p hx2, nat_in (lt_n hx2) hlhx2, c6, g5_1, g5_3, g5_4, og5_0, og5_1]
      obtain ⟨v11, e7, h⟩ := bind_K h
      refine call_K (by first | exact s_l1Put_ok e7 | simpa only [go_sem, Int.reduceLT, Int.reduceLE, Int.reduceBEq, Int.reduceBNe, Nat.reduceBNe, Nat.reduceAdd, Nat.reduceMul, Nat.reduceEqDiff, Nat.reduceLeDiff, Nat.reduceLT, Nat.reduceBEq, reduceCtorEq, reduceIte, hx2, lt_t hx2, lt_p hx2, nat_in (lt_n hx2) hlhx2, c6, g5_1, g5_3, g5_4, og5_0, og5_1] using s_l1Put_ok e7) ?_
      try simp only [go_sem, Int.reduceLT, Int.reduceLE, Int.reduceBEq, Int.reduceBNe, Nat.reduceBNe, Nat.reduceAdd, Nat.reduceMul, Nat.reduceEqDiff, Nat.reduceLeDiff, Nat.reduceLT, Nat.reduceBEq, reduceCtorEq, reduceIte, hx2, lt_t hx2, lt_p hx2, nat_in (lt_n hx2) hlhx2, c6, g5_1, g5_3, g5_4, og5_0, og5_1]
      refine ⟨_, [], [0, 466], (Option.some.inj h).symm, by decide, ?_⟩
      try simp only [go_sem, Int.reduceLT, Int.reduceLE, Int.reduceBEq, Int.reduceBNe, Nat.reduceBNe, Nat.reduceAdd, Nat.reduceMul, Nat.reduceEqDiff, Nat.reduceLeDiff, Nat.reduceLT, Nat.reduceBEq, reduceCtorEq, reduceIte, hx2, lt_t hx2, lt_p hx2, nat_in (lt_n hx2) hlhx2, c6, g5_1, g5_3, g5_4, og5_0, og5_1, IV, sts_cons, sts_nil, obs_cons, obs_nil]
    · try simp only [go_sem, Int.reduceLT, Int.reduceLE, Int.reduceBEq, Int.reduceBNe, Nat.reduceBNe, Nat.reduceAdd, Nat.reduceMul, Nat.reduceEqDiff, Nat.reduceLeDiff, Nat.reduceLT, Nat.reduceBEq, reduceCtorEq, reduceIte, hx2, lt_t hx2, lt_p hx2, nat_in (lt_n hx2) hlhx2, c6, g5_1, g5_3, g5_4, og5_0, og5_1]
      refine ite_K h (fun c8 h => ?_) (fun c8 h => ?_)
      · try simp only [go_sem, Int.reduceLT, Int.reduceLE, Int.reduceBEq, Int.reduceBNe, Nat.reduceBNe, Nat.reduceAdd, Nat.reduceMul, Nat.reduceEqDiff, Nat.reduceLeDiff, Nat.reduceLT, Nat.reduceBEq, reduceCtorEq, reduceIte, hx2, lt_t hx2, lt_p hx2, nat_in (lt_n hx2) hlhx2, c6, c8, g5_1, g5_3, g5_4, og5_0, og5_1]
        obtain ⟨v12, e9, h⟩ := bind_K h
        refine call_K (by first | exact s_l1Put_ok e9 | simpa only [go_sem, Int.reduceLT, Int.reduceLE, Int.reduceBEq, Int.reduceBNe, Nat.reduceBNe, Nat.reduceAdd, Nat.reduceMul, Nat.reduceEqDiff, Nat.reduceLeDiff, Nat.reduceLT, Nat.reduceBEq, reduceCtorEq, reduceIte, hx2, lt_t hx2, lt_p hx2, nat_in (lt_n hx2) hlhx2, c6, c8, g5_1, g5_3, g5_4, og5_0, og5_1] using s_l1Put_ok e9) ?_
        try simp only [go_sem, Int.reduceLT, Int.reduceLE, Int.reduceBEq, Int.reduceBNe, Nat.reduceBNe, Nat.reduceAdd, Nat.reduceMul, Nat.reduceEqDiff, Nat.reduceLeDiff, Nat.reduceLT, Nat.reduceBEq, reduceCtorEq, reduceIte, hx2, lt_t hx2, lt_p hx2, nat_in (lt_n hx2) hlhx2, c6, c8, g5_1, g5_3, g5_4, og5_0, og5_1]
        refine ⟨_, [], [0, 466], (Option.some.inj h).symm, by decide, ?_⟩
        try simp only [go_sem, Int.reduceLT, Int.reduceLE, Int.reduceBEq, Int.reduceBNe, Nat.reduceBNe, Nat.reduceAdd, Nat.reduceMul, Nat.reduceEqDiff, Nat.reduceLeDiff, Nat.reduceLT, Nat.reduceBEq, reduceCtorEq, reduceIte, hx2, lt_t hx2, lt_p hx2, nat_in (lt_n hx2) hlhx2, c6, c8, g5_1, g5_3, g5_4, og5_0, og5_1, IV, sts_cons, sts_nil, obs_cons, obs_nil]
      · try simp only [go_sem, Int.reduceLT, Int.reduceLE, Int.reduceBEq, Int.reduceBNe, Nat.reduceBNe, Nat.reduceAdd, Nat.reduceMul, Nat.reduceEqDiff, Nat.reduceLeDiff, Nat.reduceLT, Nat.reduceBEq, reduceCtorEq, reduceIte, hx2, lt_t hx2, lt_p hx2, nat_in (lt_n hx2) hlhx2, c6, c8, g5_1, g5_3, g5_4, og5_0, og5_1]
        refine ⟨_, [], [0, 1], (Option.some.inj h).symm, by decide, ?_⟩
        try simp only [go_sem, Int.reduceLT, Int.reduceLE, Int.reduceBEq, Int.reduceBNe, Nat.reduceBNe, Nat.reduceAdd, Nat.reduceMul, Nat.reduceEqDiff, Nat.reduceLeDiff, Nat.reduceLT, Nat.reduceBEq, reduceCtorEq, reduceIte, hx2, lt_t hx2, lt_p hx2, nat_in (lt_n hx2) hlhx2, c6, c8, g5_1, g5_3, g5_4, og5_0, og5_1, IV, sts_cons, sts_nil, obs_cons, obs_nil]
  · rintro row_4 ⟨sl, ob, n⟩ hI10 hW11 h
    simp only [IV, sts_cons, sts_nil, obs_cons, obs_nil, and_true, true_and, Nat.reduceAdd, str_len] at hI10
    obtain ⟨⟨g12_1, g12_3, g12_4⟩, og12_0, og12_1, hn⟩ := hI10
    subst hn
    obtain rfl := Option.some.inj h
    try simp only [go_sem, Int.reduceLT, Int.reduceLE, Int.reduceBEq, Int.reduceBNe, Nat.reduceBNe, Nat.reduceAdd, Nat.reduceMul, Nat.reduceEqDiff, Nat.reduceLeDiff, Nat.reduceLT, Nat.reduceBEq, reduceCtorEq, reduceIte, lt_f (r_0.cond.length), g12_1, g12_3, g12_4, og12_0, og12_1]
theorem i_WritesOf_ok {r_0 : RuleD} {r : (List ByteArray)} (h : i_WritesOf r_0 = some r) : Sound Try.prog J0 97 [(true, eRule r_0)] [(false, [(false, .sl 9 1 (List.map eStr r))])] := by
  refine fnk Try.func97 (by kernel_rfl) rfl (by kernel_rfl) (by kernel_rfl) ?_
  unfold i_WritesOf at h
  simp only [fnS, f97, argSt, go_sem, Int.reduceLT, Int.reduceLE, Int.reduceBEq, Int.reduceBNe, Nat.reduceBNe, Nat.reduceAdd, Nat.reduceMul, Nat.reduceEqDiff, Nat.reduceLeDiff, Nat.reduceLT, Nat.reduceBEq, reduceCtorEq, reduceIte]
  refine swp_for h (fun i row_3 st => IV [(3, .p false [.row 0]), (7, .p false [.c (.sl 128 3 (List.map eAction r_0.thn))]), (8, .p false [.c (.int .i64 ((r_0.thn.length : Nat) : Int))]), (9, .p false [.c (.int .i64 ((i : Nat) : Int))])] [.row 9 1 (List.map eStr row_3) 2] st) [(false, 3, 0)] [112] (by decide) ?_ ?_ ?_
  · simp only [go_sem, Int.reduceLT, Int.reduceLE, Int.reduceBEq, Int.reduceBNe, Nat.reduceBNe, Nat.reduceAdd, Nat.reduceMul, Nat.reduceEqDiff, Nat.reduceLeDiff, Nat.reduceLT, Nat.reduceBEq, reduceCtorEq, reduceIte, IV, sts_cons, sts_nil, obs_cons, obs_nil]
  · rintro i7 x8 row_3 ⟨sl, ob, n⟩ y1 hx2 hI3 hW4 h hy1
    simp only [IV, sts_cons, sts_nil, obs_cons, obs_nil, and_true, true_and, Nat.reduceAdd, str_len] at hI3
    obtain ⟨⟨g5_3, g5_7, g5_8, g5_9⟩, og5_0, hn⟩ := hI3
    subst hn
    have hlhx2 := WF.slotL hW4 g5_7 (j := 0) rfl
    try simp only [go_sem, Int.reduceLT, Int.reduceLE, Int.reduceBEq, Int.reduceBNe, Nat.reduceBNe, Nat.reduceAdd, Nat.reduceMul, Nat.reduceEqDiff, Nat.reduceLeDiff, Nat.reduceLT, Nat.reduceBEq, reduceCtorEq, reduceIte, hx2, lt_t hx2, lt_p hx2, nat_in (lt_n hx2) hlhx2, g5_3, g5_7, g5_8, g5_9, og5_0]
    refine ite_K h (fun c6 h => ?_) (fun c6 h => ?_)
    · obtain ⟨p7, h⟩ := chk_K h
      try simp only [Nat.reduceLeDiff] at p7
      try simp only [go_sem, Int.reduceLT, Int.reduceLE, Int.reduceBEq, Int.reduceBNe, Nat.reduceBNe, Nat.reduceAdd, Nat.reduceMul, Nat.reduceEqDiff, Nat.reduceLeDiff, Nat.reduceLT, Nat.reduceBEq, reduceCtorEq, reduceIte, hx2, lt_t hx2, lt_p hx2, nat_in (lt_n hx2) hlhx2, c6, p7, g5_3, g5_7, g5_8, g5_9, og5_0]
      refine ⟨_, [], [289], (Option.some.inj h).symm, by decide, ?_⟩
      try simp only [go_sem, Int.reduceLT, Int.reduceLE, Int.reduceBEq, Int.reduceBNe, Nat.reduceBNe, Nat.reduceAdd, Nat.reduceMul, Nat.reduceEqDiff, Nat.reduceLeDiff, Nat.reduceLT, Nat.reduceBEq, reduceCtorEq, reduceIte, hx2, lt_t hx2, lt_p hx2, nat_in (lt_n hx2) hlhx2, c6, p7, g5_3, g5_7, g5_8, g5_9, og5_0, IV, sts_cons, sts_nil, obs_cons, obs_nil]
    · try simp only [go_sem, Int.reduceLT, Int.reduceLE, Int.reduceBEq, Int.reduceBNe, Nat.reduceBNe, Nat.reduceAdd, Nat.reduceMul, Nat.reduceEqDiff, Nat.reduceLeDiff, Nat.reduceLT, Nat.reduceBEq, reduceCtorEq, reduceIte, hx2, lt_t hx2, lt_p hx2, nat_in (lt_n hx2) hlhx2, c6, g5_3, g5_7, g5_8, g5_9, og5_0]
      refine ite_K h (fun c8 h => ?_) (fun c8 h => ?_)
      · obtain ⟨p9, h⟩ := chk_K h
        try simp only [Nat.reduceLeDiff] at p9
        try simp only [go_sem, Int.reduceLT, Int.reduceLE, Int.reduceBEq, Int.reduceBNe, Nat.reduceBNe, Nat.reduceAdd, Nat.reduceMul, Nat.reduceEqDiff, Nat.reduceLeDiff, Nat.reduceLT, Nat.reduceBEq, reduceCtorEq, reduceIte, hx2, lt_t hx2, lt_p hx2, nat_in (lt_n hx2) hlhx2, c6, c8, p9, g5_3, g5_7, g5_8, g5_9, og5_0]
        refine ⟨_, [], [289], (Option.some.inj h).symm, by decide, ?_⟩
        try simp only [go_sem, Int.reduceLT, Int.reduceLE, Int.reduceBEq, Int.reduceBNe, Nat.reduceBNe, Nat.reduceAdd, Nat.reduceMul, Nat.reduceEqDiff, Nat.reduceLeDiff, Nat.reduceLT, Nat.reduceBEq, reduceCtorEq, reduceIte, hx2, lt_t hx2, lt_p hx2, nat_in (lt_n hx2) hlhx2, c6, c8, p9, g5_3, g5_7, g5_8, g5_9, og5_0, IV, sts_cons, sts_nil, obs_cons, obs_nil]
      · try simp only [go_sem, Int.reduceLT, Int.reduceLE, Int.reduceBEq, Int.reduceBNe, Nat.reduceBNe, Nat.reduceAdd, Nat.reduceMul, Nat.reduceEqDiff, Nat.reduceLeDiff, Nat.reduceLT, Nat.reduceBEq, reduceCtorEq, reduceIte, hx2, lt_t hx2, lt_p hx2, nat_in (lt_n hx2) hlhx2, c6, c8, g5_3, g5_7, g5_8, g5_9, og5_0]
        refine ⟨_, [], [0], (Option.some.inj h).symm, by decide, ?_⟩
        try simp only [go_sem, Int.reduceLT, Int.reduceLE, Int.reduceBEq, Int.reduceBNe, Nat.reduceBNe, Nat.reduceAdd, Nat.reduceMul, Nat.reduceEqDiff, Nat.reduceLeDiff, Nat.reduceLT, Nat.reduceBEq, reduceCtorEq, reduceIte, hx2, lt_t hx2, lt_p hx2, nat_in (lt_n hx2) hlhx2, c6, c8, g5_3, g5_7, g5_8, g5_9, og5_0, IV, sts_cons, sts_nil, obs_cons, obs_nil]
  · rintro row_3 ⟨sl, ob, n⟩ hI10 hW11 h
    simp only [IV, sts_cons, sts_nil, obs_cons, obs_nil, and_true, true_and, Nat.reduceAdd, str_len] at hI10
    obtain ⟨⟨g12_3, g12_7, g12_8, g12_9⟩, og12_0, hn⟩ := hI10
    subst hn
    try simp only [go_sem, Int.reduceLT, Int.reduceLE, Int.reduceBEq, Int.reduceBNe, Nat.reduceBNe, Nat.reduceAdd, Nat.reduceMul, Nat.reduceEqDiff, Nat.reduceLeDiff, Nat.reduceLT, Nat.reduceBEq, reduceCtorEq, reduceIte, lt_f (r_0.thn.length), g12_3, g12_7, g12_8, g12_9, og12_0]
    obtain ⟨v9, e13, h⟩ := bind_K h
    refine call_K (by first | exact i_SortedTexts_ok e13 | simpa only [go_sem, Int.reduceLT, Int.reduceLE, Int.reduceBEq, Int.reduceBNe, Nat.reduceBNe, Nat.reduceAdd, Nat.reduceMul, Nat.reduceEqDiff, Nat.reduceLeDiff, Nat.reduceLT, Nat.reduceBEq, reduceCtorEq, reduceIte, lt_f (r_0.thn.length), g12_3, g12_7, g12_8, g12_9, og12_0] using i_SortedTexts_ok e13) ?_
    obtain rfl := Option.some.inj h
    try simp only [go_sem, Int.reduceLT, Int.reduceLE, Int.reduceBEq, Int.reduceBNe, Nat.reduceBNe, Nat.reduceAdd, Nat.reduceMul, Nat.reduceEqDiff, Nat.reduceLeDiff, Nat.reduceLT, Nat.reduceBEq, reduceCtorEq, reduceIte, lt_f (r_0.thn.length), g12_3, g12_7, g12_8, g12_9, og12_0]
theorem i_ReadsOf_ok {r_0 : RuleD} {r : (List ByteArray)} (h : i_ReadsOf r_0 = some r) : Sound Try.prog J0 109 [(true, eRule r_0)] [(false, [(false, .sl 9 1 (List.map eStr r))])] := by
  refine fnk Try.func109 (by kernel_rfl) rfl (by kernel_rfl) (by kernel_rfl) ?_
  unfold i_ReadsOf at h
  simp only [fnS, f109, argSt, go_sem, Int.reduceLT, Int.reduceLE, Int.reduceBEq, Int.reduceBNe, Nat.reduceBNe, Nat.reduceAdd, Nat.reduceMul, Nat.reduceEqDiff, Nat.reduceLeDiff, Nat.reduceLT, Nat.reduceBEq, reduceCtorEq, reduceIte]
  refine swp_for h (fun i row_3 st => IV [(3, .p false [.row 0]), (7, .p false [.c (.sl 120 5 (List.map eCond r_0.cond))]), (8, .p false [.c (.int .i64 ((r_0.cond.length : Nat) : Int))]), (9, .p false [.c (.int .i64 ((i : Nat) : Int))])] [.row 9 1 (List.map eStr row_3) 2] st) [(false, 3, 0)] [112] (by decide) ?_ ?_ ?_
  · simp only [go_sem, Int.reduceLT, Int.reduceLE, Int.reduceBEq, Int.reduceBNe, Nat.reduceBNe, Nat.reduceAdd, Nat.reduceMul, Nat.reduceEqDiff, Nat.reduceLeDiff, Nat.reduceLT, Nat.reduceBEq, reduceCtorEq, reduceIte, IV, sts_cons, sts_nil, obs_cons, obs_nil]
  · rintro i7 x8 row_3 ⟨sl, ob, n⟩ y1 hx2 hI3 hW4 h hy1
    simp only [IV, sts_cons, sts_nil, obs_cons, obs_nil, and_true, true_and, Nat.reduceAdd, str_len] at hI3
    obtain ⟨⟨g5_3, g5_7, g5_8, g5_9⟩, og5_0, hn⟩ := hI3
    subst hn
    have hlhx2 := WF.slotL hW4 g5_7 (j := 0) rfl
    try simp only [go_sem, Int.reduceLT, Int.reduceLE, Int.reduceBEq, Int.reduceBNe, Nat.reduceBNe, Nat.reduceAdd, Nat.reduceMul, Nat.reduceEqDiff, Nat.reduceLeDiff, Nat.reduceLT, Nat.reduceBEq, reduceCtorEq, reduceIte, hx2, lt_t hx2, lt_p hx2, nat_in (lt_n hx2) hlhx2, g5_3, g5_7, g5_8, g5_9, og5_0]
    refine ite_K h (fun c6 h => ?_) (fun c6 h => ?_)
    · obtain ⟨p7, h⟩ := chk_K h
      try simp only [Nat.reduceLeDiff] at p7
      try simp only [go_sem, Int.reduceLT, Int.reduceLE, Int.reduceBEq, Int.reduceBNe, Nat.reduceBNe, Nat.reduceAdd, Nat.reduceMul, Nat.reduceEqDiff, Nat.reduceLeDiff, Nat.reduceLT, Nat.reduceBEq, reduceCtorEq, reduceIte, hx2, lt_t hx2, lt_p hx2, nat_in (lt_n hx2) hlhx2, c6, p7, g5_3, g5_7, g5_8, g5_9, og5_0]
      refine ⟨_, [], [289], (Option.some.inj h).symm, by decide, ?_⟩
      try simp only [go_sem, Int.reduceLT, Int.reduceLE, Int.reduceBEq, Int.reduceBNe, Nat.reduceBNe, Nat.reduceAdd, Nat.reduceMul, Nat.reduceEqDiff, Nat.reduceLeDiff, Nat.reduceLT, Nat.reduceBEq, reduceCtorEq, reduceIte, hx2, lt_t hx2, lt_p hx2, nat_in (lt_n hx2) hlhx2, c6, p7, g5_3, g5_7, g5_8, g5_9, og5_0, IV, sts_cons, sts_nil, obs_cons, obs_nil]
    · try simp only [go_sem, Int.reduceLT, Int.reduceLE, Int.reduceBEq, Int.reduceBNe, Nat.reduceBNe, Nat.reduceAdd, Nat.reduceMul, Nat.reduceEqDiff, Nat.reduceLeDiff, Nat.reduceLT, Nat.reduceBEq, reduceCtorEq, reduceIte, hx2, lt_t hx2, lt_p hx2, nat_in (lt_n hx2) hlhx2, c6, g5_3, g5_7, g5_8, g5_9, og5_0]
      refine ite_K h (fun c8 h => ?_) (fun c8 h => ?_)
      · obtain ⟨p9, h⟩ := chk_K h
        try simp only [Nat.reduceLeDiff] at p9
        try simp only [go_sem, Int.reduceLT, Int.reduceLE, Int.reduceBEq, Int.reduceBNe, Nat.reduceBNe, Nat.reduceAdd, Nat.reduceMul, Nat.reduceEqDiff, Nat.reduceLeDiff, Nat.reduceLT, Nat.reduceBEq, reduceCtorEq, reduceIte, hx2, lt_t hx2, lt_p hx2, nat_in (lt_n hx2) hlhx2, c6, c8, p9, g5_3, g5_7, g5_8, g5_9, og5_0]
        refine ⟨_, [], [289], (Option.some.inj h).symm, by decide, ?_⟩
        try simp only [go_sem, Int.reduceLT, Int.reduceLE, Int.reduceBEq, Int.reduceBNe, Nat.reduceBNe, Nat.reduceAdd, Nat.reduceMul, Nat.reduceEqDiff, Nat.reduceLeDiff, Nat.reduceLT, Nat.reduceBEq, reduceCtorEq, reduceIte, hx2, lt_t hx2, lt_p hx2, nat_in (lt_n hx2) hlhx2, c6, c8, p9, g5_3, g5_7, g5_8, g5_9, og5_0, IV, sts_cons, sts_nil, obs_cons, obs_nil]
      · try simp only [go_sem, Int.reduceLT, Int.reduceLE, Int.reduceBEq, Int.reduceBNe, Nat.reduceBNe, Nat.reduceAdd, Nat.reduceMul, Nat.reduceEqDiff, Nat.reduceLeDiff, Nat.reduceLT, Nat.reduceBEq, reduceCtorEq, reduceIte, hx2, lt_t hx2, lt_p hx2, nat_in (lt_n hx2) hlhx2, c6, c8, g5_3, g5_7, g5_8, g5_9, og5_0]
        refine ⟨_, [], [0], (Option.some.inj h).symm, by decide, ?_⟩
        try simp only [go_sem, Int.reduceLT, Int.reduceLE, Int.reduceBEq, Int.reduceBNe, Nat.reduceBNe, Nat.reduceAdd, Nat.reduceMul, Nat.reduceEqDiff, Nat.reduceLeDiff, Nat.reduceLT, Nat.reduceBEq, reduceCtorEq, reduceIte, hx2, lt_t hx2, lt_p hx2, nat_in (lt_n hx2) hlhx2, c6, c8, g5_3, g5_7, g5_8, g5_9, og5_0, IV, sts_cons, sts_nil, obs_cons, obs_nil]
  · rintro row_3 ⟨sl, ob, n⟩ hI10 hW11 h
    simp only [IV, sts_cons, sts_nil, obs_cons, obs_nil, and_true, true_and, Nat.reduceAdd, str_len] at hI10
    obtain ⟨⟨g12_3, g12_7, g12_8, g12_9⟩, og12_0, hn⟩ := hI10
    subst hn
    try simp only [go_sem, Int.reduceLT, Int.reduceLE, Int.reduceBEq, Int.reduceBNe, Nat.reduceBNe, Nat.reduceAdd, Nat.reduceMul, Nat.reduceEqDiff, Nat.reduceLeDiff, Nat.reduceLT, Nat.reduceBEq, reduceCtorEq, reduceIte, lt_f (r_0.cond.length), g12_3, g12_7, g12_8, g12_9, og12_0]
    obtain ⟨v9, e13, h⟩ := bind_K h
    refine call_K (by first | exact i_SortedTexts_ok e13 | simpa only [go_sem, Int.reduceLT, Int.reduceLE, Int.reduceBEq, Int.reduceBNe, Nat.reduceBNe, Nat.reduceAdd, Nat.reduceMul, Nat.reduceEqDiff, Nat.reduceLeDiff, Nat.reduceLT, Nat.reduceBEq, reduceCtorEq, reduceIte, lt_f (r_0.cond.length), g12_3, g12_7, g12_8, g12_9, og12_0] using i_SortedTexts_ok e13) ?_
    obtain rfl := Option.some.inj h
    try simp only [go_sem, Int.reduceLT, Int.reduceLE, Int.reduceBEq, Int.reduceBNe, Nat.reduceBNe, Nat.reduceAdd, Nat.reduceMul, Nat.reduceEqDiff, Nat.reduceLeDiff, Nat.reduceLT, Nat.reduceBEq, reduceCtorEq, reduceIte, lt_f (r_0.cond.length), g12_3, g12_7, g12_8, g12_9, og12_0]
end Go.Proofs.Ytccbhhglghboaaa

namespace Go.Proofs.Ytccbhhglghboaaa
open Go.Proofs.Try
set_option linter.unusedSimpArgs false
set_option linter.unusedVariables false
set_option maxRecDepth 1000000
set_option maxHeartbeats 4000000
theorem i_IsAtom_ok {s_0 : ByteArray} {r : Bool} (h : i_IsAtom s_0 = some r) : Sound Try.prog J0 171 [(false, [.str s_0])] [(false, [(false, .bool r)])] := by
  refine fnk Try.func171 (by kernel_rfl) rfl (by kernel_rfl) (by kernel_rfl) ?_
  unfold i_IsAtom at h
  simp only [fnS, f171, argSt, go_sem, Int.reduceLT, Int.reduceLE, Int.reduceBEq, Int.reduceBNe, Nat.reduceBNe, Nat.reduceAdd, Nat.reduceMul, Nat.reduceEqDiff, Nat.reduceLeDiff, Nat.reduceLT, Nat.reduceBEq, reduceCtorEq, reduceIte]
  refine ite_K h (fun c1 h => ?_) (fun c1 h => ?_)
  · obtain rfl := Option.some.inj h
    try simp only [go_sem, Int.reduceLT, Int.reduceLE, Int.reduceBEq, Int.reduceBNe, Nat.reduceBNe, Nat.reduceAdd, Nat.reduceMul, Nat.reduceEqDiff, Nat.reduceLeDiff, Nat.reduceLT, Nat.reduceBEq, reduceCtorEq, reduceIte, c1]
  · try simp only [go_sem, Int.reduceLT, Int.reduceLE, Int.reduceBEq, Int.reduceBNe, Nat.reduceBNe, Nat.reduceAdd, Nat.reduceMul, Nat.reduceEqDiff, Nat.reduceLeDiff, Nat.reduceLT, Nat.reduceBEq, reduceCtorEq, reduceIte, c1]
    refine ite_K h (fun c2 h => ?_) (fun c2 h => ?_)
    · obtain rfl := Option.some.inj h
      try simp only [go_sem, Int.reduceLT, Int.reduceLE, Int.reduceBEq, Int.reduceBNe, Nat.reduceBNe, Nat.reduceAdd, Nat.reduceMul, Nat.reduceEqDiff, Nat.reduceLeDiff, Nat.reduceLT, Nat.reduceBEq, reduceCtorEq, reduceIte, c1, c2]
    · try simp only [go_sem, Int.reduceLT, Int.reduceLE, Int.reduceBEq, Int.reduceBNe, Nat.reduceBNe, Nat.reduceAdd, Nat.reduceMul, Nat.reduceEqDiff, Nat.reduceLeDiff, Nat.reduceLT, Nat.reduceBEq, reduceCtorEq, reduceIte, c1, c2]
      refine swp_for h (fun i _ st => IV [(0, .p false [.c (.str s_0)]), (3, .p false [.c (.int .i64 ((i : Nat) : Int))])] [] st) [] [] (by decide) ?_ ?_ ?_
      · simp only [go_sem, Int.reduceLT, Int.reduceLE, Int.reduceBEq, Int.reduceBNe, Nat.reduceBNe, Nat.reduceAdd, Nat.reduceMul, Nat.reduceEqDiff, Nat.reduceLeDiff, Nat.reduceLT, Nat.reduceBEq, reduceCtorEq, reduceIte, IV, sts_cons, sts_nil, obs_cons, obs_nil, c1, c2]
      · rintro i4 x5 ⟨⟩ ⟨sl, ob, n⟩ y3 hx4 hI5 hW6 h hy3
        simp only [IV, sts_cons, sts_nil, obs_cons, obs_nil, and_true, true_and, Nat.reduceAdd, str_len] at hI5
        obtain ⟨⟨g7_0, g7_3⟩, hn⟩ := hI5
        subst hn
        have hlhx4 := WF.slotS hW6 g7_0 (j := 0) rfl
        try simp only [go_sem, Int.reduceLT, Int.reduceLE, Int.reduceBEq, Int.reduceBNe, Nat.reduceBNe, Nat.reduceAdd, Nat.reduceMul, Nat.reduceEqDiff, Nat.reduceLeDiff, Nat.reduceLT, Nat.reduceBEq, reduceCtorEq, reduceIte, c1, c2, str_at hx4, slt_t hx4, nat_in (slt_n hx4) hlhx4, g7_0, g7_3]
        refine ite_K h (fun c8 h => ?_) (fun c8 h => ?_)
        · try simp only [go_sem, Int.reduceLT, Int.reduceLE, Int.reduceBEq, Int.reduceBNe, Nat.reduceBNe, Nat.reduceAdd, Nat.reduceMul, Nat.reduceEqDiff, Nat.reduceLeDiff, Nat.reduceLT, Nat.reduceBEq, reduceCtorEq, reduceIte, c1, c2, str_at hx4, slt_t hx4, nat_in (slt_n hx4) hlhx4, c8, g7_0, g7_3]
          refine ite_K h (fun c9 h => ?_) (fun c9 h => ?_)
          · replace h := inr_K h hy3
            obtain rfl := Option.some.inj h
            try simp only [go_sem, Int.reduceLT, Int.reduceLE, Int.reduceBEq, Int.reduceBNe, Nat.reduceBNe, Nat.reduceAdd, Nat.reduceMul, Nat.reduceEqDiff, Nat.reduceLeDiff, Nat.reduceLT, Nat.reduceBEq, reduceCtorEq, reduceIte, c1, c2, str_at hx4, slt_t hx4, nat_in (slt_n hx4) hlhx4, c8, c9, g7_0, g7_3]
          · try simp only [go_sem, Int.reduceLT, Int.reduceLE, Int.reduceBEq, Int.reduceBNe, Nat.reduceBNe, Nat.reduceAdd, Nat.reduceMul, Nat.reduceEqDiff, Nat.reduceLeDiff, Nat.reduceLT, Nat.reduceBEq, reduceCtorEq, reduceIte, c1, c2, str_at hx4, slt_t hx4, nat_in (slt_n hx4) hlhx4, c8, c9, g7_0, g7_3]
            refine ite_K h (fun c10 h => ?_) (fun c10 h => ?_)
            · replace h := inr_K h hy3
              obtain rfl := Option.some.inj h
              try simp only [go_sem, Int.reduceLT, Int.reduceLE, Int.reduceBEq, Int.reduceBNe, Nat.reduceBNe, Nat.reduceAdd, Nat.reduceMul, Nat.reduceEqDiff, Nat.reduceLeDiff, Nat.reduceLT, Nat.reduceBEq, reduceCtorEq, reduceIte, c1, c2, str_at hx4, slt_t hx4, nat_in (slt_n hx4) hlhx4, c8, c9, c10, g7_0, g7_3]
            · try simp only [go_sem, Int.reduceLT, Int.reduceLE, Int.reduceBEq, Int.reduceBNe, Nat.reduceBNe, Nat.reduceAdd, Nat.reduceMul, Nat.reduceEqDiff, Nat.reduceLeDiff, Nat.reduceLT, Nat.reduceBEq, reduceCtorEq, reduceIte, c1, c2, str_at hx4, slt_t hx4, nat_in (slt_n hx4) hlhx4, c8, c9, c10, g7_0, g7_3]
              refine ⟨_, [], [], (Option.some.inj h).symm, by decide, ?_⟩
              try simp only [go_sem, Int.reduceLT, Int.reduceLE, Int.reduceBEq, Int.reduceBNe, Nat.reduceBNe, Nat.reduceAdd, Nat.reduceMul, Nat.reduceEqDiff, Nat.reduceLeDiff, Nat.reduceLT, Nat.reduceBEq, reduceCtorEq, reduceIte, c1, c2, str_at hx4, slt_t hx4, nat_in (slt_n hx4) hlhx4, c8, c9, c10, g7_0, g7_3, IV, sts_cons, sts_nil, obs_cons, obs_nil]
        · try simp only [go_sem, Int.reduceLT, Int.reduceLE, Int.reduceBEq, Int.reduceBNe, Nat.reduceBNe, Nat.reduceAdd, Nat.reduceMul, Nat.reduceEqDiff, Nat.reduceLeDiff, Nat.reduceLT, Nat.reduceBEq, reduceCtorEq, reduceIte, c1, c2, str_at hx4, slt_t hx4, nat_in (slt_n hx4) hlhx4, c8, g7_0, g7_3]
          refine ite_K h (fun c11 h => ?_) (fun c11 h => ?_)
          · try simp only [go_sem, Int.reduceLT, Int.reduceLE, Int.reduceBEq, Int.reduceBNe, Nat.reduceBNe, Nat.reduceAdd, Nat.reduceMul, Nat.reduceEqDiff, Nat.reduceLeDiff, Nat.reduceLT, Nat.reduceBEq, reduceCtorEq, reduceIte, c1, c2, str_at hx4, slt_t hx4, nat_in (slt_n hx4) hlhx4, c8, c11, g7_0, g7_3]
            refine ite_K h (fun c12 h => ?_) (fun c12 h => ?_)
            · replace h := inr_K h hy3
              obtain rfl := Option.some.inj h
              try simp only [go_sem, Int.reduceLT, Int.reduceLE, Int.reduceBEq, Int.reduceBNe, Nat.reduceBNe, Nat.reduceAdd, Nat.reduceMul, Nat.reduceEqDiff, Nat.reduceLeDiff, Nat.reduceLT, Nat.reduceBEq, reduceCtorEq, reduceIte, c1, c2, str_at hx4, slt_t hx4, nat_in (slt_n hx4) hlhx4, c8, c11, c12, g7_0, g7_3]
            · try simp only [go_sem, Int.reduceLT, Int.reduceLE, Int.reduceBEq, Int.reduceBNe, Nat.reduceBNe, Nat.reduceAdd, Nat.reduceMul, Nat.reduceEqDiff, Nat.reduceLeDiff, Nat.reduceLT, Nat.reduceBEq, reduceCtorEq, reduceIte, c1, c2, str_at hx4, slt_t hx4, nat_in (slt_n hx4) hlhx4, c8, c11, c12, g7_0, g7_3]
              refine ite_K h (fun c13 h => ?_) (fun c13 h => ?_)
              · replace h := inr_K h hy3
                obtain rfl := Option.some.inj h
                try simp only [go_sem, Int.reduceLT, Int.reduceLE, Int.reduceBEq, Int.reduceBNe, Nat.reduceBNe, Nat.reduceAdd, Nat.reduceMul, Nat.reduceEqDiff, Nat.reduceLeDiff, Nat.reduceLT, Nat.reduceBEq, reduceCtorEq, reduceIte, c1, c2, str_at hx4, slt_t hx4, nat_in (slt_n hx4) hlhx4, c8, c11, c12, c13, g7_0, g7_3]
              · try simp only [go_sem, Int.reduceLT, Int.reduceLE, Int.reduceBEq, Int.reduceBNe, Nat.reduceBNe, Nat.reduceAdd, Nat.reduceMul, Nat.reduceEqDiff, Nat.reduceLeDiff, Nat.reduceLT, Nat.reduceBEq, reduceCtorEq, reduceIte, c1, c2, str_at hx4, slt_t hx4, nat_in (slt_n hx4) hlhx4, c8, c11, c12, c13, g7_0, g7_3]
                refine ⟨_, [], [], (Option.some.inj h).symm, by decide, ?_⟩
                try simp only [go_sem, Int.reduceLT, Int.reduceLE, Int.reduceBEq, Int.reduceBNe, Nat.reduceBNe, Nat.reduceAdd, Nat.reduceMul, Nat.reduceEqDiff, Nat.reduceLeDiff, Nat.reduceLT, Nat.reduceBEq, reduceCtorEq, reduceIte, c1, c2, str_at hx4, slt_t hx4, nat_in (slt_n hx4) hlhx4, c8, c11, c12, c13, g7_0, g7_3, IV, sts_cons, sts_nil, obs_cons, obs_nil]
          · try simp only [go_sem, Int.reduceLT, Int.reduceLE, Int.reduceBEq, Int.reduceBNe, Nat.reduceBNe, Nat.reduceAdd, Nat.reduceMul, Nat.reduceEqDiff, Nat.reduceLeDiff, Nat.reduceLT, Nat.reduceBEq, reduceCtorEq, reduceIte, c1, c2, str_at hx4, slt_t hx4, nat_in (slt_n hx4) hlhx4, c8, c11, g7_0, g7_3]
            refine ⟨_, [], [], (Option.some.inj h).symm, by decide, ?_⟩
            try simp only [go_sem, Int.reduceLT, Int.reduceLE, Int.reduceBEq, Int.reduceBNe, Nat.reduceBNe, Nat.reduceAdd, Nat.reduceMul, Nat.reduceEqDiff, Nat.reduceLeDiff, Nat.reduceLT, Nat.reduceBEq, reduceCtorEq, reduceIte, c1, c2, str_at hx4, slt_t hx4, nat_in (slt_n hx4) hlhx4, c8, c11, g7_0, g7_3, IV, sts_cons, sts_nil, obs_cons, obs_nil]
      · rintro ⟨⟩ ⟨sl, ob, n⟩ hI14 hW15 h
        simp only [IV, sts_cons, sts_nil, obs_cons, obs_nil, and_true, true_and, Nat.reduceAdd, str_len] at hI14
        obtain ⟨⟨g16_0, g16_3⟩, hn⟩ := hI14
        subst hn
        obtain rfl := Option.some.inj h
        try simp only [go_sem, Int.reduceLT, Int.reduceLE, Int.reduceBEq, Int.reduceBNe, Nat.reduceBNe, Nat.reduceAdd, Nat.reduceMul, Nat.reduceEqDiff, Nat.reduceLeDiff, Nat.reduceLT, Nat.reduceBEq, reduceCtorEq, reduceIte, c1, c2, lt_f (s_0.size), g16_0, g16_3]
theorem i_zeroPattern_ok {p_0 : PatternD} {r : Bool} (h : i_zeroPattern p_0 = some r) : Sound Try.prog J0 174 [(true, ePattern p_0)] [(false, [(false, .bool r)])] := by
  refine fnk Try.func174 (by kernel_rfl) rfl (by kernel_rfl) (by kernel_rfl) ?_
  unfold i_zeroPattern at h
  have ks0 : strOk ⟨#[]⟩ = true := by decide
  simp only [fnS, f174, argSt, go_sem, Int.reduceLT, Int.reduceLE, Int.reduceBEq, Int.reduceBNe, Nat.reduceBNe, Nat.reduceAdd, Nat.reduceMul, Nat.reduceEqDiff, Nat.reduceLeDiff, Nat.reduceLT, Nat.reduceBEq, reduceCtorEq, reduceIte, ks0]
  refine ite_K h (fun c1 h => ?_) (fun c1 h => ?_)
  · obtain rfl := Option.some.inj h
    try simp only [go_sem, Int.reduceLT, Int.reduceLE, Int.reduceBEq, Int.reduceBNe, Nat.reduceBNe, Nat.reduceAdd, Nat.reduceMul, Nat.reduceEqDiff, Nat.reduceLeDiff, Nat.reduceLT, Nat.reduceBEq, reduceCtorEq, reduceIte, ks0, c1]
  · obtain rfl := Option.some.inj h
    try simp only [go_sem, Int.reduceLT, Int.reduceLE, Int.reduceBEq, Int.reduceBNe, Nat.reduceBNe, Nat.reduceAdd, Nat.reduceMul, Nat.reduceEqDiff, Nat.reduceLeDiff, Nat.reduceLT, Nat.reduceBEq, reduceCtorEq, reduceIte, ks0, c1]
theorem i_copyTexts_ok {l_0 : (List ByteArray)} {r : (List ByteArray)} (h : i_copyTexts l_0 = some r) : Sound Try.prog J0 177 [(false, [.sl 9 1 (List.map eStr l_0)])] [(false, [(false, .sl 9 1 (List.map eStr r))])] := by
  refine fnk Try.func177 (by kernel_rfl) rfl (by kernel_rfl) (by kernel_rfl) ?_
  unfold i_copyTexts at h
  simp only [fnS, f177, argSt, go_sem, Int.reduceLT, Int.reduceLE, Int.reduceBEq, Int.reduceBNe, Nat.reduceBNe, Nat.reduceAdd, Nat.reduceMul, Nat.reduceEqDiff, Nat.reduceLeDiff, Nat.reduceLT, Nat.reduceBEq, reduceCtorEq, reduceIte]
  obtain ⟨p1, h⟩ := chk_K h
  try simp only [Nat.reduceLeDiff] at p1
  obtain rfl := Option.some.inj h
  try simp only [go_sem, Int.reduceLT, Int.reduceLE, Int.reduceBEq, Int.reduceBNe, Nat.reduceBNe, Nat.reduceAdd, Nat.reduceMul, Nat.reduceEqDiff, Nat.reduceLeDiff, Nat.reduceLT, Nat.reduceBEq, reduceCtorEq, reduceIte, p1]
end Go.Proofs.Ytccbhhglghboaaa

namespace Go.Proofs.Ytccbhhglghboaaa
open Go.Proofs.Try
set_option linter.unusedSimpArgs false
set_option linter.unusedVariables false
set_option maxRecDepth 1000000
set_option maxHeartbeats 4000000
theorem s_l14Bound_ok {a_0 : (List ByteArray)} {b_1 : (List ByteArray)} {r : Bool} (h : s_l14Bound a_0 b_1 = some r) : Sound Try.prog J0 87 [(false, [.sl 9 1 (List.map eStr a_0)]), (false, [.sl 9 1 (List.map eStr b_1)])] [(false, [(false, .bool r)])] := by
  refine fnk Try.func87 (by kernel_rfl) rfl (by kernel_rfl) (by kernel_rfl) ?_
  unfold s_l14Bound at h
  simp only [fnS, f87, argSt, go_sem, Int.reduceLT, Int.reduceLE, Int.reduceBEq, Int.reduceBNe, Nat.reduceBNe, Nat.reduceAdd, Nat.reduceMul, Nat.reduceEqDiff, Nat.reduceLeDiff, Nat.reduceLT, Nat.reduceBEq, reduceCtorEq, reduceIte]
  refine swp_for h (fun i _ st => IV [(0, .p false [.c (.sl 9 1 (List.map eStr a_0))]), (1, .p false [.c (.sl 9 1 (List.map eStr b_1))]), (5, .p false [.c (.int .i64 ((i : Nat) : Int))])] [] st) [] [] (by decide) ?_ ?_ ?_
  · simp only [go_sem, Int.reduceLT, Int.reduceLE, Int.reduceBEq, Int.reduceBNe, Nat.reduceBNe, Nat.reduceAdd, Nat.reduceMul, Nat.reduceEqDiff, Nat.reduceLeDiff, Nat.reduceLT, Nat.reduceBEq, reduceCtorEq, reduceIte, IV, sts_cons, sts_nil, obs_cons, obs_nil]
  · rintro i6 x7 ⟨⟩ ⟨sl, ob, n⟩ y1 hx2 hI3 hW4 h hy1
    simp only [IV, sts_cons, sts_nil, obs_cons, obs_nil, and_true, true_and, Nat.reduceAdd, str_len] at hI3
    obtain ⟨⟨g5_0, g5_1, g5_5⟩, hn⟩ := hI3
    subst hn
    have hlhx2 := WF.slotL hW4 g5_0 (j := 0) rfl
    try simp only [go_sem, Int.reduceLT, Int.reduceLE, Int.reduceBEq, Int.reduceBNe, Nat.reduceBNe, Nat.reduceAdd, Nat.reduceMul, Nat.reduceEqDiff, Nat.reduceLeDiff, Nat.reduceLT, Nat.reduceBEq, reduceCtorEq, reduceIte, hx2, lt_t hx2, lt_p hx2, nat_in (lt_n hx2) hlhx2, g5_0, g5_1, g5_5]
    obtain ⟨v8, e6, h⟩ := bind_K h
    refine call_K (by first | exact s_l1HasText_ok e6 | simpa only [go_sem, Int.reduceLT, Int.reduceLE, Int.reduceBEq, Int.reduceBNe, Nat.reduceBNe, Nat.reduceAdd, Nat.reduceMul, Nat.reduceEqDiff, Nat.reduceLeDiff, Nat.reduceLT, Nat.reduceBEq, reduceCtorEq, reduceIte, hx2, lt_t hx2, lt_p hx2, nat_in (lt_n hx2) hlhx2, g5_0, g5_1, g5_5] using s_l1HasText_ok e6) ?_
    try simp only [go_sem, Int.reduceLT, Int.reduceLE, Int.reduceBEq, Int.reduceBNe, Nat.reduceBNe, Nat.reduceAdd, Nat.reduceMul, Nat.reduceEqDiff, Nat.reduceLeDiff, Nat.reduceLT, Nat.reduceBEq, reduceCtorEq, reduceIte, hx2, lt_t hx2, lt_p hx2, nat_in (lt_n hx2) hlhx2, g5_0, g5_1, g5_5]
    refine ite_K h (fun c7 h => ?_) (fun c7 h => ?_)
    · try simp only [go_sem, Int.reduceLT, Int.reduceLE, Int.reduceBEq, Int.reduceBNe, Nat.reduceBNe, Nat.reduceAdd, Nat.reduceMul, Nat.reduceEqDiff, Nat.reduceLeDiff, Nat.reduceLT, Nat.reduceBEq, reduceCtorEq, reduceIte, hx2, lt_t hx2, lt_p hx2, nat_in (lt_n hx2) hlhx2, c7, g5_0, g5_1, g5_5]
      refine ⟨_, [], [], (Option.some.inj h).symm, by decide, ?_⟩
      try simp only [go_sem, Int.reduceLT, Int.reduceLE, Int.reduceBEq, Int.reduceBNe, Nat.reduceBNe, Nat.reduceAdd, Nat.reduceMul, Nat.reduceEqDiff, Nat.reduceLeDiff, Nat.reduceLT, Nat.reduceBEq, reduceCtorEq, reduceIte, hx2, lt_t hx2, lt_p hx2, nat_in (lt_n hx2) hlhx2, c7, g5_0, g5_1, g5_5, IV, sts_cons, sts_nil, obs_cons, obs_nil]
    · replace h := inr_K h hy1
      obtain rfl := Option.some.inj h
      try simp only [go_sem, Int.reduceLT, Int.reduceLE, Int.reduceBEq, Int.reduceBNe, Nat.reduceBNe, Nat.reduceAdd, Nat.reduceMul, Nat.reduceEqDiff, Nat.reduceLeDiff, Nat.reduceLT, Nat.reduceBEq, reduceCtorEq, reduceIte, hx2, lt_t hx2, lt_p hx2, nat_in (lt_n hx2) hlhx2, c7, g5_0, g5_1, g5_5]
  · rintro ⟨⟩ ⟨sl, ob, n⟩ hI8 hW9 h
    simp only [IV, sts_cons, sts_nil, obs_cons, obs_nil, and_true, true_and, Nat.reduceAdd, str_len] at hI8
    obtain ⟨⟨g10_0, g10_1, g10_5⟩, hn⟩ := hI8
    subst hn
    obtain rfl := Option.some.inj h
    try simp only [go_sem, Int.reduceLT, Int.reduceLE, Int.reduceBEq, Int.reduceBNe, Nat.reduceBNe, Nat.reduceAdd, Nat.reduceMul, Nat.reduceEqDiff, Nat.reduceLeDiff, Nat.reduceLT, Nat.reduceBEq, reduceCtorEq, reduceIte, lt_f (a_0.length), g10_0, g10_1, g10_5]
end Go.Proofs.Ytccbhhglghboaaa

namespace Go.Proofs.Ytccbhhglghboaaa
open Go.Proofs.Try
set_option linter.unusedSimpArgs false
set_option linter.unusedVariables false
set_option maxRecDepth 1000000
set_option maxHeartbeats 4000000
theorem s_RelDepends_ok {append_0 : (List RuleD)} {String_1 : ByteArray} {a_2 : ByteArray} {r : Bool} (h : s_RelDepends append_0 String_1 a_2 = some r) : Sound Try.prog J0 21 [(false, [.sl 75 4 (List.map eRule append_0)]), (false, [.str String_1]), (false, [.str a_2])] [(false, [(false, .bool r)])] := by
  refine fnk Try.func21 (by kernel_rfl) rfl (by kernel_rfl) (by kernel_rfl) ?_
  unfold s_RelDepends at h
  simp only [fnS, f21, argSt, go_sem, Int.reduceLT, Int.reduceLE, Int.reduceBEq, Int.reduceBNe, Nat.reduceBNe, Nat.reduceAdd, Nat.reduceMul, Nat.reduceEqDiff, Nat.reduceLeDiff, Nat.reduceLT, Nat.reduceBEq, reduceCtorEq, reduceIte]
  refine swp_iter h (fun s st => match s with | (row_55, u_56) => IV [(0, .p false [.c (.sl 75 4 (List.map eRule append_0))]), (2, .p false [.c (.str a_2)]), (7, .p false [.row 0]), (8, .p false [.c (.int .i64 u_56)])] [.row 9 1 (List.map eStr row_55) 2] st) [] [32] (by decide) ?_ ?_
  · simp only [go_sem, Int.reduceLT, Int.reduceLE, Int.reduceBEq, Int.reduceBNe, Nat.reduceBNe, Nat.reduceAdd, Nat.reduceMul, Nat.reduceEqDiff, Nat.reduceLeDiff, Nat.reduceLT, Nat.reduceBEq, reduceCtorEq, reduceIte, IV, sts_cons, sts_nil, obs_cons, obs_nil]
  · rintro ⟨row_55, u_56⟩ ⟨sl, ob, n⟩ y1 hI2 hW3 h hy1
    simp only [IV, sts_cons, sts_nil, obs_cons, obs_nil, and_true, true_and, Nat.reduceAdd, str_len] at hI2
    obtain ⟨⟨g4_0, g4_2, g4_7, g4_8⟩, og4_0, hn⟩ := hI2
    subst hn
    try simp only [go_sem, Int.reduceLT, Int.reduceLE, Int.reduceBEq, Int.reduceBNe, Nat.reduceBNe, Nat.reduceAdd, Nat.reduceMul, Nat.reduceEqDiff, Nat.reduceLeDiff, Nat.reduceLT, Nat.reduceBEq, reduceCtorEq, reduceIte, g4_0, g4_2, g4_7, g4_8, og4_0]
    refine ite_K h (fun c5 h => ?_) (fun c5 h => ?_)
    · try simp only [go_sem, Int.reduceLT, Int.reduceLE, Int.reduceBEq, Int.reduceBNe, Nat.reduceBNe, Nat.reduceAdd, Nat.reduceMul, Nat.reduceEqDiff, Nat.reduceLeDiff, Nat.reduceLT, Nat.reduceBEq, reduceCtorEq, reduceIte, c5, g4_0, g4_2, g4_7, g4_8, og4_0]
      refine swp_for h (fun i row_74 st => IV [(0, .p false [.c (.sl 75 4 (List.map eRule append_0))]), (2, .p false [.c (.str a_2)]), (7, .p false [.row 0]), (8, .p false [.c (.int .i64 u_56)]), (9, .p false [.c (.int .i64 ((i : Nat) : Int))])] [.row 9 1 (List.map eStr row_74) 2] st) [] [0] (by decide) ?_ ?_ ?_
      · simp only [go_sem, Int.reduceLT, Int.reduceLE, Int.reduceBEq, Int.reduceBNe, Nat.reduceBNe, Nat.reduceAdd, Nat.reduceMul, Nat.reduceEqDiff, Nat.reduceLeDiff, Nat.reduceLT, Nat.reduceBEq, reduceCtorEq, reduceIte, IV, sts_cons, sts_nil, obs_cons, obs_nil, c5, g4_0, g4_2, g4_7, g4_8, og4_0]
      · rintro i93 x94 row_74 ⟨sl, ob, n⟩ y6 hx7 hI8 hW9 h hy6
        simp only [IV, sts_cons, sts_nil, obs_cons, obs_nil, and_true, true_and, Nat.reduceAdd, str_len] at hI8
        obtain ⟨⟨g10_0, g10_2, g10_7, g10_8, g10_9⟩, og10_0, hn⟩ := hI8
        subst hn
        have hlhx7 := WF.slotL hW9 g10_0 (j := 0) rfl
        try simp only [go_sem, Int.reduceLT, Int.reduceLE, Int.reduceBEq, Int.reduceBNe, Nat.reduceBNe, Nat.reduceAdd, Nat.reduceMul, Nat.reduceEqDiff, Nat.reduceLeDiff, Nat.reduceLT, Nat.reduceBEq, reduceCtorEq, reduceIte, c5, hx7, lt_t hx7, lt_p hx7, nat_in (lt_n hx7) hlhx7, g10_0, g10_2, g10_7, g10_8, g10_9, og10_0]
        obtain ⟨v95, e11, h⟩ := bind_K h
        refine call_K (by first | exact s_WritesOf_ok e11 | simpa only [go_sem, Int.reduceLT, Int.reduceLE, Int.reduceBEq, Int.reduceBNe, Nat.reduceBNe, Nat.reduceAdd, Nat.reduceMul, Nat.reduceEqDiff, Nat.reduceLeDiff, Nat.reduceLT, Nat.reduceBEq, reduceCtorEq, reduceIte, c5, hx7, lt_t hx7, lt_p hx7, nat_in (lt_n hx7) hlhx7, g10_0, g10_2, g10_7, g10_8, g10_9, og10_0] using s_WritesOf_ok e11) ?_
        obtain ⟨p12, h⟩ := chk_K h
        obtain ⟨x96, e13, h⟩ := bind_K h
        try simp only [go_sem, Int.reduceLT, Int.reduceLE, Int.reduceBEq, Int.reduceBNe, Nat.reduceBNe, Nat.reduceAdd, Nat.reduceMul, Nat.reduceEqDiff, Nat.reduceLeDiff, Nat.reduceLT, Nat.reduceBEq, reduceCtorEq, reduceIte, c5, hx7, lt_t hx7, lt_p hx7, nat_in (lt_n hx7) hlhx7, p12.1, p12.2, e13, g10_0, g10_2, g10_7, g10_8, g10_9, og10_0]
        obtain ⟨v97, e14, h⟩ := bind_K h
        refine call_K (by first | exact s_l1HasText_ok e14 | simpa only [go_sem, Int.reduceLT, Int.reduceLE, Int.reduceBEq, Int.reduceBNe, Nat.reduceBNe, Nat.reduceAdd, Nat.reduceMul, Nat.reduceEqDiff, Nat.reduceLeDiff, Nat.reduceLT, Nat.reduceBEq, reduceCtorEq, reduceIte, c5, hx7, lt_t hx7, lt_p hx7, nat_in (lt_n hx7) hlhx7, p12.1, p12.2, e13, g10_0, g10_2, g10_7, g10_8, g10_9, og10_0] using s_l1HasText_ok e14) ?_
        try simp only [go_sem, Int.reduceLT, Int.reduceLE, Int.reduceBEq, Int.reduceBNe, Nat.reduceBNe, Nat.reduceAdd, Nat.reduceMul, Nat.reduceEqDiff, Nat.reduceLeDiff, Nat.reduceLT, Nat.reduceBEq, reduceCtorEq, reduceIte, c5, hx7, lt_t hx7, lt_p hx7, nat_in (lt_n hx7) hlhx7, p12.1, p12.2, e13, g10_0, g10_2, g10_7, g10_8, g10_9, og10_0]
        refine ite_K h (fun c15 h => ?_) (fun c15 h => ?_)
        · try simp only [go_sem, Int.reduceLT, Int.reduceLE, Int.reduceBEq, Int.reduceBNe, Nat.reduceBNe, Nat.reduceAdd, Nat.reduceMul, Nat.reduceEqDiff, Nat.reduceLeDiff, Nat.reduceLT, Nat.reduceBEq, reduceCtorEq, reduceIte, c5, hx7, lt_t hx7, lt_p hx7, nat_in (lt_n hx7) hlhx7, p12.1, p12.2, e13, c15, g10_0, g10_2, g10_7, g10_8, g10_9, og10_0]
          obtain ⟨v98, e16, h⟩ := bind_K h
          refine call_K (by first | exact s_ReadsOf_ok e16 | simpa only [go_sem, Int.reduceLT, Int.reduceLE, Int.reduceBEq, Int.reduceBNe, Nat.reduceBNe, Nat.reduceAdd, Nat.reduceMul, Nat.reduceEqDiff, Nat.reduceLeDiff, Nat.reduceLT, Nat.reduceBEq, reduceCtorEq, reduceIte, c5, hx7, lt_t hx7, lt_p hx7, nat_in (lt_n hx7) hlhx7, p12.1, p12.2, e13, c15, g10_0, g10_2, g10_7, g10_8, g10_9, og10_0] using s_ReadsOf_ok e16) ?_
          try simp only [go_sem, Int.reduceLT, Int.reduceLE, Int.reduceBEq, Int.reduceBNe, Nat.reduceBNe, Nat.reduceAdd, Nat.reduceMul, Nat.reduceEqDiff, Nat.reduceLeDiff, Nat.reduceLT, Nat.reduceBEq, reduceCtorEq, reduceIte, c5, hx7, lt_t hx7, lt_p hx7, nat_in (lt_n hx7) hlhx7, p12.1, p12.2, e13, c15, g10_0, g10_2, g10_7, g10_8, g10_9, og10_0]
          obtain ⟨v99, e17, h⟩ := bind_K h
          refine call_K (by first | exact s_l1HasText_ok e17 | simpa only [go_sem, Int.reduceLT, Int.reduceLE, Int.reduceBEq, Int.reduceBNe, Nat.reduceBNe, Nat.reduceAdd, Nat.reduceMul, Nat.reduceEqDiff, Nat.reduceLeDiff, Nat.reduceLT, Nat.reduceBEq, reduceCtorEq, reduceIte, c5, hx7, lt_t hx7, lt_p hx7, nat_in (lt_n hx7) hlhx7, p12.1, p12.2, e13, c15, g10_0, g10_2, g10_7, g10_8, g10_9, og10_0] using s_l1HasText_ok e17) ?_
          try simp only [go_sem, Int.reduceLT, Int.reduceLE, Int.reduceBEq, Int.reduceBNe, Nat.reduceBNe, Nat.reduceAdd, Nat.reduceMul, Nat.reduceEqDiff, Nat.reduceLeDiff, Nat.reduceLT, Nat.reduceBEq, reduceCtorEq, reduceIte, c5, hx7, lt_t hx7, lt_p hx7, nat_in (lt_n hx7) hlhx7, p12.1, p12.2, e13, c15, g10_0, g10_2, g10_7, g10_8, g10_9, og10_0]
          refine ite_K h (fun c18 h => ?_) (fun c18 h => ?_)
          · replace h := inr_K h hy6
            replace h := inr_K h hy1
            obtain rfl := Option.some.inj h
            try simp only [go_sem, Int.reduceLT, Int.reduceLE, Int.reduceBEq, Int.reduceBNe, Nat.reduceBNe, Nat.reduceAdd, Nat.reduceMul, Nat.reduceEqDiff, Nat.reduceLeDiff, Nat.reduceLT, Nat.reduceBEq, reduceCtorEq, reduceIte, c5, hx7, lt_t hx7, lt_p hx7, nat_in (lt_n hx7) hlhx7, p12.1, p12.2, e13, c15, c18, g10_0, g10_2, g10_7, g10_8, g10_9, og10_0]
          · try simp only [go_sem, Int.reduceLT, Int.reduceLE, Int.reduceBEq, Int.reduceBNe, Nat.reduceBNe, Nat.reduceAdd, Nat.reduceMul, Nat.reduceEqDiff, Nat.reduceLeDiff, Nat.reduceLT, Nat.reduceBEq, reduceCtorEq, reduceIte, c5, hx7, lt_t hx7, lt_p hx7, nat_in (lt_n hx7) hlhx7, p12.1, p12.2, e13, c15, c18, g10_0, g10_2, g10_7, g10_8, g10_9, og10_0]
            refine swp_for h (fun i row_105 st => IV [(0, .p false [.c (.sl 75 4 (List.map eRule append_0))]), (2, .p false [.c (.str a_2)]), (7, .p false [.row 0]), (8, .p false [.c (.int .i64 u_56)]), (9, .p false [.c (.int .i64 ((i93 : Nat) : Int))]), (10, .p false [.row 1]), (11, .p false [.c (.int .i64 ((i : Nat) : Int))])] [.row 9 1 (List.map eStr row_105) 2, .row 9 1 (List.map eStr v98) 2] st) [] [0, 305] (by decide) ?_ ?_ ?_
            · simp only [go_sem, Int.reduceLT, Int.reduceLE, Int.reduceBEq, Int.reduceBNe, Nat.reduceBNe, Nat.reduceAdd, Nat.reduceMul, Nat.reduceEqDiff, Nat.reduceLeDiff, Nat.reduceLT, Nat.reduceBEq, reduceCtorEq, reduceIte, IV, sts_cons, sts_nil, obs_cons, obs_nil, c5, hx7, lt_t hx7, lt_p hx7, nat_in (lt_n hx7) hlhx7, p12.1, p12.2, e13, c15, c18, g10_0, g10_2, g10_7, g10_8, g10_9, og10_0]
            · rintro i108 x109 row_105 ⟨sl, ob, n⟩ y19 hx20 hI21 hW22 h hy19
              simp only [IV, sts_cons, sts_nil, obs_cons, obs_nil, and_true, true_and, Nat.reduceAdd, str_len] at hI21
              obtain ⟨⟨g23_0, g23_2, g23_7, g23_8, g23_9, g23_10, g23_11⟩, og23_0, og23_1, hn⟩ := hI21
              subst hn
              have hlhx20 := WF.rowL hW22 og23_1
              try simp only [go_sem, Int.reduceLT, Int.reduceLE, Int.reduceBEq, Int.reduceBNe, Nat.reduceBNe, Nat.reduceAdd, Nat.reduceMul, Nat.reduceEqDiff, Nat.reduceLeDiff, Nat.reduceLT, Nat.reduceBEq, reduceCtorEq, reduceIte, c5, hx7, lt_t hx7, lt_p hx7, nat_in (lt_n hx7) hlhx7, p12.1, p12.2, e13, c15, c18, hx20, lt_t hx20, lt_p hx20, nat_in (lt_n hx20) hlhx20, g23_0, g23_2, g23_7, g23_8, g23_9, g23_10, g23_11, og23_0, og23_1]
              obtain ⟨v110, e24, h⟩ := bind_K h
              refine call_K (by first | exact s_l1HasText_ok e24 | simpa only [go_sem, Int.reduceLT, Int.reduceLE, Int.reduceBEq, Int.reduceBNe, Nat.reduceBNe, Nat.reduceAdd, Nat.reduceMul, Nat.reduceEqDiff, Nat.reduceLeDiff, Nat.reduceLT, Nat.reduceBEq, reduceCtorEq, reduceIte, c5, hx7, lt_t hx7, lt_p hx7, nat_in (lt_n hx7) hlhx7, p12.1, p12.2, e13, c15, c18, hx20, lt_t hx20, lt_p hx20, nat_in (lt_n hx20) hlhx20, g23_0, g23_2, g23_7, g23_8, g23_9, g23_10, g23_11, og23_0, og23_1] using s_l1HasText_ok e24) ?_
              try simp only [go_sem, Int.reduceLT, Int.reduceLE, Int.reduceBEq, Int.reduceBNe, Nat.reduceBNe, Nat.reduceAdd, Nat.reduceMul, Nat.reduceEqDiff, Nat.reduceLeDiff, Nat.reduceLT, Nat.reduceBEq, reduceCtorEq, reduceIte, c5, hx7, lt_t hx7, lt_p hx7, nat_in (lt_n hx7) hlhx7, p12.1, p12.2, e13, c15, c18, hx20, lt_t hx20, lt_p hx20, nat_in (lt_n hx20) hlhx20, g23_0, g23_2, g23_7, g23_8, g23_9, g23_10, g23_11, og23_0, og23_1]
              refine ite_K h (fun c25 h => ?_) (fun c25 h => ?_)
              · try simp only [go_sem, Int.reduceLT, Int.reduceLE, Int.reduceBEq, Int.reduceBNe, Nat.reduceBNe, Nat.reduceAdd, Nat.reduceMul, Nat.reduceEqDiff, Nat.reduceLeDiff, Nat.reduceLT, Nat.reduceBEq, reduceCtorEq, reduceIte, c5, hx7, lt_t hx7, lt_p hx7, nat_in (lt_n hx7) hlhx7, p12.1, p12.2, e13, c15, c18, hx20, lt_t hx20, lt_p hx20, nat_in (lt_n hx20) hlhx20, c25, g23_0, g23_2, g23_7, g23_8, g23_9, g23_10, g23_11, og23_0, og23_1]
                refine ⟨_, [], [0, 1], (Option.some.inj h).symm, by decide, ?_⟩
                try simp only [go_sem, Int.reduceLT, Int.reduceLE, Int.reduceBEq, Int.reduceBNe, Nat.reduceBNe, Nat.reduceAdd, Nat.reduceMul, Nat.reduceEqDiff, Nat.reduceLeDiff, Nat.reduceLT, Nat.reduceBEq, reduceCtorEq, reduceIte, c5, hx7, lt_t hx7, lt_p hx7, nat_in (lt_n hx7) hlhx7, p12.1, p12.2, e13, c15, c18, hx20, lt_t hx20, lt_p hx20, nat_in (lt_n hx20) hlhx20, c25, g23_0, g23_2, g23_7, g23_8, g23_9, g23_10, g23_11, og23_0, og23_1, IV, sts_cons, sts_nil, obs_cons, obs_nil]
              · obtain ⟨p26, h⟩ := chk_K h
                try simp only [Nat.reduceLeDiff] at p26
                try simp only [go_sem, Int.reduceLT, Int.reduceLE, Int.reduceBEq, Int.reduceBNe, Nat.reduceBNe, Nat.reduceAdd, Nat.reduceMul, Nat.reduceEqDiff, Nat.reduceLeDiff, Nat.reduceLT, Nat.reduceBEq, reduceCtorEq, reduceIte, c5, hx7, lt_t hx7, lt_p hx7, nat_in (lt_n hx7) hlhx7, p12.1, p12.2, e13, c15, c18, hx20, lt_t hx20, lt_p hx20, nat_in (lt_n hx20) hlhx20, c25, p26, g23_0, g23_2, g23_7, g23_8, g23_9, g23_10, g23_11, og23_0, og23_1]
                refine ⟨_, [], [274, 1], (Option.some.inj h).symm, by decide, ?_⟩
                try simp only [go_sem, Int.reduceLT, Int.reduceLE, Int.reduceBEq, Int.reduceBNe, Nat.reduceBNe, Nat.reduceAdd, Nat.reduceMul, Nat.reduceEqDiff, Nat.reduceLeDiff, Nat.reduceLT, Nat.reduceBEq, reduceCtorEq, reduceIte, c5, hx7, lt_t hx7, lt_p hx7, nat_in (lt_n hx7) hlhx7, p12.1, p12.2, e13, c15, c18, hx20, lt_t hx20, lt_p hx20, nat_in (lt_n hx20) hlhx20, c25, p26, g23_0, g23_2, g23_7, g23_8, g23_9, g23_10, g23_11, og23_0, og23_1, IV, sts_cons, sts_nil, obs_cons, obs_nil]
            · rintro row_105 ⟨sl, ob, n⟩ hI27 hW28 h
              simp only [IV, sts_cons, sts_nil, obs_cons, obs_nil, and_true, true_and, Nat.reduceAdd, str_len] at hI27
              obtain ⟨⟨g29_0, g29_2, g29_7, g29_8, g29_9, g29_10, g29_11⟩, og29_0, og29_1, hn⟩ := hI27
              subst hn
              try simp only [go_sem, Int.reduceLT, Int.reduceLE, Int.reduceBEq, Int.reduceBNe, Nat.reduceBNe, Nat.reduceAdd, Nat.reduceMul, Nat.reduceEqDiff, Nat.reduceLeDiff, Nat.reduceLT, Nat.reduceBEq, reduceCtorEq, reduceIte, c5, hx7, lt_t hx7, lt_p hx7, nat_in (lt_n hx7) hlhx7, p12.1, p12.2, e13, c15, c18, lt_f (v98.length), g29_0, g29_2, g29_7, g29_8, g29_9, g29_10, g29_11, og29_0, og29_1]
              refine ⟨_, [], [0], (Option.some.inj h).symm, by decide, ?_⟩
              try simp only [go_sem, Int.reduceLT, Int.reduceLE, Int.reduceBEq, Int.reduceBNe, Nat.reduceBNe, Nat.reduceAdd, Nat.reduceMul, Nat.reduceEqDiff, Nat.reduceLeDiff, Nat.reduceLT, Nat.reduceBEq, reduceCtorEq, reduceIte, c5, hx7, lt_t hx7, lt_p hx7, nat_in (lt_n hx7) hlhx7, p12.1, p12.2, e13, c15, c18, lt_f (v98.length), g29_0, g29_2, g29_7, g29_8, g29_9, g29_10, g29_11, og29_0, og29_1, IV, sts_cons, sts_nil, obs_cons, obs_nil]
        · try simp only [go_sem, Int.reduceLT, Int.reduceLE, Int.reduceBEq, Int.reduceBNe, Nat.reduceBNe, Nat.reduceAdd, Nat.reduceMul, Nat.reduceEqDiff, Nat.reduceLeDiff, Nat.reduceLT, Nat.reduceBEq, reduceCtorEq, reduceIte, c5, hx7, lt_t hx7, lt_p hx7, nat_in (lt_n hx7) hlhx7, p12.1, p12.2, e13, c15, g10_0, g10_2, g10_7, g10_8, g10_9, og10_0]
          refine ⟨_, [], [0], (Option.some.inj h).symm, by decide, ?_⟩
          try simp only [go_sem, Int.reduceLT, Int.reduceLE, Int.reduceBEq, Int.reduceBNe, Nat.reduceBNe, Nat.reduceAdd, Nat.reduceMul, Nat.reduceEqDiff, Nat.reduceLeDiff, Nat.reduceLT, Nat.reduceBEq, reduceCtorEq, reduceIte, c5, hx7, lt_t hx7, lt_p hx7, nat_in (lt_n hx7) hlhx7, p12.1, p12.2, e13, c15, g10_0, g10_2, g10_7, g10_8, g10_9, og10_0, IV, sts_cons, sts_nil, obs_cons, obs_nil]
      · rintro row_74 ⟨sl, ob, n⟩ hI30 hW31 h
        simp only [IV, sts_cons, sts_nil, obs_cons, obs_nil, and_true, true_and, Nat.reduceAdd, str_len] at hI30
        obtain ⟨⟨g32_0, g32_2, g32_7, g32_8, g32_9⟩, og32_0, hn⟩ := hI30
        subst hn
        try simp only [go_sem, Int.reduceLT, Int.reduceLE, Int.reduceBEq, Int.reduceBNe, Nat.reduceBNe, Nat.reduceAdd, Nat.reduceMul, Nat.reduceEqDiff, Nat.reduceLeDiff, Nat.reduceLT, Nat.reduceBEq, reduceCtorEq, reduceIte, c5, lt_f (append_0.length), g32_0, g32_2, g32_7, g32_8, g32_9, og32_0]
        refine ⟨_, [], [0], (Option.some.inj h).symm, by decide, ?_⟩
        try simp only [go_sem, Int.reduceLT, Int.reduceLE, Int.reduceBEq, Int.reduceBNe, Nat.reduceBNe, Nat.reduceAdd, Nat.reduceMul, Nat.reduceEqDiff, Nat.reduceLeDiff, Nat.reduceLT, Nat.reduceBEq, reduceCtorEq, reduceIte, c5, lt_f (append_0.length), g32_0, g32_2, g32_7, g32_8, g32_9, og32_0, IV, sts_cons, sts_nil, obs_cons, obs_nil]
    · replace h := inr_K h hy1
      obtain rfl := Option.some.inj h
      try simp only [go_sem, Int.reduceLT, Int.reduceLE, Int.reduceBEq, Int.reduceBNe, Nat.reduceBNe, Nat.reduceAdd, Nat.reduceMul, Nat.reduceEqDiff, Nat.reduceLeDiff, Nat.reduceLT, Nat.reduceBEq, reduceCtorEq, reduceIte, c5, g4_0, g4_2, g4_7, g4_8, og4_0]
theorem i_relReach_ok {rules_0 : (List RuleD)} {a_1 : ByteArray} {r : (List (ByteArray × Bool))} (h : i_relReach rules_0 a_1 = some r) : Sound Try.prog J0 61 [(false, [.sl 75 4 (List.map eRule rules_0)]), (false, [.str a_1])] [(false, [(true, .mp .str .bool (List.map eSB r))])] := by
  refine fnk Try.func61 (by kernel_rfl) rfl (by kernel_rfl) (by kernel_rfl) ?_
  unfold i_relReach at h
  simp only [fnS, f61, argSt, go_sem, Int.reduceLT, Int.reduceLE, Int.reduceBEq, Int.reduceBNe, Nat.reduceBNe, Nat.reduceAdd, Nat.reduceMul, Nat.reduceEqDiff, Nat.reduceLeDiff, Nat.reduceLT, Nat.reduceBEq, reduceCtorEq, reduceIte]
  refine swp_iter h (fun s st => match s with | (mp_42, row_43) => IV [(0, .p false [.c (.sl 75 4 (List.map eRule rules_0))]), (5, .p false [.row 0]), (6, .p false [.row 1])] [.map .str .bool (List.map eSB mp_42), .row 9 1 (List.map eStr row_43) 2] st) [] [16, 64] (by decide) ?_ ?_
  · simp only [go_sem, Int.reduceLT, Int.reduceLE, Int.reduceBEq, Int.reduceBNe, Nat.reduceBNe, Nat.reduceAdd, Nat.reduceMul, Nat.reduceEqDiff, Nat.reduceLeDiff, Nat.reduceLT, Nat.reduceBEq, reduceCtorEq, reduceIte, IV, sts_cons, sts_nil, obs_cons, obs_nil]
  · rintro ⟨mp_42, row_43⟩ ⟨sl, ob, n⟩ y1 hI2 hW3 h hy1
    simp only [IV, sts_cons, sts_nil, obs_cons, obs_nil, and_true, true_and, Nat.reduceAdd, str_len] at hI2
    obtain ⟨⟨g4_0, g4_5, g4_6⟩, og4_0, og4_1, hn⟩ := hI2
    subst hn
    try simp only [go_sem, Int.reduceLT, Int.reduceLE, Int.reduceBEq, Int.reduceBNe, Nat.reduceBNe, Nat.reduceAdd, Nat.reduceMul, Nat.reduceEqDiff, Nat.reduceLeDiff, Nat.reduceLT, Nat.reduceBEq, reduceCtorEq, reduceIte, g4_0, g4_5, g4_6, og4_0, og4_1]
    refine ite_K h (fun c5 h => ?_) (fun c5 h => ?_)
    · obtain ⟨p6, h⟩ := chk_K h
      obtain ⟨x44, e7, h⟩ := bind_K h
      obtain ⟨p8, h⟩ := chk_K h
      try simp only [go_sem, Int.reduceLT, Int.reduceLE, Int.reduceBEq, Int.reduceBNe, Nat.reduceBNe, Nat.reduceAdd, Nat.reduceMul, Nat.reduceEqDiff, Nat.reduceLeDiff, Nat.reduceLT, Nat.reduceBEq, reduceCtorEq, reduceIte, c5, p6.1, p6.2, e7, p8.1, p8.2, g4_0, g4_5, g4_6, og4_0, og4_1]
      refine swp_for h (fun i s st => match s with | (mp_57, row_58) => IV [(0, .p false [.c (.sl 75 4 (List.map eRule rules_0))]), (5, .p false [.row 0]), (6, .p false [.row 1]), (7, .p false [.c (.str x44)]), (23, .p false [.c (.sl 75 4 (List.map eRule rules_0))]), (24, .p false [.c (.int .i64 ((rules_0.length : Nat) : Int))]), (25, .p false [.c (.int .i64 ((i : Nat) : Int))])] [.map .str .bool (List.map eSB mp_57), .row 9 1 (List.map eStr row_58) 2] st) [] [0, 130] (by decide) ?_ ?_ ?_
      · simp only [go_sem, Int.reduceLT, Int.reduceLE, Int.reduceBEq, Int.reduceBNe, Nat.reduceBNe, Nat.reduceAdd, Nat.reduceMul, Nat.reduceEqDiff, Nat.reduceLeDiff, Nat.reduceLT, Nat.reduceBEq, reduceCtorEq, reduceIte, IV, sts_cons, sts_nil, obs_cons, obs_nil, c5, p6.1, p6.2, e7, p8.1, p8.2, g4_0, g4_5, g4_6, og4_0, og4_1]
      · rintro i72 x73 ⟨mp_57, row_58⟩ ⟨sl, ob, n⟩ y9 hx10 hI11 hW12 h hy9
        simp only [IV, sts_cons, sts_nil, obs_cons, obs_nil, and_true, true_and, Nat.reduceAdd, str_len] at hI11
        obtain ⟨⟨g13_0, g13_5, g13_6, g13_7, g13_23, g13_24, g13_25⟩, og13_0, og13_1, hn⟩ := hI11
        subst hn
        have hlhx10 := WF.slotL hW12 g13_0 (j := 0) rfl
        try simp only [go_sem, Int.reduceLT, Int.reduceLE, Int.reduceBEq, Int.reduceBNe, Nat.reduceBNe, Nat.reduceAdd, Nat.reduceMul, Nat.reduceEqDiff, Nat.reduceLeDiff, Nat.reduceLT, Nat.reduceBEq, reduceCtorEq, reduceIte, c5, p6.1, p6.2, e7, p8.1, p8.2, hx10, lt_t hx10, lt_p hx10, nat_in (lt_n hx10) hlhx10, g13_0, g13_5, g13_6, g13_7, g13_23, g13_24, g13_25, og13_0, og13_1]
        obtain ⟨v74, e14, h⟩ := bind_K h
        refine call_K (by first | exact i_WritesOf_ok e14 | simpa only [go_sem, Int.reduceLT, Int.reduceLE, Int.reduceBEq, Int.reduceBNe, Nat.reduceBNe, Nat.reduceAdd, Nat.reduceMul, Nat.reduceEqDiff, Nat.reduceLeDiff, Nat.reduceLT, Nat.reduceBEq, reduceCtorEq, reduceIte, c5, p6.1, p6.2, e7, p8.1, p8.2, hx10, lt_t hx10, lt_p hx10, nat_in (lt_n hx10) hlhx10, g13_0, g13_5, g13_6, g13_7, g13_23, g13_24, g13_25, og13_0, og13_1] using i_WritesOf_ok e14) ?_
        try simp only [go_sem, Int.reduceLT, Int.reduceLE, Int.reduceBEq, Int.reduceBNe, Nat.reduceBNe, Nat.reduceAdd, Nat.reduceMul, Nat.reduceEqDiff, Nat.reduceLeDiff, Nat.reduceLT, Nat.reduceBEq, reduceCtorEq, reduceIte, c5, p6.1, p6.2, e7, p8.1, p8.2, hx10, lt_t hx10, lt_p hx10, nat_in (lt_n hx10) hlhx10, g13_0, g13_5, g13_6, g13_7, g13_23, g13_24, g13_25, og13_0, og13_1]
        obtain ⟨v75, e15, h⟩ := bind_K h
        refine call_K (by first | exact i_hasText_ok e15 | simpa only [go_sem, Int.reduceLT, Int.reduceLE, Int.reduceBEq, Int.reduceBNe, Nat.reduceBNe, Nat.reduceAdd, Nat.reduceMul, Nat.reduceEqDiff, Nat.reduceLeDiff, Nat.reduceLT, Nat.reduceBEq, reduceCtorEq, reduceIte, c5, p6.1, p6.2, e7, p8.1, p8.2, hx10, lt_t hx10, lt_p hx10, nat_in (lt_n hx10) hlhx10, g13_0, g13_5, g13_6, g13_7, g13_23, g13_24, g13_25, og13_0, og13_1] using i_hasText_ok e15) ?_
        try simp only [go_sem, Int.reduceLT, Int.reduceLE, Int.reduceBEq, Int.reduceBNe, Nat.reduceBNe, Nat.reduceAdd, Nat.reduceMul, Nat.reduceEqDiff, Nat.reduceLeDiff, Nat.reduceLT, Nat.reduceBEq, reduceCtorEq, reduceIte, c5, p6.1, p6.2, e7, p8.1, p8.2, hx10, lt_t hx10, lt_p hx10, nat_in (lt_n hx10) hlhx10, g13_0, g13_5, g13_6, g13_7, g13_23, g13_24, g13_25, og13_0, og13_1]
        refine ite_K h (fun c16 h => ?_) (fun c16 h => ?_)
        · try simp only [go_sem, Int.reduceLT, Int.reduceLE, Int.reduceBEq, Int.reduceBNe, Nat.reduceBNe, Nat.reduceAdd, Nat.reduceMul, Nat.reduceEqDiff, Nat.reduceLeDiff, Nat.reduceLT, Nat.reduceBEq, reduceCtorEq, reduceIte, c5, p6.1, p6.2, e7, p8.1, p8.2, hx10, lt_t hx10, lt_p hx10, nat_in (lt_n hx10) hlhx10, c16, g13_0, g13_5, g13_6, g13_7, g13_23, g13_24, g13_25, og13_0, og13_1]
          obtain ⟨v76, e17, h⟩ := bind_K h
          refine call_K (by first | exact i_ReadsOf_ok e17 | simpa only [go_sem, Int.reduceLT, Int.reduceLE, Int.reduceBEq, Int.reduceBNe, Nat.reduceBNe, Nat.reduceAdd, Nat.reduceMul, Nat.reduceEqDiff, Nat.reduceLeDiff, Nat.reduceLT, Nat.reduceBEq, reduceCtorEq, reduceIte, c5, p6.1, p6.2, e7, p8.1, p8.2, hx10, lt_t hx10, lt_p hx10, nat_in (lt_n hx10) hlhx10, c16, g13_0, g13_5, g13_6, g13_7, g13_23, g13_24, g13_25, og13_0, og13_1] using i_ReadsOf_ok e17) ?_
          try simp only [go_sem, Int.reduceLT, Int.reduceLE, Int.reduceBEq, Int.reduceBNe, Nat.reduceBNe, Nat.reduceAdd, Nat.reduceMul, Nat.reduceEqDiff, Nat.reduceLeDiff, Nat.reduceLT, Nat.reduceBEq, reduceCtorEq, reduceIte, c5, p6.1, p6.2, e7, p8.1, p8.2, hx10, lt_t hx10, lt_p hx10, nat_in (lt_n hx10) hlhx10, c16, g13_0, g13_5, g13_6, g13_7, g13_23, g13_24, g13_25, og13_0, og13_1]
          refine swp_for h (fun i s st => match s with | (mp_80, row_81) => IV [(0, .p false [.c (.sl 75 4 (List.map eRule rules_0))]), (5, .p false [.row 0]), (6, .p false [.row 1]), (7, .p false [.c (.str x44)]), (23, .p false [.c (.sl 75 4 (List.map eRule rules_0))]), (24, .p false [.c (.int .i64 ((rules_0.length : Nat) : Int))]), (25, .p false [.c (.int .i64 ((i72 : Nat) : Int))]), (35, .p false [.row 2]), (36, .p false [.c (.int .i64 ((v76.length : Nat) : Int))]), (37, .p false [.c (.int .i64 ((i : Nat) : Int))])] [.map .str .bool (List.map eSB mp_80), .row 9 1 (List.map eStr row_81) 2, .row 9 1 (List.map eStr v76) 2] st) [] [0, 1, 178] (by decide) ?_ ?_ ?_
          · simp only [go_sem, Int.reduceLT, Int.reduceLE, Int.reduceBEq, Int.reduceBNe, Nat.reduceBNe, Nat.reduceAdd, Nat.reduceMul, Nat.reduceEqDiff, Nat.reduceLeDiff, Nat.reduceLT, Nat.reduceBEq, reduceCtorEq, reduceIte, IV, sts_cons, sts_nil, obs_cons, obs_nil, c5, p6.1, p6.2, e7, p8.1, p8.2, hx10, lt_t hx10, lt_p hx10, nat_in (lt_n hx10) hlhx10, c16, g13_0, g13_5, g13_6, g13_7, g13_23, g13_24, g13_25, og13_0, og13_1]
          · rintro i83 x84 ⟨mp_80, row_81⟩ ⟨sl, ob, n⟩ y18 hx19 hI20 hW21 h hy18
            simp only [IV, sts_cons, sts_nil, obs_cons, obs_nil, and_true, true_and, Nat.reduceAdd, str_len] at hI20
            obtain ⟨⟨g22_0, g22_5, g22_6, g22_7, g22_23, g22_24, g22_25, g22_35, g22_36, g22_37⟩, og22_0, og22_1, og22_2, hn⟩ := hI20
            subst hn
            have hlhx19 := WF.rowL hW21 og22_2
            try simp only [go_sem, Int.reduceLT, Int.reduceLE, Int.reduceBEq, Int.reduceBNe, Nat.reduceBNe, Nat.reduceAdd, Nat.reduceMul, Nat.reduceEqDiff, Nat.reduceLeDiff, Nat.reduceLT, Nat.reduceBEq, reduceCtorEq, reduceIte, c5, p6.1, p6.2, e7, p8.1, p8.2, hx10, lt_t hx10, lt_p hx10, nat_in (lt_n hx10) hlhx10, c16, hx19, lt_t hx19, lt_p hx19, nat_in (lt_n hx19) hlhx19, g22_0, g22_5, g22_6, g22_7, g22_23, g22_24, g22_25, g22_35, g22_36, g22_37, og22_0, og22_1, og22_2]
            refine ite_K h (fun c23 h => ?_) (fun c23 h => ?_)
            · try simp only [go_sem, Int.reduceLT, Int.reduceLE, Int.reduceBEq, Int.reduceBNe, Nat.reduceBNe, Nat.reduceAdd, Nat.reduceMul, Nat.reduceEqDiff, Nat.reduceLeDiff, Nat.reduceLT, Nat.reduceBEq, reduceCtorEq, reduceIte, c5, p6.1, p6.2, e7, p8.1, p8.2, hx10, lt_t hx10, lt_p hx10, nat_in (lt_n hx10) hlhx10, c16, hx19, lt_t hx19, lt_p hx19, nat_in (lt_n hx19) hlhx19, c23, g22_0, g22_5, g22_6, g22_7, g22_23, g22_24, g22_25, g22_35, g22_36, g22_37, og22_0, og22_1, og22_2]
              refine ⟨_, [], [0, 1, 2], (Option.some.inj h).symm, by decide, ?_⟩
              try simp only [go_sem, Int.reduceLT, Int.reduceLE, Int.reduceBEq, Int.reduceBNe, Nat.reduceBNe, Nat.reduceAdd, Nat.reduceMul, Nat.reduceEqDiff, Nat.reduceLeDiff, Nat.reduceLT, Nat.reduceBEq, reduceCtorEq, reduceIte, c5, p6.1, p6.2, e7, p8.1, p8.2, hx10, lt_t hx10, lt_p hx10, nat_in (lt_n hx10) hlhx10, c16, hx19, lt_t hx19, lt_p hx19, nat_in (lt_n hx19) hlhx19, c23, g22_0, g22_5, g22_6, g22_7, g22_23, g22_24, g22_25, g22_35, g22_36, g22_37, og22_0, og22_1, og22_2, IV, sts_cons, sts_nil, obs_cons, obs_nil]
            · obtain ⟨p24, h⟩ := chk_K h
              try simp only [Nat.reduceLeDiff] at p24
              try simp only [go_sem, Int.reduceLT, Int.reduceLE, Int.reduceBEq, Int.reduceBNe, Nat.reduceBNe, Nat.reduceAdd, Nat.reduceMul, Nat.reduceEqDiff, Nat.reduceLeDiff, Nat.reduceLT, Nat.reduceBEq, reduceCtorEq, reduceIte, c5, p6.1, p6.2, e7, p8.1, p8.2, hx10, lt_t hx10, lt_p hx10, nat_in (lt_n hx10) hlhx10, c16, hx19, lt_t hx19, lt_p hx19, nat_in (lt_n hx19) hlhx19, c23, p24, g22_0, g22_5, g22_6, g22_7, g22_23, g22_24, g22_25, g22_35, g22_36, g22_37, og22_0, og22_1, og22_2]
              refine ⟨_, [], [0, 227, 2], (Option.some.inj h).symm, by decide, ?_⟩
              try simp only [go_sem, Int.reduceLT, Int.reduceLE, Int.reduceBEq, Int.reduceBNe, Nat.reduceBNe, Nat.reduceAdd, Nat.reduceMul, Nat.reduceEqDiff, Nat.reduceLeDiff, Nat.reduceLT, Nat.reduceBEq, reduceCtorEq, reduceIte, c5, p6.1, p6.2, e7, p8.1, p8.2, hx10, lt_t hx10, lt_p hx10, nat_in (lt_n hx10) hlhx10, c16, hx19, lt_t hx19, lt_p hx19, nat_in (lt_n hx19) hlhx19, c23, p24, g22_0, g22_5, g22_6, g22_7, g22_23, g22_24, g22_25, g22_35, g22_36, g22_37, og22_0, og22_1, og22_2, IV, sts_cons, sts_nil, obs_cons, obs_nil]
          · rintro ⟨mp_80, row_81⟩ ⟨sl, ob, n⟩ hI25 hW26 h
            simp only [IV, sts_cons, sts_nil, obs_cons, obs_nil, and_true, true_and, Nat.reduceAdd, str_len] at hI25
            obtain ⟨⟨g27_0, g27_5, g27_6, g27_7, g27_23, g27_24, g27_25, g27_35, g27_36, g27_37⟩, og27_0, og27_1, og27_2, hn⟩ := hI25
            subst hn
            try simp only [go_sem, Int.reduceLT, Int.reduceLE, Int.reduceBEq, Int.reduceBNe, Nat.reduceBNe, Nat.reduceAdd, Nat.reduceMul, Nat.reduceEqDiff, Nat.reduceLeDiff, Nat.reduceLT, Nat.reduceBEq, reduceCtorEq, reduceIte, c5, p6.1, p6.2, e7, p8.1, p8.2, hx10, lt_t hx10, lt_p hx10, nat_in (lt_n hx10) hlhx10, c16, lt_f (v76.length), g27_0, g27_5, g27_6, g27_7, g27_23, g27_24, g27_25, g27_35, g27_36, g27_37, og27_0, og27_1, og27_2]
            refine ⟨_, [], [0, 1], (Option.some.inj h).symm, by decide, ?_⟩
            try simp only [go_sem, Int.reduceLT, Int.reduceLE, Int.reduceBEq, Int.reduceBNe, Nat.reduceBNe, Nat.reduceAdd, Nat.reduceMul, Nat.reduceEqDiff, Nat.reduceLeDiff, Nat.reduceLT, Nat.reduceBEq, reduceCtorEq, reduceIte, c5, p6.1, p6.2, e7, p8.1, p8.2, hx10, lt_t hx10, lt_p hx10, nat_in (lt_n hx10) hlhx10, c16, lt_f (v76.length), g27_0, g27_5, g27_6, g27_7, g27_23, g27_24, g27_25, g27_35, g27_36, g27_37, og27_0, og27_1, og27_2, IV, sts_cons, sts_nil, obs_cons, obs_nil]
        · try simp only [go_sem, Int.reduceLT, Int.reduceLE, Int.reduceBEq, Int.reduceBNe, Nat.reduceBNe, Nat.reduceAdd, Nat.reduceMul, Nat.reduceEqDiff, Nat.reduceLeDiff, Nat.reduceLT, Nat.reduceBEq, reduceCtorEq, reduceIte, c5, p6.1, p6.2, e7, p8.1, p8.2, hx10, lt_t hx10, lt_p hx10, nat_in (lt_n hx10) hlhx10, c16, g13_0, g13_5, g13_6, g13_7, g13_23, g13_24, g13_25, og13_0, og13_1]
          refine ⟨_, [], [0, 1], (Option.some.inj h).symm, by decide, ?_⟩
          try simp only [go_sem, Int.reduceLT, Int.reduceLE, Int.reduceBEq, Int.reduceBNe, Nat.reduceBNe, Nat.reduceAdd, Nat.reduceMul, Nat.reduceEqDiff, Nat.reduceLeDiff, Nat.reduceLT, Nat.reduceBEq, reduceCtorEq, reduceIte, c5, p6.1, p6.2, e7, p8.1, p8.2, hx10, lt_t hx10, lt_p hx10, nat_in (lt_n hx10) hlhx10, c16, g13_0, g13_5, g13_6, g13_7, g13_23, g13_24, g13_25, og13_0, og13_1, IV, sts_cons, sts_nil, obs_cons, obs_nil]
      · rintro ⟨mp_57, row_58⟩ ⟨sl, ob, n⟩ hI28 hW29 h
        simp only [IV, sts_cons, sts_nil, obs_cons, obs_nil, and_true, true_and, Nat.reduceAdd, str_len] at hI28
        obtain ⟨⟨g30_0, g30_5, g30_6, g30_7, g30_23, g30_24, g30_25⟩, og30_0, og30_1, hn⟩ := hI28
        subst hn
        try simp only [go_sem, Int.reduceLT, Int.reduceLE, Int.reduceBEq, Int.reduceBNe, Nat.reduceBNe, Nat.reduceAdd, Nat.reduceMul, Nat.reduceEqDiff, Nat.reduceLeDiff, Nat.reduceLT, Nat.reduceBEq, reduceCtorEq, reduceIte, c5, p6.1, p6.2, e7, p8.1, p8.2, lt_f (rules_0.length), g30_0, g30_5, g30_6, g30_7, g30_23, g30_24, g30_25, og30_0, og30_1]
        refine ⟨_, [], [0, 1], (Option.some.inj h).symm, by decide, ?_⟩
        try simp only [go_sem, Int.reduceLT, Int.reduceLE, Int.reduceBEq, Int.reduceBNe, Nat.reduceBNe, Nat.reduceAdd, Nat.reduceMul, Nat.reduceEqDiff, Nat.reduceLeDiff, Nat.reduceLT, Nat.reduceBEq, reduceCtorEq, reduceIte, c5, p6.1, p6.2, e7, p8.1, p8.2, lt_f (rules_0.length), g30_0, g30_5, g30_6, g30_7, g30_23, g30_24, g30_25, og30_0, og30_1, IV, sts_cons, sts_nil, obs_cons, obs_nil]
    · replace h := inr_K h hy1
      obtain rfl := Option.some.inj h
      try simp only [go_sem, Int.reduceLT, Int.reduceLE, Int.reduceBEq, Int.reduceBNe, Nat.reduceBNe, Nat.reduceAdd, Nat.reduceMul, Nat.reduceEqDiff, Nat.reduceLeDiff, Nat.reduceLT, Nat.reduceBEq, reduceCtorEq, reduceIte, c5, g4_0, g4_5, g4_6, og4_0, og4_1]
end Go.Proofs.Ytccbhhglghboaaa

namespace Go.Proofs.Ytccbhhglghboaaa
open Go.Proofs.Try
set_option linter.unusedSimpArgs false
set_option linter.unusedVariables false
set_option maxRecDepth 1000000
set_option maxHeartbeats 4000000
theorem s_IsAtom_ok {s_0 : ByteArray} {r : Bool} (h : s_IsAtom s_0 = some r) : Sound Try.prog J0 167 [(false, [.str s_0])] [(false, [(false, .bool r)])] := by
  refine fnk Try.func167 (by kernel_rfl) rfl (by kernel_rfl) (by kernel_rfl) ?_
  unfold s_IsAtom at h
  simp only [fnS, f167, argSt, go_sem, Int.reduceLT, Int.reduceLE, Int.reduceBEq, Int.reduceBNe, Nat.reduceBNe, Nat.reduceAdd, Nat.reduceMul, Nat.reduceEqDiff, Nat.reduceLeDiff, Nat.reduceLT, Nat.reduceBEq, reduceCtorEq, reduceIte]
  refine swp_for h (fun i _ st => IV [(0, .p false [.c (.str s_0)]), (3, .p false [.c (.int .i64 ((i : Nat) : Int))])] [] st) [] [] (by decide) ?_ ?_ ?_
  · simp only [go_sem, Int.reduceLT, Int.reduceLE, Int.reduceBEq, Int.reduceBNe, Nat.reduceBNe, Nat.reduceAdd, Nat.reduceMul, Nat.reduceEqDiff, Nat.reduceLeDiff, Nat.reduceLT, Nat.reduceBEq, reduceCtorEq, reduceIte, IV, sts_cons, sts_nil, obs_cons, obs_nil]
  · rintro i9 x10 ⟨⟩ ⟨sl, ob, n⟩ y1 hx2 hI3 hW4 h hy1
    simp only [IV, sts_cons, sts_nil, obs_cons, obs_nil, and_true, true_and, Nat.reduceAdd, str_len] at hI3
    obtain ⟨⟨g5_0, g5_3⟩, hn⟩ := hI3
    subst hn
    have hlhx2 := WF.slotS hW4 g5_0 (j := 0) rfl
    try simp only [go_sem, Int.reduceLT, Int.reduceLE, Int.reduceBEq, Int.reduceBNe, Nat.reduceBNe, Nat.reduceAdd, Nat.reduceMul, Nat.reduceEqDiff, Nat.reduceLeDiff, Nat.reduceLT, Nat.reduceBEq, reduceCtorEq, reduceIte, str_at hx2, slt_t hx2, nat_in (slt_n hx2) hlhx2, g5_0, g5_3]
    obtain ⟨v11, e6, h⟩ := bind_K h
    refine call_K (by first | exact s_l1In_ok e6 | simpa only [go_sem, Int.reduceLT, Int.reduceLE, Int.reduceBEq, Int.reduceBNe, Nat.reduceBNe, Nat.reduceAdd, Nat.reduceMul, Nat.reduceEqDiff, Nat.reduceLeDiff, Nat.reduceLT, Nat.reduceBEq, reduceCtorEq, reduceIte, str_at hx2, slt_t hx2, nat_in (slt_n hx2) hlhx2, g5_0, g5_3] using s_l1In_ok e6) ?_
    try simp only [go_sem, Int.reduceLT, Int.reduceLE, Int.reduceBEq, Int.reduceBNe, Nat.reduceBNe, Nat.reduceAdd, Nat.reduceMul, Nat.reduceEqDiff, Nat.reduceLeDiff, Nat.reduceLT, Nat.reduceBEq, reduceCtorEq, reduceIte, str_at hx2, slt_t hx2, nat_in (slt_n hx2) hlhx2, g5_0, g5_3]
    refine ite_K h (fun c7 h => ?_) (fun c7 h => ?_)
    · try simp only [go_sem, Int.reduceLT, Int.reduceLE, Int.reduceBEq, Int.reduceBNe, Nat.reduceBNe, Nat.reduceAdd, Nat.reduceMul, Nat.reduceEqDiff, Nat.reduceLeDiff, Nat.reduceLT, Nat.reduceBEq, reduceCtorEq, reduceIte, str_at hx2, slt_t hx2, nat_in (slt_n hx2) hlhx2, c7, g5_0, g5_3]
      refine ⟨_, [], [], (Option.some.inj h).symm, by decide, ?_⟩
      try simp only [go_sem, Int.reduceLT, Int.reduceLE, Int.reduceBEq, Int.reduceBNe, Nat.reduceBNe, Nat.reduceAdd, Nat.reduceMul, Nat.reduceEqDiff, Nat.reduceLeDiff, Nat.reduceLT, Nat.reduceBEq, reduceCtorEq, reduceIte, str_at hx2, slt_t hx2, nat_in (slt_n hx2) hlhx2, c7, g5_0, g5_3, IV, sts_cons, sts_nil, obs_cons, obs_nil]
    · try simp only [go_sem, Int.reduceLT, Int.reduceLE, Int.reduceBEq, Int.reduceBNe, Nat.reduceBNe, Nat.reduceAdd, Nat.reduceMul, Nat.reduceEqDiff, Nat.reduceLeDiff, Nat.reduceLT, Nat.reduceBEq, reduceCtorEq, reduceIte, str_at hx2, slt_t hx2, nat_in (slt_n hx2) hlhx2, c7, g5_0, g5_3]
      obtain ⟨v12, e8, h⟩ := bind_K h
      refine call_K (by first | exact s_l1In_ok e8 | simpa only [go_sem, Int.reduceLT, Int.reduceLE, Int.reduceBEq, Int.reduceBNe, Nat.reduceBNe, Nat.reduceAdd, Nat.reduceMul, Nat.reduceEqDiff, Nat.reduceLeDiff, Nat.reduceLT, Nat.reduceBEq, reduceCtorEq, reduceIte, str_at hx2, slt_t hx2, nat_in (slt_n hx2) hlhx2, c7, g5_0, g5_3] using s_l1In_ok e8) ?_
      try simp only [go_sem, Int.reduceLT, Int.reduceLE, Int.reduceBEq, Int.reduceBNe, Nat.reduceBNe, Nat.reduceAdd, Nat.reduceMul, Nat.reduceEqDiff, Nat.reduceLeDiff, Nat.reduceLT, Nat.reduceBEq, reduceCtorEq, reduceIte, str_at hx2, slt_t hx2, nat_in (slt_n hx2) hlhx2, c7, g5_0, g5_3]
      refine ite_K h (fun c9 h => ?_) (fun c9 h => ?_)
      · try simp only [go_sem, Int.reduceLT, Int.reduceLE, Int.reduceBEq, Int.reduceBNe, Nat.reduceBNe, Nat.reduceAdd, Nat.reduceMul, Nat.reduceEqDiff, Nat.reduceLeDiff, Nat.reduceLT, Nat.reduceBEq, reduceCtorEq, reduceIte, str_at hx2, slt_t hx2, nat_in (slt_n hx2) hlhx2, c7, c9, g5_0, g5_3]
        refine ⟨_, [], [], (Option.some.inj h).symm, by decide, ?_⟩
        try simp only [go_sem, Int.reduceLT, Int.reduceLE, Int.reduceBEq, Int.reduceBNe, Nat.reduceBNe, Nat.reduceAdd, Nat.reduceMul, Nat.reduceEqDiff, Nat.reduceLeDiff, Nat.reduceLT, Nat.reduceBEq, reduceCtorEq, reduceIte, str_at hx2, slt_t hx2, nat_in (slt_n hx2) hlhx2, c7, c9, g5_0, g5_3, IV, sts_cons, sts_nil, obs_cons, obs_nil]
      · replace h := inr_K h hy1
        obtain rfl := Option.some.inj h
        try simp only [go_sem, Int.reduceLT, Int.reduceLE, Int.reduceBEq, Int.reduceBNe, Nat.reduceBNe, Nat.reduceAdd, Nat.reduceMul, Nat.reduceEqDiff, Nat.reduceLeDiff, Nat.reduceLT, Nat.reduceBEq, reduceCtorEq, reduceIte, str_at hx2, slt_t hx2, nat_in (slt_n hx2) hlhx2, c7, c9, g5_0, g5_3]
  · rintro ⟨⟩ ⟨sl, ob, n⟩ hI10 hW11 h
    simp only [IV, sts_cons, sts_nil, obs_cons, obs_nil, and_true, true_and, Nat.reduceAdd, str_len] at hI10
    obtain ⟨⟨g12_0, g12_3⟩, hn⟩ := hI10
    subst hn
    try simp only [go_sem, Int.reduceLT, Int.reduceLE, Int.reduceBEq, Int.reduceBNe, Nat.reduceBNe, Nat.reduceAdd, Nat.reduceMul, Nat.reduceEqDiff, Nat.reduceLeDiff, Nat.reduceLT, Nat.reduceBEq, reduceCtorEq, reduceIte, lt_f (s_0.size), g12_0, g12_3]
    obtain ⟨v13, e13, h⟩ := bind_K h
    refine call_K (by first | exact s_l1In_ok e13 | simpa only [go_sem, Int.reduceLT, Int.reduceLE, Int.reduceBEq, Int.reduceBNe, Nat.reduceBNe, Nat.reduceAdd, Nat.reduceMul, Nat.reduceEqDiff, Nat.reduceLeDiff, Nat.reduceLT, Nat.reduceBEq, reduceCtorEq, reduceIte, lt_f (s_0.size), g12_0, g12_3] using s_l1In_ok e13) ?_
    obtain rfl := Option.some.inj h
    try simp only [go_sem, Int.reduceLT, Int.reduceLE, Int.reduceBEq, Int.reduceBNe, Nat.reduceBNe, Nat.reduceAdd, Nat.reduceMul, Nat.reduceEqDiff, Nat.reduceLeDiff, Nat.reduceLT, Nat.reduceBEq, reduceCtorEq, reduceIte, lt_f (s_0.size), g12_0, g12_3]
theorem i_IsVar_ok {s_0 : ByteArray} {r : Bool} (h : i_IsVar s_0 = some r) : Sound Try.prog J0 176 [(false, [.str s_0])] [(false, [(false, .bool r)])] := by
  refine fnk Try.func176 (by kernel_rfl) rfl (by kernel_rfl) (by kernel_rfl) ?_
  unfold i_IsVar at h
  simp only [fnS, f176, argSt, go_sem, Int.reduceLT, Int.reduceLE, Int.reduceBEq, Int.reduceBNe, Nat.reduceBNe, Nat.reduceAdd, Nat.reduceMul, Nat.reduceEqDiff, Nat.reduceLeDiff, Nat.reduceLT, Nat.reduceBEq, reduceCtorEq, reduceIte]
  refine ite_K h (fun c1 h => ?_) (fun c1 h => ?_)
  · obtain ⟨b1, a2, e3, h⟩ := sat_K h
    try simp only [go_sem, Int.reduceLT, Int.reduceLE, Int.reduceBEq, Int.reduceBNe, Nat.reduceBNe, Nat.reduceAdd, Nat.reduceMul, Nat.reduceEqDiff, Nat.reduceLeDiff, Nat.reduceLT, Nat.reduceBEq, reduceCtorEq, reduceIte, c1, a2, e3]
    refine ite_K h (fun c4 h => ?_) (fun c4 h => ?_)
    · obtain ⟨p5, h⟩ := chk_K h
      try simp only [go_sem, Int.reduceLT, Int.reduceLE, Int.reduceBEq, Int.reduceBNe, Nat.reduceBNe, Nat.reduceAdd, Nat.reduceMul, Nat.reduceEqDiff, Nat.reduceLeDiff, Nat.reduceLT, Nat.reduceBEq, reduceCtorEq, reduceIte, c1, a2, e3, c4, p5.1, p5.2]
      obtain ⟨v2, e6, h⟩ := bind_K h
      refine call_K (by first | exact i_IsAtom_ok e6 | simpa only [go_sem, Int.reduceLT, Int.reduceLE, Int.reduceBEq, Int.reduceBNe, Nat.reduceBNe, Nat.reduceAdd, Nat.reduceMul, Nat.reduceEqDiff, Nat.reduceLeDiff, Nat.reduceLT, Nat.reduceBEq, reduceCtorEq, reduceIte, c1, a2, e3, c4, p5.1, p5.2] using i_IsAtom_ok e6) ?_
      obtain rfl := Option.some.inj h
      try simp only [go_sem, Int.reduceLT, Int.reduceLE, Int.reduceBEq, Int.reduceBNe, Nat.reduceBNe, Nat.reduceAdd, Nat.reduceMul, Nat.reduceEqDiff, Nat.reduceLeDiff, Nat.reduceLT, Nat.reduceBEq, reduceCtorEq, reduceIte, c1, a2, e3, c4, p5.1, p5.2]
    · obtain rfl := Option.some.inj h
      try simp only [go_sem, Int.reduceLT, Int.reduceLE, Int.reduceBEq, Int.reduceBNe, Nat.reduceBNe, Nat.reduceAdd, Nat.reduceMul, Nat.reduceEqDiff, Nat.reduceLeDiff, Nat.reduceLT, Nat.reduceBEq, reduceCtorEq, reduceIte, c1, a2, e3, c4]
  · obtain rfl := Option.some.inj h
    try simp only [go_sem, Int.reduceLT, Int.reduceLE, Int.reduceBEq, Int.reduceBNe, Nat.reduceBNe, Nat.reduceAdd, Nat.reduceMul, Nat.reduceEqDiff, Nat.reduceLeDiff, Nat.reduceLT, Nat.reduceBEq, reduceCtorEq, reduceIte, c1]
theorem i_IsName_ok {s_0 : ByteArray} {r : Bool} (h : i_IsName s_0 = some r) : Sound Try.prog J0 137 [(false, [.str s_0])] [(false, [(false, .bool r)])] := by
  refine fnk Try.func137 (by kernel_rfl) rfl (by kernel_rfl) (by kernel_rfl) ?_
  unfold i_IsName at h
  simp only [fnS, f137, argSt, go_sem, Int.reduceLT, Int.reduceLE, Int.reduceBEq, Int.reduceBNe, Nat.reduceBNe, Nat.reduceAdd, Nat.reduceMul, Nat.reduceEqDiff, Nat.reduceLeDiff, Nat.reduceLT, Nat.reduceBEq, reduceCtorEq, reduceIte]
  obtain ⟨v1, e1, h⟩ := bind_K h
  refine call_K (by first | exact i_IsAtom_ok e1 | simpa only [go_sem, Int.reduceLT, Int.reduceLE, Int.reduceBEq, Int.reduceBNe, Nat.reduceBNe, Nat.reduceAdd, Nat.reduceMul, Nat.reduceEqDiff, Nat.reduceLeDiff, Nat.reduceLT, Nat.reduceBEq, reduceCtorEq, reduceIte] using i_IsAtom_ok e1) ?_
  try simp only [go_sem, Int.reduceLT, Int.reduceLE, Int.reduceBEq, Int.reduceBNe, Nat.reduceBNe, Nat.reduceAdd, Nat.reduceMul, Nat.reduceEqDiff, Nat.reduceLeDiff, Nat.reduceLT, Nat.reduceBEq, reduceCtorEq, reduceIte]
  refine ite_K h (fun c2 h => ?_) (fun c2 h => ?_)
  · obtain ⟨b2, a3, e4, h⟩ := sat_K h
    obtain rfl := Option.some.inj h
    try simp only [go_sem, Int.reduceLT, Int.reduceLE, Int.reduceBEq, Int.reduceBNe, Nat.reduceBNe, Nat.reduceAdd, Nat.reduceMul, Nat.reduceEqDiff, Nat.reduceLeDiff, Nat.reduceLT, Nat.reduceBEq, reduceCtorEq, reduceIte, c2, a3, e4]
  · obtain rfl := Option.some.inj h
    try simp only [go_sem, Int.reduceLT, Int.reduceLE, Int.reduceBEq, Int.reduceBNe, Nat.reduceBNe, Nat.reduceAdd, Nat.reduceMul, Nat.reduceEqDiff, Nat.reduceLeDiff, Nat.reduceLT, Nat.reduceBEq, reduceCtorEq, reduceIte, c2]
theorem i_termsOf_ok {x_0 : CondD} {r : (List ByteArray)} (h : i_termsOf x_0 = some r) : Sound Try.prog J0 149 [(true, eCond x_0)] [(false, [(false, .sl 9 1 (List.map eStr r))])] := by
  refine fnk Try.func149 (by kernel_rfl) rfl (by kernel_rfl) (by kernel_rfl) ?_
  unfold i_termsOf at h
  simp only [fnS, f149, argSt, go_sem, Int.reduceLT, Int.reduceLE, Int.reduceBEq, Int.reduceBNe, Nat.reduceBNe, Nat.reduceAdd, Nat.reduceMul, Nat.reduceEqDiff, Nat.reduceLeDiff, Nat.reduceLT, Nat.reduceBEq, reduceCtorEq, reduceIte]
  obtain ⟨v1, e1, h⟩ := bind_K h
  refine call_K (by first | exact i_copyTexts_ok e1 | simpa only [go_sem, Int.reduceLT, Int.reduceLE, Int.reduceBEq, Int.reduceBNe, Nat.reduceBNe, Nat.reduceAdd, Nat.reduceMul, Nat.reduceEqDiff, Nat.reduceLeDiff, Nat.reduceLT, Nat.reduceBEq, reduceCtorEq, reduceIte] using i_copyTexts_ok e1) ?_
  obtain ⟨p2, h⟩ := chk_K h
  try simp only [Nat.reduceLeDiff] at p2
  obtain rfl := Option.some.inj h
  try simp only [go_sem, Int.reduceLT, Int.reduceLE, Int.reduceBEq, Int.reduceBNe, Nat.reduceBNe, Nat.reduceAdd, Nat.reduceMul, Nat.reduceEqDiff, Nat.reduceLeDiff, Nat.reduceLT, Nat.reduceBEq, reduceCtorEq, reduceIte, p2]
end Go.Proofs.Ytccbhhglghboaaa

namespace Go.Proofs.Ytccbhhglghboaaa
open Go.Proofs.Try
set_option linter.unusedSimpArgs false
set_option linter.unusedVariables false
set_option maxRecDepth 1000000
set_option maxHeartbeats 4000000
theorem s_IsVar_ok {s_0 : ByteArray} {r : Bool} (h : s_IsVar s_0 = some r) : Sound Try.prog J0 147 [(false, [.str s_0])] [(false, [(false, .bool r)])] := by
  refine fnk Try.func147 (by kernel_rfl) rfl (by kernel_rfl) (by kernel_rfl) ?_
  unfold s_IsVar at h
  simp only [fnS, f147, argSt, go_sem, Int.reduceLT, Int.reduceLE, Int.reduceBEq, Int.reduceBNe, Nat.reduceBNe, Nat.reduceAdd, Nat.reduceMul, Nat.reduceEqDiff, Nat.reduceLeDiff, Nat.reduceLT, Nat.reduceBEq, reduceCtorEq, reduceIte]
  refine ite_K h (fun c1 h => ?_) (fun c1 h => ?_)
  · obtain ⟨b1, a2, e3, h⟩ := sat_K h
    try simp only [go_sem, Int.reduceLT, Int.reduceLE, Int.reduceBEq, Int.reduceBNe, Nat.reduceBNe, Nat.reduceAdd, Nat.reduceMul, Nat.reduceEqDiff, Nat.reduceLeDiff, Nat.reduceLT, Nat.reduceBEq, reduceCtorEq, reduceIte, c1, a2, e3]
    refine ite_K h (fun c4 h => ?_) (fun c4 h => ?_)
    · obtain ⟨p5, h⟩ := chk_K h
      try simp only [go_sem, Int.reduceLT, Int.reduceLE, Int.reduceBEq, Int.reduceBNe, Nat.reduceBNe, Nat.reduceAdd, Nat.reduceMul, Nat.reduceEqDiff, Nat.reduceLeDiff, Nat.reduceLT, Nat.reduceBEq, reduceCtorEq, reduceIte, c1, a2, e3, c4, p5.1, p5.2]
      obtain ⟨v2, e6, h⟩ := bind_K h
      refine call_K (by first | exact s_IsAtom_ok e6 | simpa only [go_sem, Int.reduceLT, Int.reduceLE, Int.reduceBEq, Int.reduceBNe, Nat.reduceBNe, Nat.reduceAdd, Nat.reduceMul, Nat.reduceEqDiff, Nat.reduceLeDiff, Nat.reduceLT, Nat.reduceBEq, reduceCtorEq, reduceIte, c1, a2, e3, c4, p5.1, p5.2] using s_IsAtom_ok e6) ?_
      obtain rfl := Option.some.inj h
      try simp only [go_sem, Int.reduceLT, Int.reduceLE, Int.reduceBEq, Int.reduceBNe, Nat.reduceBNe, Nat.reduceAdd, Nat.reduceMul, Nat.reduceEqDiff, Nat.reduceLeDiff, Nat.reduceLT, Nat.reduceBEq, reduceCtorEq, reduceIte, c1, a2, e3, c4, p5.1, p5.2]
    · obtain rfl := Option.some.inj h
      try simp only [go_sem, Int.reduceLT, Int.reduceLE, Int.reduceBEq, Int.reduceBNe, Nat.reduceBNe, Nat.reduceAdd, Nat.reduceMul, Nat.reduceEqDiff, Nat.reduceLeDiff, Nat.reduceLT, Nat.reduceBEq, reduceCtorEq, reduceIte, c1, a2, e3, c4]
  · obtain rfl := Option.some.inj h
    try simp only [go_sem, Int.reduceLT, Int.reduceLE, Int.reduceBEq, Int.reduceBNe, Nat.reduceBNe, Nat.reduceAdd, Nat.reduceMul, Nat.reduceEqDiff, Nat.reduceLeDiff, Nat.reduceLT, Nat.reduceBEq, reduceCtorEq, reduceIte, c1]
theorem s_IsName_ok {s_0 : ByteArray} {r : Bool} (h : s_IsName s_0 = some r) : Sound Try.prog J0 128 [(false, [.str s_0])] [(false, [(false, .bool r)])] := by
  refine fnk Try.func128 (by kernel_rfl) rfl (by kernel_rfl) (by kernel_rfl) ?_
  unfold s_IsName at h
  simp only [fnS, f128, argSt, go_sem, Int.reduceLT, Int.reduceLE, Int.reduceBEq, Int.reduceBNe, Nat.reduceBNe, Nat.reduceAdd, Nat.reduceMul, Nat.reduceEqDiff, Nat.reduceLeDiff, Nat.reduceLT, Nat.reduceBEq, reduceCtorEq, reduceIte]
  obtain ⟨v1, e1, h⟩ := bind_K h
  refine call_K (by first | exact s_IsAtom_ok e1 | simpa only [go_sem, Int.reduceLT, Int.reduceLE, Int.reduceBEq, Int.reduceBNe, Nat.reduceBNe, Nat.reduceAdd, Nat.reduceMul, Nat.reduceEqDiff, Nat.reduceLeDiff, Nat.reduceLT, Nat.reduceBEq, reduceCtorEq, reduceIte] using s_IsAtom_ok e1) ?_
  try simp only [go_sem, Int.reduceLT, Int.reduceLE, Int.reduceBEq, Int.reduceBNe, Nat.reduceBNe, Nat.reduceAdd, Nat.reduceMul, Nat.reduceEqDiff, Nat.reduceLeDiff, Nat.reduceLT, Nat.reduceBEq, reduceCtorEq, reduceIte]
  refine ite_K h (fun c2 h => ?_) (fun c2 h => ?_)
  · obtain ⟨b2, a3, e4, h⟩ := sat_K h
    try simp only [go_sem, Int.reduceLT, Int.reduceLE, Int.reduceBEq, Int.reduceBNe, Nat.reduceBNe, Nat.reduceAdd, Nat.reduceMul, Nat.reduceEqDiff, Nat.reduceLeDiff, Nat.reduceLT, Nat.reduceBEq, reduceCtorEq, reduceIte, c2, a3, e4]
    obtain ⟨v3, e5, h⟩ := bind_K h
    refine call_K (by first | exact s_l1In_ok e5 | simpa only [go_sem, Int.reduceLT, Int.reduceLE, Int.reduceBEq, Int.reduceBNe, Nat.reduceBNe, Nat.reduceAdd, Nat.reduceMul, Nat.reduceEqDiff, Nat.reduceLeDiff, Nat.reduceLT, Nat.reduceBEq, reduceCtorEq, reduceIte, c2, a3, e4] using s_l1In_ok e5) ?_
    obtain rfl := Option.some.inj h
    try simp only [go_sem, Int.reduceLT, Int.reduceLE, Int.reduceBEq, Int.reduceBNe, Nat.reduceBNe, Nat.reduceAdd, Nat.reduceMul, Nat.reduceEqDiff, Nat.reduceLeDiff, Nat.reduceLT, Nat.reduceBEq, reduceCtorEq, reduceIte, c2, a3, e4]
  · obtain rfl := Option.some.inj h
    try simp only [go_sem, Int.reduceLT, Int.reduceLE, Int.reduceBEq, Int.reduceBNe, Nat.reduceBNe, Nat.reduceAdd, Nat.reduceMul, Nat.reduceEqDiff, Nat.reduceLeDiff, Nat.reduceLT, Nat.reduceBEq, reduceCtorEq, reduceIte, c2]
theorem i_varsAmong_ok {l_0 : (List ByteArray)} {r : (List ByteArray)} (h : i_varsAmong l_0 = some r) : Sound Try.prog J0 141 [(false, [.sl 9 1 (List.map eStr l_0)])] [(false, [(false, .sl 9 1 (List.map eStr r))])] := by
  refine fnk Try.func141 (by kernel_rfl) rfl (by kernel_rfl) (by kernel_rfl) ?_
  unfold i_varsAmong at h
  simp only [fnS, f141, argSt, go_sem, Int.reduceLT, Int.reduceLE, Int.reduceBEq, Int.reduceBNe, Nat.reduceBNe, Nat.reduceAdd, Nat.reduceMul, Nat.reduceEqDiff, Nat.reduceLeDiff, Nat.reduceLT, Nat.reduceBEq, reduceCtorEq, reduceIte]
  refine swp_for h (fun i row_5 st => IV [(3, .p false [.row 0]), (6, .p false [.c (.sl 9 1 (List.map eStr l_0))]), (7, .p false [.c (.int .i64 ((l_0.length : Nat) : Int))]), (8, .p false [.c (.int .i64 ((i : Nat) : Int))])] [.row 9 1 (List.map eStr row_5) 2] st) [(false, 3, 0)] [80] (by decide) ?_ ?_ ?_
  · simp only [go_sem, Int.reduceLT, Int.reduceLE, Int.reduceBEq, Int.reduceBNe, Nat.reduceBNe, Nat.reduceAdd, Nat.reduceMul, Nat.reduceEqDiff, Nat.reduceLeDiff, Nat.reduceLT, Nat.reduceBEq, reduceCtorEq, reduceIte, IV, sts_cons, sts_nil, obs_cons, obs_nil]
  · rintro i9 x10 row_5 ⟨sl, ob, n⟩ y1 hx2 hI3 hW4 h hy1
    simp only [IV, sts_cons, sts_nil, obs_cons, obs_nil, and_true, true_and, Nat.reduceAdd, str_len] at hI3
    obtain ⟨⟨g5_3, g5_6, g5_7, g5_8⟩, og5_0, hn⟩ := hI3
    subst hn
    have hlhx2 := WF.slotL hW4 g5_6 (j := 0) rfl
    try simp only [go_sem, Int.reduceLT, Int.reduceLE, Int.reduceBEq, Int.reduceBNe, Nat.reduceBNe, Nat.reduceAdd, Nat.reduceMul, Nat.reduceEqDiff, Nat.reduceLeDiff, Nat.reduceLT, Nat.reduceBEq, reduceCtorEq, reduceIte, hx2, lt_t hx2, lt_p hx2, nat_in (lt_n hx2) hlhx2, g5_3, g5_6, g5_7, g5_8, og5_0]
    obtain ⟨v11, e6, h⟩ := bind_K h
    refine call_K (by first | exact i_IsVar_ok e6 | simpa only [go_sem, Int.reduceLT, Int.reduceLE, Int.reduceBEq, Int.reduceBNe, Nat.reduceBNe, Nat.reduceAdd, Nat.reduceMul, Nat.reduceEqDiff, Nat.reduceLeDiff, Nat.reduceLT, Nat.reduceBEq, reduceCtorEq, reduceIte, hx2, lt_t hx2, lt_p hx2, nat_in (lt_n hx2) hlhx2, g5_3, g5_6, g5_7, g5_8, og5_0] using i_IsVar_ok e6) ?_
    try simp only [go_sem, Int.reduceLT, Int.reduceLE, Int.reduceBEq, Int.reduceBNe, Nat.reduceBNe, Nat.reduceAdd, Nat.reduceMul, Nat.reduceEqDiff, Nat.reduceLeDiff, Nat.reduceLT, Nat.reduceBEq, reduceCtorEq, reduceIte, hx2, lt_t hx2, lt_p hx2, nat_in (lt_n hx2) hlhx2, g5_3, g5_6, g5_7, g5_8, og5_0]
    refine ite_K h (fun c7 h => ?_) (fun c7 h => ?_)
    · obtain ⟨p8, h⟩ := chk_K h
      try simp only [Nat.reduceLeDiff] at p8
      try simp only [go_sem, Int.reduceLT, Int.reduceLE, Int.reduceBEq, Int.reduceBNe, Nat.reduceBNe, Nat.reduceAdd, Nat.reduceMul, Nat.reduceEqDiff, Nat.reduceLeDiff, Nat.reduceLT, Nat.reduceBEq, reduceCtorEq, reduceIte, hx2, lt_t hx2, lt_p hx2, nat_in (lt_n hx2) hlhx2, c7, p8, g5_3, g5_6, g5_7, g5_8, og5_0]
      refine ⟨_, [], [145], (Option.some.inj h).symm, by decide, ?_⟩
      try simp only [go_sem, Int.reduceLT, Int.reduceLE, Int.reduceBEq, Int.reduceBNe, Nat.reduceBNe, Nat.reduceAdd, Nat.reduceMul, Nat.reduceEqDiff, Nat.reduceLeDiff, Nat.reduceLT, Nat.reduceBEq, reduceCtorEq, reduceIte, hx2, lt_t hx2, lt_p hx2, nat_in (lt_n hx2) hlhx2, c7, p8, g5_3, g5_6, g5_7, g5_8, og5_0, IV, sts_cons, sts_nil, obs_cons, obs_nil]
    · try simp only [go_sem, Int.reduceLT, Int.reduceLE, Int.reduceBEq, Int.reduceBNe, Nat.reduceBNe, Nat.reduceAdd, Nat.reduceMul, Nat.reduceEqDiff, Nat.reduceLeDiff, Nat.reduceLT, Nat.reduceBEq, reduceCtorEq, reduceIte, hx2, lt_t hx2, lt_p hx2, nat_in (lt_n hx2) hlhx2, c7, g5_3, g5_6, g5_7, g5_8, og5_0]
      refine ⟨_, [], [0], (Option.some.inj h).symm, by decide, ?_⟩
      try simp only [go_sem, Int.reduceLT, Int.reduceLE, Int.reduceBEq, Int.reduceBNe, Nat.reduceBNe, Nat.reduceAdd, Nat.reduceMul, Nat.reduceEqDiff, Nat.reduceLeDiff, Nat.reduceLT, Nat.reduceBEq, reduceCtorEq, reduceIte, hx2, lt_t hx2, lt_p hx2, nat_in (lt_n hx2) hlhx2, c7, g5_3, g5_6, g5_7, g5_8, og5_0, IV, sts_cons, sts_nil, obs_cons, obs_nil]
  · rintro row_5 ⟨sl, ob, n⟩ hI9 hW10 h
    simp only [IV, sts_cons, sts_nil, obs_cons, obs_nil, and_true, true_and, Nat.reduceAdd, str_len] at hI9
    obtain ⟨⟨g11_3, g11_6, g11_7, g11_8⟩, og11_0, hn⟩ := hI9
    subst hn
    obtain rfl := Option.some.inj h
    try simp only [go_sem, Int.reduceLT, Int.reduceLE, Int.reduceBEq, Int.reduceBNe, Nat.reduceBNe, Nat.reduceAdd, Nat.reduceMul, Nat.reduceEqDiff, Nat.reduceLeDiff, Nat.reduceLT, Nat.reduceBEq, reduceCtorEq, reduceIte, lt_f (l_0.length), g11_3, g11_6, g11_7, g11_8, og11_0]
theorem i_IsTerm_ok {s_0 : ByteArray} {r : Bool} (h : i_IsTerm s_0 = some r) : Sound Try.prog J0 173 [(false, [.str s_0])] [(false, [(false, .bool r)])] := by
  refine fnk Try.func173 (by kernel_rfl) rfl (by kernel_rfl) (by kernel_rfl) ?_
  unfold i_IsTerm at h
  simp only [fnS, f173, argSt, go_sem, Int.reduceLT, Int.reduceLE, Int.reduceBEq, Int.reduceBNe, Nat.reduceBNe, Nat.reduceAdd, Nat.reduceMul, Nat.reduceEqDiff, Nat.reduceLeDiff, Nat.reduceLT, Nat.reduceBEq, reduceCtorEq, reduceIte]
  obtain ⟨v1, e1, h⟩ := bind_K h
  refine call_K (by first | exact i_IsAtom_ok e1 | simpa only [go_sem, Int.reduceLT, Int.reduceLE, Int.reduceBEq, Int.reduceBNe, Nat.reduceBNe, Nat.reduceAdd, Nat.reduceMul, Nat.reduceEqDiff, Nat.reduceLeDiff, Nat.reduceLT, Nat.reduceBEq, reduceCtorEq, reduceIte] using i_IsAtom_ok e1) ?_
  try simp only [go_sem, Int.reduceLT, Int.reduceLE, Int.reduceBEq, Int.reduceBNe, Nat.reduceBNe, Nat.reduceAdd, Nat.reduceMul, Nat.reduceEqDiff, Nat.reduceLeDiff, Nat.reduceLT, Nat.reduceBEq, reduceCtorEq, reduceIte]
  refine ite_K h (fun c2 h => ?_) (fun c2 h => ?_)
  · obtain rfl := Option.some.inj h
    try simp only [go_sem, Int.reduceLT, Int.reduceLE, Int.reduceBEq, Int.reduceBNe, Nat.reduceBNe, Nat.reduceAdd, Nat.reduceMul, Nat.reduceEqDiff, Nat.reduceLeDiff, Nat.reduceLT, Nat.reduceBEq, reduceCtorEq, reduceIte, c2]
  · try simp only [go_sem, Int.reduceLT, Int.reduceLE, Int.reduceBEq, Int.reduceBNe, Nat.reduceBNe, Nat.reduceAdd, Nat.reduceMul, Nat.reduceEqDiff, Nat.reduceLeDiff, Nat.reduceLT, Nat.reduceBEq, reduceCtorEq, reduceIte, c2]
    obtain ⟨v2, e3, h⟩ := bind_K h
    refine call_K (by first | exact i_IsVar_ok e3 | simpa only [go_sem, Int.reduceLT, Int.reduceLE, Int.reduceBEq, Int.reduceBNe, Nat.reduceBNe, Nat.reduceAdd, Nat.reduceMul, Nat.reduceEqDiff, Nat.reduceLeDiff, Nat.reduceLT, Nat.reduceBEq, reduceCtorEq, reduceIte, c2] using i_IsVar_ok e3) ?_
    obtain rfl := Option.some.inj h
    try simp only [go_sem, Int.reduceLT, Int.reduceLE, Int.reduceBEq, Int.reduceBNe, Nat.reduceBNe, Nat.reduceAdd, Nat.reduceMul, Nat.reduceEqDiff, Nat.reduceLeDiff, Nat.reduceLT, Nat.reduceBEq, reduceCtorEq, reduceIte, c2]
end Go.Proofs.Ytccbhhglghboaaa

namespace Go.Proofs.Ytccbhhglghboaaa
open Go.Proofs.Try
set_option linter.unusedSimpArgs false
set_option linter.unusedVariables false
set_option maxRecDepth 1000000
set_option maxHeartbeats 4000000
theorem s_VarsOf_ok {p_0 : PatternD} {r : (List ByteArray)} (h : s_VarsOf p_0 = some r) : Sound Try.prog J0 133 [(true, ePattern p_0)] [(false, [(false, .sl 9 1 (List.map eStr r))])] := by
  refine fnk Try.func133 (by kernel_rfl) rfl (by kernel_rfl) (by kernel_rfl) ?_
  unfold s_VarsOf at h
  simp only [fnS, f133, argSt, go_sem, Int.reduceLT, Int.reduceLE, Int.reduceBEq, Int.reduceBNe, Nat.reduceBNe, Nat.reduceAdd, Nat.reduceMul, Nat.reduceEqDiff, Nat.reduceLeDiff, Nat.reduceLT, Nat.reduceBEq, reduceCtorEq, reduceIte]
  refine swp_for h (fun i row_4 st => IV [(1, .bp 0 0), (3, .p false [.row 1]), (4, .p false [.c (.int .i64 ((i : Nat) : Int))])] [.box 118 [.c (.str p_0.rel), .c (.sl 9 1 (List.map eStr p_0.args))], .row 9 1 (List.map eStr row_4) 2] st) [] [0, 32] (by decide) ?_ ?_ ?_
  · simp only [go_sem, Int.reduceLT, Int.reduceLE, Int.reduceBEq, Int.reduceBNe, Nat.reduceBNe, Nat.reduceAdd, Nat.reduceMul, Nat.reduceEqDiff, Nat.reduceLeDiff, Nat.reduceLT, Nat.reduceBEq, reduceCtorEq, reduceIte, IV, sts_cons, sts_nil, obs_cons, obs_nil]
  · rintro i9 x10 row_4 ⟨sl, ob, n⟩ y1 hx2 hI3 hW4 h hy1
    simp only [IV, sts_cons, sts_nil, obs_cons, obs_nil, and_true, true_and, Nat.reduceAdd, str_len] at hI3
    obtain ⟨⟨g5_1, g5_3, g5_4⟩, og5_0, og5_1, hn⟩ := hI3
    subst hn
    have hlhx2 := WF.boxL hW4 og5_0 (j := 1) rfl
    try simp only [go_sem, Int.reduceLT, Int.reduceLE, Int.reduceBEq, Int.reduceBNe, Nat.reduceBNe, Nat.reduceAdd, Nat.reduceMul, Nat.reduceEqDiff, Nat.reduceLeDiff, Nat.reduceLT, Nat.reduceBEq, reduceCtorEq, reduceIte, hx2, lt_t hx2, lt_p hx2, nat_in (lt_n hx2) hlhx2, g5_1, g5_3, g5_4, og5_0, og5_1]
    obtain ⟨v11, e6, h⟩ := bind_K h
    refine call_K (by first | exact s_IsVar_ok e6 | simpa only [go_sem, Int.reduceLT, Int.reduceLE, Int.reduceBEq, Int.reduceBNe, Nat.reduceBNe, Nat.reduceAdd, Nat.reduceMul, Nat.reduceEqDiff, Nat.reduceLeDiff, Nat.reduceLT, Nat.reduceBEq, reduceCtorEq, reduceIte, hx2, lt_t hx2, lt_p hx2, nat_in (lt_n hx2) hlhx2, g5_1, g5_3, g5_4, og5_0, og5_1] using s_IsVar_ok e6) ?_
    try simp only [go_sem, Int.reduceLT, Int.reduceLE, Int.reduceBEq, Int.reduceBNe, Nat.reduceBNe, Nat.reduceAdd, Nat.reduceMul, Nat.reduceEqDiff, Nat.reduceLeDiff, Nat.reduceLT, Nat.reduceBEq, reduceCtorEq, reduceIte, hx2, lt_t hx2, lt_p hx2, nat_in (lt_n hx2) hlhx2, g5_1, g5_3, g5_4, og5_0, og5_1]
    refine ite_K h (fun c7 h => ?_) (fun c7 h => ?_)
    · try simp only [go_sem, Int.reduceLT, Int.reduceLE, Int.reduceBEq, Int.reduceBNe, Nat.reduceBNe, Nat.reduceAdd, Nat.reduceMul, Nat.reduceEqDiff, Nat.reduceLeDiff, Nat.reduceLT, Nat.reduceBEq, reduceCtorEq, reduceIte, hx2, lt_t hx2, lt_p hx2, nat_in (lt_n hx2) hlhx2, c7, g5_1, g5_3, g5_4, og5_0, og5_1]
      obtain ⟨v12, e8, h⟩ := bind_K h
      refine call_K (by first | exact s_l1Put_ok e8 | simpa only [go_sem, Int.reduceLT, Int.reduceLE, Int.reduceBEq, Int.reduceBNe, Nat.reduceBNe, Nat.reduceAdd, Nat.reduceMul, Nat.reduceEqDiff, Nat.reduceLeDiff, Nat.reduceLT, Nat.reduceBEq, reduceCtorEq, reduceIte, hx2, lt_t hx2, lt_p hx2, nat_in (lt_n hx2) hlhx2, c7, g5_1, g5_3, g5_4, og5_0, og5_1] using s_l1Put_ok e8) ?_
      try simp only [go_sem, Int.reduceLT, Int.reduceLE, Int.reduceBEq, Int.reduceBNe, Nat.reduceBNe, Nat.reduceAdd, Nat.reduceMul, Nat.reduceEqDiff, Nat.reduceLeDiff, Nat.reduceLT, Nat.reduceBEq, reduceCtorEq, reduceIte, hx2, lt_t hx2, lt_p hx2, nat_in (lt_n hx2) hlhx2, c7, g5_1, g5_3, g5_4, og5_0, og5_1]
      refine ⟨_, [], [0, 274], (Option.some.inj h).symm, by decide, ?_⟩
      try simp only [go_sem, Int.reduceLT, Int.reduceLE, Int.reduceBEq, Int.reduceBNe, Nat.reduceBNe, Nat.reduceAdd, Nat.reduceMul, Nat.reduceEqDiff, Nat.reduceLeDiff, Nat.reduceLT, Nat.reduceBEq, reduceCtorEq, reduceIte, hx2, lt_t hx2, lt_p hx2, nat_in (lt_n hx2) hlhx2, c7, g5_1, g5_3, g5_4, og5_0, og5_1, IV, sts_cons, sts_nil, obs_cons, obs_nil]
    · try simp only [go_sem, Int.reduceLT, Int.reduceLE, Int.reduceBEq, Int.reduceBNe, Nat.reduceBNe, Nat.reduceAdd, Nat.reduceMul, Nat.reduceEqDiff, Nat.reduceLeDiff, Nat.reduceLT, Nat.reduceBEq, reduceCtorEq, reduceIte, hx2, lt_t hx2, lt_p hx2, nat_in (lt_n hx2) hlhx2, c7, g5_1, g5_3, g5_4, og5_0, og5_1]
      refine ⟨_, [], [0, 1], (Option.some.inj h).symm, by decide, ?_⟩
      try simp only [go_sem, Int.reduceLT, Int.reduceLE, Int.reduceBEq, Int.reduceBNe, Nat.reduceBNe, Nat.reduceAdd, Nat.reduceMul, Nat.reduceEqDiff, Nat.reduceLeDiff, Nat.reduceLT, Nat.reduceBEq, reduceCtorEq, reduceIte, hx2, lt_t hx2, lt_p hx2, nat_in (lt_n hx2) hlhx2, c7, g5_1, g5_3, g5_4, og5_0, og5_1, IV, sts_cons, sts_nil, obs_cons, obs_nil]
  · rintro row_4 ⟨sl, ob, n⟩ hI9 hW10 h
    simp only [IV, sts_cons, sts_nil, obs_cons, obs_nil, and_true, true_and, Nat.reduceAdd, str_len] at hI9
    obtain ⟨⟨g11_1, g11_3, g11_4⟩, og11_0, og11_1, hn⟩ := hI9
    subst hn
    obtain rfl := Option.some.inj h
    try simp only [go_sem, Int.reduceLT, Int.reduceLE, Int.reduceBEq, Int.reduceBNe, Nat.reduceBNe, Nat.reduceAdd, Nat.reduceMul, Nat.reduceEqDiff, Nat.reduceLeDiff, Nat.reduceLT, Nat.reduceBEq, reduceCtorEq, reduceIte, lt_f (p_0.args.length), g11_1, g11_3, g11_4, og11_0, og11_1]
theorem s_IsTerm_ok {s_0 : ByteArray} {r : Bool} (h : s_IsTerm s_0 = some r) : Sound Try.prog J0 169 [(false, [.str s_0])] [(false, [(false, .bool r)])] := by
  refine fnk Try.func169 (by kernel_rfl) rfl (by kernel_rfl) (by kernel_rfl) ?_
  unfold s_IsTerm at h
  simp only [fnS, f169, argSt, go_sem, Int.reduceLT, Int.reduceLE, Int.reduceBEq, Int.reduceBNe, Nat.reduceBNe, Nat.reduceAdd, Nat.reduceMul, Nat.reduceEqDiff, Nat.reduceLeDiff, Nat.reduceLT, Nat.reduceBEq, reduceCtorEq, reduceIte]
  obtain ⟨v1, e1, h⟩ := bind_K h
  refine call_K (by first | exact s_IsAtom_ok e1 | simpa only [go_sem, Int.reduceLT, Int.reduceLE, Int.reduceBEq, Int.reduceBNe, Nat.reduceBNe, Nat.reduceAdd, Nat.reduceMul, Nat.reduceEqDiff, Nat.reduceLeDiff, Nat.reduceLT, Nat.reduceBEq, reduceCtorEq, reduceIte] using s_IsAtom_ok e1) ?_
  try simp only [go_sem, Int.reduceLT, Int.reduceLE, Int.reduceBEq, Int.reduceBNe, Nat.reduceBNe, Nat.reduceAdd, Nat.reduceMul, Nat.reduceEqDiff, Nat.reduceLeDiff, Nat.reduceLT, Nat.reduceBEq, reduceCtorEq, reduceIte]
  refine ite_K h (fun c2 h => ?_) (fun c2 h => ?_)
  · obtain rfl := Option.some.inj h
    try simp only [go_sem, Int.reduceLT, Int.reduceLE, Int.reduceBEq, Int.reduceBNe, Nat.reduceBNe, Nat.reduceAdd, Nat.reduceMul, Nat.reduceEqDiff, Nat.reduceLeDiff, Nat.reduceLT, Nat.reduceBEq, reduceCtorEq, reduceIte, c2]
  · try simp only [go_sem, Int.reduceLT, Int.reduceLE, Int.reduceBEq, Int.reduceBNe, Nat.reduceBNe, Nat.reduceAdd, Nat.reduceMul, Nat.reduceEqDiff, Nat.reduceLeDiff, Nat.reduceLT, Nat.reduceBEq, reduceCtorEq, reduceIte, c2]
    obtain ⟨v2, e3, h⟩ := bind_K h
    refine call_K (by first | exact s_IsVar_ok e3 | simpa only [go_sem, Int.reduceLT, Int.reduceLE, Int.reduceBEq, Int.reduceBNe, Nat.reduceBNe, Nat.reduceAdd, Nat.reduceMul, Nat.reduceEqDiff, Nat.reduceLeDiff, Nat.reduceLT, Nat.reduceBEq, reduceCtorEq, reduceIte, c2] using s_IsVar_ok e3) ?_
    obtain rfl := Option.some.inj h
    try simp only [go_sem, Int.reduceLT, Int.reduceLE, Int.reduceBEq, Int.reduceBNe, Nat.reduceBNe, Nat.reduceAdd, Nat.reduceMul, Nat.reduceEqDiff, Nat.reduceLeDiff, Nat.reduceLT, Nat.reduceBEq, reduceCtorEq, reduceIte, c2]
theorem i_BoundVars_ok {r_0 : RuleD} {n_1 : Int} {r : (List ByteArray)} (h : i_BoundVars r_0 n_1 = some r) : Sound Try.prog J0 92 [(true, eRule r_0), (false, [.int .i64 n_1])] [(false, [(false, .sl 9 1 (List.map eStr r))])] := by
  refine fnk Try.func92 (by kernel_rfl) rfl (by kernel_rfl) (by kernel_rfl) ?_
  unfold i_BoundVars at h
  simp only [fnS, f92, argSt, go_sem, Int.reduceLT, Int.reduceLE, Int.reduceBEq, Int.reduceBNe, Nat.reduceBNe, Nat.reduceAdd, Nat.reduceMul, Nat.reduceEqDiff, Nat.reduceLeDiff, Nat.reduceLT, Nat.reduceBEq, reduceCtorEq, reduceIte]
  refine swp_for h (fun i row_5 st => IV [(1, .p false [.c (.int .i64 n_1)]), (5, .p false [.row 0]), (9, .p false [.c (.sl 120 5 (List.map eCond r_0.cond))]), (10, .p false [.c (.int .i64 ((r_0.cond.length : Nat) : Int))]), (11, .p false [.c (.int .i64 ((i : Nat) : Int))])] [.row 9 1 (List.map eStr row_5) 2] st) [(false, 5, 0)] [112] (by decide) ?_ ?_ ?_
  · simp only [go_sem, Int.reduceLT, Int.reduceLE, Int.reduceBEq, Int.reduceBNe, Nat.reduceBNe, Nat.reduceAdd, Nat.reduceMul, Nat.reduceEqDiff, Nat.reduceLeDiff, Nat.reduceLT, Nat.reduceBEq, reduceCtorEq, reduceIte, IV, sts_cons, sts_nil, obs_cons, obs_nil]
  · rintro i10 x11 row_5 ⟨sl, ob, n⟩ y1 hx2 hI3 hW4 h hy1
    simp only [IV, sts_cons, sts_nil, obs_cons, obs_nil, and_true, true_and, Nat.reduceAdd, str_len] at hI3
    obtain ⟨⟨g5_1, g5_5, g5_9, g5_10, g5_11⟩, og5_0, hn⟩ := hI3
    subst hn
    have hlhx2 := WF.slotL hW4 g5_9 (j := 0) rfl
    try simp only [go_sem, Int.reduceLT, Int.reduceLE, Int.reduceBEq, Int.reduceBNe, Nat.reduceBNe, Nat.reduceAdd, Nat.reduceMul, Nat.reduceEqDiff, Nat.reduceLeDiff, Nat.reduceLT, Nat.reduceBEq, reduceCtorEq, reduceIte, hx2, lt_t hx2, lt_p hx2, nat_in (lt_n hx2) hlhx2, g5_1, g5_5, g5_9, g5_10, g5_11, og5_0]
    refine ite_K h (fun c6 h => ?_) (fun c6 h => ?_)
    · try simp only [go_sem, Int.reduceLT, Int.reduceLE, Int.reduceBEq, Int.reduceBNe, Nat.reduceBNe, Nat.reduceAdd, Nat.reduceMul, Nat.reduceEqDiff, Nat.reduceLeDiff, Nat.reduceLT, Nat.reduceBEq, reduceCtorEq, reduceIte, hx2, lt_t hx2, lt_p hx2, nat_in (lt_n hx2) hlhx2, c6, g5_1, g5_5, g5_9, g5_10, g5_11, og5_0]
      refine ite_K h (fun c7 h => ?_) (fun c7 h => ?_)
      · try simp only [go_sem, Int.reduceLT, Int.reduceLE, Int.reduceBEq, Int.reduceBNe, Nat.reduceBNe, Nat.reduceAdd, Nat.reduceMul, Nat.reduceEqDiff, Nat.reduceLeDiff, Nat.reduceLT, Nat.reduceBEq, reduceCtorEq, reduceIte, hx2, lt_t hx2, lt_p hx2, nat_in (lt_n hx2) hlhx2, c6, c7, g5_1, g5_5, g5_9, g5_10, g5_11, og5_0]
        obtain ⟨v12, e8, h⟩ := bind_K h
        refine call_K (by first | exact i_varsAmong_ok e8 | simpa only [go_sem, Int.reduceLT, Int.reduceLE, Int.reduceBEq, Int.reduceBNe, Nat.reduceBNe, Nat.reduceAdd, Nat.reduceMul, Nat.reduceEqDiff, Nat.reduceLeDiff, Nat.reduceLT, Nat.reduceBEq, reduceCtorEq, reduceIte, hx2, lt_t hx2, lt_p hx2, nat_in (lt_n hx2) hlhx2, c6, c7, g5_1, g5_5, g5_9, g5_10, g5_11, og5_0] using i_varsAmong_ok e8) ?_
        obtain ⟨p9, h⟩ := chk_K h
        try simp only [Nat.reduceLeDiff] at p9
        try simp only [go_sem, Int.reduceLT, Int.reduceLE, Int.reduceBEq, Int.reduceBNe, Nat.reduceBNe, Nat.reduceAdd, Nat.reduceMul, Nat.reduceEqDiff, Nat.reduceLeDiff, Nat.reduceLT, Nat.reduceBEq, reduceCtorEq, reduceIte, hx2, lt_t hx2, lt_p hx2, nat_in (lt_n hx2) hlhx2, c6, c7, p9, g5_1, g5_5, g5_9, g5_10, g5_11, og5_0]
        refine ⟨_, [], [321], (Option.some.inj h).symm, by decide, ?_⟩
        try simp only [go_sem, Int.reduceLT, Int.reduceLE, Int.reduceBEq, Int.reduceBNe, Nat.reduceBNe, Nat.reduceAdd, Nat.reduceMul, Nat.reduceEqDiff, Nat.reduceLeDiff, Nat.reduceLT, Nat.reduceBEq, reduceCtorEq, reduceIte, hx2, lt_t hx2, lt_p hx2, nat_in (lt_n hx2) hlhx2, c6, c7, p9, g5_1, g5_5, g5_9, g5_10, g5_11, og5_0, IV, sts_cons, sts_nil, obs_cons, obs_nil]
      · try simp only [go_sem, Int.reduceLT, Int.reduceLE, Int.reduceBEq, Int.reduceBNe, Nat.reduceBNe, Nat.reduceAdd, Nat.reduceMul, Nat.reduceEqDiff, Nat.reduceLeDiff, Nat.reduceLT, Nat.reduceBEq, reduceCtorEq, reduceIte, hx2, lt_t hx2, lt_p hx2, nat_in (lt_n hx2) hlhx2, c6, c7, g5_1, g5_5, g5_9, g5_10, g5_11, og5_0]
        refine ⟨_, [], [0], (Option.some.inj h).symm, by decide, ?_⟩
        try simp only [go_sem, Int.reduceLT, Int.reduceLE, Int.reduceBEq, Int.reduceBNe, Nat.reduceBNe, Nat.reduceAdd, Nat.reduceMul, Nat.reduceEqDiff, Nat.reduceLeDiff, Nat.reduceLT, Nat.reduceBEq, reduceCtorEq, reduceIte, hx2, lt_t hx2, lt_p hx2, nat_in (lt_n hx2) hlhx2, c6, c7, g5_1, g5_5, g5_9, g5_10, g5_11, og5_0, IV, sts_cons, sts_nil, obs_cons, obs_nil]
    · try simp only [go_sem, Int.reduceLT, Int.reduceLE, Int.reduceBEq, Int.reduceBNe, Nat.reduceBNe, Nat.reduceAdd, Nat.reduceMul, Nat.reduceEqDiff, Nat.reduceLeDiff, Nat.reduceLT, Nat.reduceBEq, reduceCtorEq, reduceIte, hx2, lt_t hx2, lt_p hx2, nat_in (lt_n hx2) hlhx2, c6, g5_1, g5_5, g5_9, g5_10, g5_11, og5_0]
      refine ⟨_, [], [0], (Option.some.inj h).symm, by decide, ?_⟩
      try simp only [go_sem, Int.reduceLT, Int.reduceLE, Int.reduceBEq, Int.reduceBNe, Nat.reduceBNe, Nat.reduceAdd, Nat.reduceMul, Nat.reduceEqDiff, Nat.reduceLeDiff, Nat.reduceLT, Nat.reduceBEq, reduceCtorEq, reduceIte, hx2, lt_t hx2, lt_p hx2, nat_in (lt_n hx2) hlhx2, c6, g5_1, g5_5, g5_9, g5_10, g5_11, og5_0, IV, sts_cons, sts_nil, obs_cons, obs_nil]
  · rintro row_5 ⟨sl, ob, n⟩ hI10 hW11 h
    simp only [IV, sts_cons, sts_nil, obs_cons, obs_nil, and_true, true_and, Nat.reduceAdd, str_len] at hI10
    obtain ⟨⟨g12_1, g12_5, g12_9, g12_10, g12_11⟩, og12_0, hn⟩ := hI10
    subst hn
    try simp only [go_sem, Int.reduceLT, Int.reduceLE, Int.reduceBEq, Int.reduceBNe, Nat.reduceBNe, Nat.reduceAdd, Nat.reduceMul, Nat.reduceEqDiff, Nat.reduceLeDiff, Nat.reduceLT, Nat.reduceBEq, reduceCtorEq, reduceIte, lt_f (r_0.cond.length), g12_1, g12_5, g12_9, g12_10, g12_11, og12_0]
    obtain ⟨v13, e13, h⟩ := bind_K h
    refine call_K (by first | exact i_SortedTexts_ok e13 | simpa only [go_sem, Int.reduceLT, Int.reduceLE, Int.reduceBEq, Int.reduceBNe, Nat.reduceBNe, Nat.reduceAdd, Nat.reduceMul, Nat.reduceEqDiff, Nat.reduceLeDiff, Nat.reduceLT, Nat.reduceBEq, reduceCtorEq, reduceIte, lt_f (r_0.cond.length), g12_1, g12_5, g12_9, g12_10, g12_11, og12_0] using i_SortedTexts_ok e13) ?_
    obtain rfl := Option.some.inj h
    try simp only [go_sem, Int.reduceLT, Int.reduceLE, Int.reduceBEq, Int.reduceBNe, Nat.reduceBNe, Nat.reduceAdd, Nat.reduceMul, Nat.reduceEqDiff, Nat.reduceLeDiff, Nat.reduceLT, Nat.reduceBEq, reduceCtorEq, reduceIte, lt_f (r_0.cond.length), g12_1, g12_5, g12_9, g12_10, g12_11, og12_0]
theorem i_IsPattern_ok {p_0 : PatternD} {r : Bool} (h : i_IsPattern p_0 = some r) : Sound Try.prog J0 172 [(true, ePattern p_0)] [(false, [(false, .bool r)])] := by
  refine fnk Try.func172 (by kernel_rfl) rfl (by kernel_rfl) (by kernel_rfl) ?_
  unfold i_IsPattern at h
  simp only [fnS, f172, argSt, go_sem, Int.reduceLT, Int.reduceLE, Int.reduceBEq, Int.reduceBNe, Nat.reduceBNe, Nat.reduceAdd, Nat.reduceMul, Nat.reduceEqDiff, Nat.reduceLeDiff, Nat.reduceLT, Nat.reduceBEq, reduceCtorEq, reduceIte]
  obtain ⟨v1, e1, h⟩ := bind_K h
  refine call_K (by first | exact i_IsName_ok e1 | simpa only [go_sem, Int.reduceLT, Int.reduceLE, Int.reduceBEq, Int.reduceBNe, Nat.reduceBNe, Nat.reduceAdd, Nat.reduceMul, Nat.reduceEqDiff, Nat.reduceLeDiff, Nat.reduceLT, Nat.reduceBEq, reduceCtorEq, reduceIte] using i_IsName_ok e1) ?_
  try simp only [go_sem, Int.reduceLT, Int.reduceLE, Int.reduceBEq, Int.reduceBNe, Nat.reduceBNe, Nat.reduceAdd, Nat.reduceMul, Nat.reduceEqDiff, Nat.reduceLeDiff, Nat.reduceLT, Nat.reduceBEq, reduceCtorEq, reduceIte]
  refine ite_K h (fun c2 h => ?_) (fun c2 h => ?_)
  · try simp only [go_sem, Int.reduceLT, Int.reduceLE, Int.reduceBEq, Int.reduceBNe, Nat.reduceBNe, Nat.reduceAdd, Nat.reduceMul, Nat.reduceEqDiff, Nat.reduceLeDiff, Nat.reduceLT, Nat.reduceBEq, reduceCtorEq, reduceIte, c2]
    refine ite_K h (fun c3 h => ?_) (fun c3 h => ?_)
    · obtain rfl := Option.some.inj h
      try simp only [go_sem, Int.reduceLT, Int.reduceLE, Int.reduceBEq, Int.reduceBNe, Nat.reduceBNe, Nat.reduceAdd, Nat.reduceMul, Nat.reduceEqDiff, Nat.reduceLeDiff, Nat.reduceLT, Nat.reduceBEq, reduceCtorEq, reduceIte, c2, c3]
    · try simp only [go_sem, Int.reduceLT, Int.reduceLE, Int.reduceBEq, Int.reduceBNe, Nat.reduceBNe, Nat.reduceAdd, Nat.reduceMul, Nat.reduceEqDiff, Nat.reduceLeDiff, Nat.reduceLT, Nat.reduceBEq, reduceCtorEq, reduceIte, c2, c3]
      refine swp_for h (fun i _ st => IV [(16, .p false [.c (.sl 9 1 (List.map eStr p_0.args))]), (17, .p false [.c (.int .i64 ((p_0.args.length : Nat) : Int))]), (18, .p false [.c (.int .i64 ((i : Nat) : Int))])] [] st) [] [] (by decide) ?_ ?_ ?_
      · simp only [go_sem, Int.reduceLT, Int.reduceLE, Int.reduceBEq, Int.reduceBNe, Nat.reduceBNe, Nat.reduceAdd, Nat.reduceMul, Nat.reduceEqDiff, Nat.reduceLeDiff, Nat.reduceLT, Nat.reduceBEq, reduceCtorEq, reduceIte, IV, sts_cons, sts_nil, obs_cons, obs_nil, c2, c3]
      · rintro i7 x8 ⟨⟩ ⟨sl, ob, n⟩ y4 hx5 hI6 hW7 h hy4
        simp only [IV, sts_cons, sts_nil, obs_cons, obs_nil, and_true, true_and, Nat.reduceAdd, str_len] at hI6
        obtain ⟨⟨g8_16, g8_17, g8_18⟩, hn⟩ := hI6
        subst hn
        have hlhx5 := WF.slotL hW7 g8_16 (j := 0) rfl
        try simp only [go_sem, Int.reduceLT, Int.reduceLE, Int.reduceBEq, Int.reduceBNe, Nat.reduceBNe, Nat.reduceAdd, Nat.reduceMul, Nat.reduceEqDiff, Nat.reduceLeDiff, Nat.reduceLT, Nat.reduceBEq, reduceCtorEq, reduceIte, c2, c3, hx5, lt_t hx5, lt_p hx5, nat_in (lt_n hx5) hlhx5, g8_16, g8_17, g8_18]
        obtain ⟨v9, e9, h⟩ := bind_K h
        refine call_K (by first | exact i_IsTerm_ok e9 | simpa only [go_sem, Int.reduceLT, Int.reduceLE, Int.reduceBEq, Int.reduceBNe, Nat.reduceBNe, Nat.reduceAdd, Nat.reduceMul, Nat.reduceEqDiff, Nat.reduceLeDiff, Nat.reduceLT, Nat.reduceBEq, reduceCtorEq, reduceIte, c2, c3, hx5, lt_t hx5, lt_p hx5, nat_in (lt_n hx5) hlhx5, g8_16, g8_17, g8_18] using i_IsTerm_ok e9) ?_
        try simp only [go_sem, Int.reduceLT, Int.reduceLE, Int.reduceBEq, Int.reduceBNe, Nat.reduceBNe, Nat.reduceAdd, Nat.reduceMul, Nat.reduceEqDiff, Nat.reduceLeDiff, Nat.reduceLT, Nat.reduceBEq, reduceCtorEq, reduceIte, c2, c3, hx5, lt_t hx5, lt_p hx5, nat_in (lt_n hx5) hlhx5, g8_16, g8_17, g8_18]
        refine ite_K h (fun c10 h => ?_) (fun c10 h => ?_)
        · try simp only [go_sem, Int.reduceLT, Int.reduceLE, Int.reduceBEq, Int.reduceBNe, Nat.reduceBNe, Nat.reduceAdd, Nat.reduceMul, Nat.reduceEqDiff, Nat.reduceLeDiff, Nat.reduceLT, Nat.reduceBEq, reduceCtorEq, reduceIte, c2, c3, hx5, lt_t hx5, lt_p hx5, nat_in (lt_n hx5) hlhx5, c10, g8_16, g8_17, g8_18]
          refine ⟨_, [], [], (Option.some.inj h).symm, by decide, ?_⟩
          try simp only [go_sem, Int.reduceLT, Int.reduceLE, Int.reduceBEq, Int.reduceBNe, Nat.reduceBNe, Nat.reduceAdd, Nat.reduceMul, Nat.reduceEqDiff, Nat.reduceLeDiff, Nat.reduceLT, Nat.reduceBEq, reduceCtorEq, reduceIte, c2, c3, hx5, lt_t hx5, lt_p hx5, nat_in (lt_n hx5) hlhx5, c10, g8_16, g8_17, g8_18, IV, sts_cons, sts_nil, obs_cons, obs_nil]
        · replace h := inr_K h hy4
          obtain rfl := Option.some.inj h
          try simp only [go_sem, Int.reduceLT, Int.reduceLE, Int.reduceBEq, Int.reduceBNe, Nat.reduceBNe, Nat.reduceAdd, Nat.reduceMul, Nat.reduceEqDiff, Nat.reduceLeDiff, Nat.reduceLT, Nat.reduceBEq, reduceCtorEq, reduceIte, c2, c3, hx5, lt_t hx5, lt_p hx5, nat_in (lt_n hx5) hlhx5, c10, g8_16, g8_17, g8_18]
      · rintro ⟨⟩ ⟨sl, ob, n⟩ hI11 hW12 h
        simp only [IV, sts_cons, sts_nil, obs_cons, obs_nil, and_true, true_and, Nat.reduceAdd, str_len] at hI11
        obtain ⟨⟨g13_16, g13_17, g13_18⟩, hn⟩ := hI11
        subst hn
        obtain rfl := Option.some.inj h
        try simp only [go_sem, Int.reduceLT, Int.reduceLE, Int.reduceBEq, Int.reduceBNe, Nat.reduceBNe, Nat.reduceAdd, Nat.reduceMul, Nat.reduceEqDiff, Nat.reduceLeDiff, Nat.reduceLT, Nat.reduceBEq, reduceCtorEq, reduceIte, c2, c3, lt_f (p_0.args.length), g13_16, g13_17, g13_18]
  · obtain rfl := Option.some.inj h
    try simp only [go_sem, Int.reduceLT, Int.reduceLE, Int.reduceBEq, Int.reduceBNe, Nat.reduceBNe, Nat.reduceAdd, Nat.reduceMul, Nat.reduceEqDiff, Nat.reduceLeDiff, Nat.reduceLT, Nat.reduceBEq, reduceCtorEq, reduceIte, c2]
theorem i_CondVars_ok {x_0 : CondD} {r : (List ByteArray)} (h : i_CondVars x_0 = some r) : Sound Try.prog J0 93 [(true, eCond x_0)] [(false, [(false, .sl 9 1 (List.map eStr r))])] := by
  refine fnk Try.func93 (by kernel_rfl) rfl (by kernel_rfl) (by kernel_rfl) ?_
  unfold i_CondVars at h
  simp only [fnS, f93, argSt, go_sem, Int.reduceLT, Int.reduceLE, Int.reduceBEq, Int.reduceBNe, Nat.reduceBNe, Nat.reduceAdd, Nat.reduceMul, Nat.reduceEqDiff, Nat.reduceLeDiff, Nat.reduceLT, Nat.reduceBEq, reduceCtorEq, reduceIte]
  obtain ⟨v1, e1, h⟩ := bind_K h
  refine call_K (by first | exact i_termsOf_ok e1 | simpa only [go_sem, Int.reduceLT, Int.reduceLE, Int.reduceBEq, Int.reduceBNe, Nat.reduceBNe, Nat.reduceAdd, Nat.reduceMul, Nat.reduceEqDiff, Nat.reduceLeDiff, Nat.reduceLT, Nat.reduceBEq, reduceCtorEq, reduceIte] using i_termsOf_ok e1) ?_
  try simp only [go_sem, Int.reduceLT, Int.reduceLE, Int.reduceBEq, Int.reduceBNe, Nat.reduceBNe, Nat.reduceAdd, Nat.reduceMul, Nat.reduceEqDiff, Nat.reduceLeDiff, Nat.reduceLT, Nat.reduceBEq, reduceCtorEq, reduceIte]
  obtain ⟨v2, e2, h⟩ := bind_K h
  refine call_K (by first | exact i_varsAmong_ok e2 | simpa only [go_sem, Int.reduceLT, Int.reduceLE, Int.reduceBEq, Int.reduceBNe, Nat.reduceBNe, Nat.reduceAdd, Nat.reduceMul, Nat.reduceEqDiff, Nat.reduceLeDiff, Nat.reduceLT, Nat.reduceBEq, reduceCtorEq, reduceIte] using i_varsAmong_ok e2) ?_
  try simp only [go_sem, Int.reduceLT, Int.reduceLE, Int.reduceBEq, Int.reduceBNe, Nat.reduceBNe, Nat.reduceAdd, Nat.reduceMul, Nat.reduceEqDiff, Nat.reduceLeDiff, Nat.reduceLT, Nat.reduceBEq, reduceCtorEq, reduceIte]
  obtain ⟨v3, e3, h⟩ := bind_K h
  refine call_K (by first | exact i_SortedTexts_ok e3 | simpa only [go_sem, Int.reduceLT, Int.reduceLE, Int.reduceBEq, Int.reduceBNe, Nat.reduceBNe, Nat.reduceAdd, Nat.reduceMul, Nat.reduceEqDiff, Nat.reduceLeDiff, Nat.reduceLT, Nat.reduceBEq, reduceCtorEq, reduceIte] using i_SortedTexts_ok e3) ?_
  obtain rfl := Option.some.inj h
  try simp only [go_sem, Int.reduceLT, Int.reduceLE, Int.reduceBEq, Int.reduceBNe, Nat.reduceBNe, Nat.reduceAdd, Nat.reduceMul, Nat.reduceEqDiff, Nat.reduceLeDiff, Nat.reduceLT, Nat.reduceBEq, reduceCtorEq, reduceIte]
end Go.Proofs.Ytccbhhglghboaaa

namespace Go.Proofs.Ytccbhhglghboaaa
open Go.Proofs.Try
set_option linter.unusedSimpArgs false
set_option linter.unusedVariables false
set_option maxRecDepth 1000000
set_option maxHeartbeats 4000000
theorem s_CondVars_ok {x_0 : CondD} {r : (List ByteArray)} (h : s_CondVars x_0 = some r) : Sound Try.prog J0 88 [(true, eCond x_0)] [(false, [(false, .sl 9 1 (List.map eStr r))])] := by
  refine fnk Try.func88 (by kernel_rfl) rfl (by kernel_rfl) (by kernel_rfl) ?_
  unfold s_CondVars at h
  simp only [fnS, f88, argSt, go_sem, Int.reduceLT, Int.reduceLE, Int.reduceBEq, Int.reduceBNe, Nat.reduceBNe, Nat.reduceAdd, Nat.reduceMul, Nat.reduceEqDiff, Nat.reduceLeDiff, Nat.reduceLT, Nat.reduceBEq, reduceCtorEq, reduceIte]
  obtain ⟨v1, e1, h⟩ := bind_K h
  refine call_K (by first | exact s_VarsOf_ok e1 | simpa only [go_sem, Int.reduceLT, Int.reduceLE, Int.reduceBEq, Int.reduceBNe, Nat.reduceBNe, Nat.reduceAdd, Nat.reduceMul, Nat.reduceEqDiff, Nat.reduceLeDiff, Nat.reduceLT, Nat.reduceBEq, reduceCtorEq, reduceIte] using s_VarsOf_ok e1) ?_
  try simp only [go_sem, Int.reduceLT, Int.reduceLE, Int.reduceBEq, Int.reduceBNe, Nat.reduceBNe, Nat.reduceAdd, Nat.reduceMul, Nat.reduceEqDiff, Nat.reduceLeDiff, Nat.reduceLT, Nat.reduceBEq, reduceCtorEq, reduceIte]
  obtain ⟨v2, e2, h⟩ := bind_K h
  refine call_K (by first | exact s_IsVar_ok e2 | simpa only [go_sem, Int.reduceLT, Int.reduceLE, Int.reduceBEq, Int.reduceBNe, Nat.reduceBNe, Nat.reduceAdd, Nat.reduceMul, Nat.reduceEqDiff, Nat.reduceLeDiff, Nat.reduceLT, Nat.reduceBEq, reduceCtorEq, reduceIte] using s_IsVar_ok e2) ?_
  try simp only [go_sem, Int.reduceLT, Int.reduceLE, Int.reduceBEq, Int.reduceBNe, Nat.reduceBNe, Nat.reduceAdd, Nat.reduceMul, Nat.reduceEqDiff, Nat.reduceLeDiff, Nat.reduceLT, Nat.reduceBEq, reduceCtorEq, reduceIte]
  refine ite_K h (fun c3 h => ?_) (fun c3 h => ?_)
  · try simp only [go_sem, Int.reduceLT, Int.reduceLE, Int.reduceBEq, Int.reduceBNe, Nat.reduceBNe, Nat.reduceAdd, Nat.reduceMul, Nat.reduceEqDiff, Nat.reduceLeDiff, Nat.reduceLT, Nat.reduceBEq, reduceCtorEq, reduceIte, c3]
    obtain ⟨v3, e4, h⟩ := bind_K h
    refine call_K (by first | exact s_l1Put_ok e4 | simpa only [go_sem, Int.reduceLT, Int.reduceLE, Int.reduceBEq, Int.reduceBNe, Nat.reduceBNe, Nat.reduceAdd, Nat.reduceMul, Nat.reduceEqDiff, Nat.reduceLeDiff, Nat.reduceLT, Nat.reduceBEq, reduceCtorEq, reduceIte, c3] using s_l1Put_ok e4) ?_
    try simp only [go_sem, Int.reduceLT, Int.reduceLE, Int.reduceBEq, Int.reduceBNe, Nat.reduceBNe, Nat.reduceAdd, Nat.reduceMul, Nat.reduceEqDiff, Nat.reduceLeDiff, Nat.reduceLT, Nat.reduceBEq, reduceCtorEq, reduceIte, c3]
    obtain ⟨v4, e5, h⟩ := bind_K h
    refine call_K (by first | exact s_IsVar_ok e5 | simpa only [go_sem, Int.reduceLT, Int.reduceLE, Int.reduceBEq, Int.reduceBNe, Nat.reduceBNe, Nat.reduceAdd, Nat.reduceMul, Nat.reduceEqDiff, Nat.reduceLeDiff, Nat.reduceLT, Nat.reduceBEq, reduceCtorEq, reduceIte, c3] using s_IsVar_ok e5) ?_
    try simp only [go_sem, Int.reduceLT, Int.reduceLE, Int.reduceBEq, Int.reduceBNe, Nat.reduceBNe, Nat.reduceAdd, Nat.reduceMul, Nat.reduceEqDiff, Nat.reduceLeDiff, Nat.reduceLT, Nat.reduceBEq, reduceCtorEq, reduceIte, c3]
    refine ite_K h (fun c6 h => ?_) (fun c6 h => ?_)
    · try simp only [go_sem, Int.reduceLT, Int.reduceLE, Int.reduceBEq, Int.reduceBNe, Nat.reduceBNe, Nat.reduceAdd, Nat.reduceMul, Nat.reduceEqDiff, Nat.reduceLeDiff, Nat.reduceLT, Nat.reduceBEq, reduceCtorEq, reduceIte, c3, c6]
      obtain ⟨v5, e7, h⟩ := bind_K h
      refine call_K (by first | exact s_l1Put_ok e7 | simpa only [go_sem, Int.reduceLT, Int.reduceLE, Int.reduceBEq, Int.reduceBNe, Nat.reduceBNe, Nat.reduceAdd, Nat.reduceMul, Nat.reduceEqDiff, Nat.reduceLeDiff, Nat.reduceLT, Nat.reduceBEq, reduceCtorEq, reduceIte, c3, c6] using s_l1Put_ok e7) ?_
      obtain rfl := Option.some.inj h
      try simp only [go_sem, Int.reduceLT, Int.reduceLE, Int.reduceBEq, Int.reduceBNe, Nat.reduceBNe, Nat.reduceAdd, Nat.reduceMul, Nat.reduceEqDiff, Nat.reduceLeDiff, Nat.reduceLT, Nat.reduceBEq, reduceCtorEq, reduceIte, c3, c6]
    · obtain rfl := Option.some.inj h
      try simp only [go_sem, Int.reduceLT, Int.reduceLE, Int.reduceBEq, Int.reduceBNe, Nat.reduceBNe, Nat.reduceAdd, Nat.reduceMul, Nat.reduceEqDiff, Nat.reduceLeDiff, Nat.reduceLT, Nat.reduceBEq, reduceCtorEq, reduceIte, c3, c6]
  · try simp only [go_sem, Int.reduceLT, Int.reduceLE, Int.reduceBEq, Int.reduceBNe, Nat.reduceBNe, Nat.reduceAdd, Nat.reduceMul, Nat.reduceEqDiff, Nat.reduceLeDiff, Nat.reduceLT, Nat.reduceBEq, reduceCtorEq, reduceIte, c3]
    obtain ⟨v6, e8, h⟩ := bind_K h
    refine call_K (by first | exact s_IsVar_ok e8 | simpa only [go_sem, Int.reduceLT, Int.reduceLE, Int.reduceBEq, Int.reduceBNe, Nat.reduceBNe, Nat.reduceAdd, Nat.reduceMul, Nat.reduceEqDiff, Nat.reduceLeDiff, Nat.reduceLT, Nat.reduceBEq, reduceCtorEq, reduceIte, c3] using s_IsVar_ok e8) ?_
    try simp only [go_sem, Int.reduceLT, Int.reduceLE, Int.reduceBEq, Int.reduceBNe, Nat.reduceBNe, Nat.reduceAdd, Nat.reduceMul, Nat.reduceEqDiff, Nat.reduceLeDiff, Nat.reduceLT, Nat.reduceBEq, reduceCtorEq, reduceIte, c3]
    refine ite_K h (fun c9 h => ?_) (fun c9 h => ?_)
    · try simp only [go_sem, Int.reduceLT, Int.reduceLE, Int.reduceBEq, Int.reduceBNe, Nat.reduceBNe, Nat.reduceAdd, Nat.reduceMul, Nat.reduceEqDiff, Nat.reduceLeDiff, Nat.reduceLT, Nat.reduceBEq, reduceCtorEq, reduceIte, c3, c9]
      obtain ⟨v7, e10, h⟩ := bind_K h
      refine call_K (by first | exact s_l1Put_ok e10 | simpa only [go_sem, Int.reduceLT, Int.reduceLE, Int.reduceBEq, Int.reduceBNe, Nat.reduceBNe, Nat.reduceAdd, Nat.reduceMul, Nat.reduceEqDiff, Nat.reduceLeDiff, Nat.reduceLT, Nat.reduceBEq, reduceCtorEq, reduceIte, c3, c9] using s_l1Put_ok e10) ?_
      obtain rfl := Option.some.inj h
      try simp only [go_sem, Int.reduceLT, Int.reduceLE, Int.reduceBEq, Int.reduceBNe, Nat.reduceBNe, Nat.reduceAdd, Nat.reduceMul, Nat.reduceEqDiff, Nat.reduceLeDiff, Nat.reduceLT, Nat.reduceBEq, reduceCtorEq, reduceIte, c3, c9]
    · obtain rfl := Option.some.inj h
      try simp only [go_sem, Int.reduceLT, Int.reduceLE, Int.reduceBEq, Int.reduceBNe, Nat.reduceBNe, Nat.reduceAdd, Nat.reduceMul, Nat.reduceEqDiff, Nat.reduceLeDiff, Nat.reduceLT, Nat.reduceBEq, reduceCtorEq, reduceIte, c3, c9]
theorem s_BoundVars_ok {r_0 : RuleD} {n_1 : Int} {r : (List ByteArray)} (h : s_BoundVars r_0 n_1 = some r) : Sound Try.prog J0 89 [(true, eRule r_0), (false, [.int .i64 n_1])] [(false, [(false, .sl 9 1 (List.map eStr r))])] := by
  refine fnk Try.func89 (by kernel_rfl) rfl (by kernel_rfl) (by kernel_rfl) ?_
  unfold s_BoundVars at h
  simp only [fnS, f89, argSt, go_sem, Int.reduceLT, Int.reduceLE, Int.reduceBEq, Int.reduceBNe, Nat.reduceBNe, Nat.reduceAdd, Nat.reduceMul, Nat.reduceEqDiff, Nat.reduceLeDiff, Nat.reduceLT, Nat.reduceBEq, reduceCtorEq, reduceIte]
  refine swp_for h (fun i row_12 st => IV [(1, .p false [.c (.int .i64 n_1)]), (2, .bp 0 0), (5, .p false [.row 1]), (6, .p false [.c (.int .i64 ((i : Nat) : Int))])] [.box 75 [.c (.str r_0.name), .c (.int .i64 r_0.priority), .c (.sl 120 5 (List.map eCond r_0.cond)), .c (.sl 128 3 (List.map eAction r_0.thn))], .row 9 1 (List.map eStr row_12) 2] st) [] [0, 32] (by decide) ?_ ?_ ?_
  · simp only [go_sem, Int.reduceLT, Int.reduceLE, Int.reduceBEq, Int.reduceBNe, Nat.reduceBNe, Nat.reduceAdd, Nat.reduceMul, Nat.reduceEqDiff, Nat.reduceLeDiff, Nat.reduceLT, Nat.reduceBEq, reduceCtorEq, reduceIte, IV, sts_cons, sts_nil, obs_cons, obs_nil]
  · rintro i25 x26 row_12 ⟨sl, ob, n⟩ y1 hx2 hI3 hW4 h hy1
    simp only [IV, sts_cons, sts_nil, obs_cons, obs_nil, and_true, true_and, Nat.reduceAdd, str_len] at hI3
    obtain ⟨⟨g5_1, g5_2, g5_5, g5_6⟩, og5_0, og5_1, hn⟩ := hI3
    subst hn
    have hlhx2 := WF.boxL hW4 og5_0 (j := 2) rfl
    try simp only [go_sem, Int.reduceLT, Int.reduceLE, Int.reduceBEq, Int.reduceBNe, Nat.reduceBNe, Nat.reduceAdd, Nat.reduceMul, Nat.reduceEqDiff, Nat.reduceLeDiff, Nat.reduceLT, Nat.reduceBEq, reduceCtorEq, reduceIte, hx2, lt_t hx2, lt_p hx2, nat_in (lt_n hx2) hlhx2, g5_1, g5_2, g5_5, g5_6, og5_0, og5_1]
    refine ite_K h (fun c6 h => ?_) (fun c6 h => ?_)
    · try simp only [go_sem, Int.reduceLT, Int.reduceLE, Int.reduceBEq, Int.reduceBNe, Nat.reduceBNe, Nat.reduceAdd, Nat.reduceMul, Nat.reduceEqDiff, Nat.reduceLeDiff, Nat.reduceLT, Nat.reduceBEq, reduceCtorEq, reduceIte, hx2, lt_t hx2, lt_p hx2, nat_in (lt_n hx2) hlhx2, c6, g5_1, g5_2, g5_5, g5_6, og5_0, og5_1]
      refine ite_K h (fun c7 h => ?_) (fun c7 h => ?_)
      · try simp only [go_sem, Int.reduceLT, Int.reduceLE, Int.reduceBEq, Int.reduceBNe, Nat.reduceBNe, Nat.reduceAdd, Nat.reduceMul, Nat.reduceEqDiff, Nat.reduceLeDiff, Nat.reduceLT, Nat.reduceBEq, reduceCtorEq, reduceIte, hx2, lt_t hx2, lt_p hx2, nat_in (lt_n hx2) hlhx2, c6, c7, g5_1, g5_2, g5_5, g5_6, og5_0, og5_1]
        obtain ⟨v27, e8, h⟩ := bind_K h
        refine call_K (by first | exact s_VarsOf_ok e8 | simpa only [go_sem, Int.reduceLT, Int.reduceLE, Int.reduceBEq, Int.reduceBNe, Nat.reduceBNe, Nat.reduceAdd, Nat.reduceMul, Nat.reduceEqDiff, Nat.reduceLeDiff, Nat.reduceLT, Nat.reduceBEq, reduceCtorEq, reduceIte, hx2, lt_t hx2, lt_p hx2, nat_in (lt_n hx2) hlhx2, c6, c7, g5_1, g5_2, g5_5, g5_6, og5_0, og5_1] using s_VarsOf_ok e8) ?_
        try simp only [go_sem, Int.reduceLT, Int.reduceLE, Int.reduceBEq, Int.reduceBNe, Nat.reduceBNe, Nat.reduceAdd, Nat.reduceMul, Nat.reduceEqDiff, Nat.reduceLeDiff, Nat.reduceLT, Nat.reduceBEq, reduceCtorEq, reduceIte, hx2, lt_t hx2, lt_p hx2, nat_in (lt_n hx2) hlhx2, c6, c7, g5_1, g5_2, g5_5, g5_6, og5_0, og5_1]
        refine swp_for h (fun i row_30 st => IV [(1, .p false [.c (.int .i64 n_1)]), (2, .bp 0 0), (5, .p false [.row 1]), (6, .p false [.c (.int .i64 ((i25 : Nat) : Int))]), (7, .p false [.row 2]), (8, .p false [.c (.int .i64 ((i : Nat) : Int))]), (16, .p false [.c (.int .i64 ((i25 : Nat) : Int))]), (17, .p false [.c (.int .i64 n_1)]), (18, .p false [.c (.bool (decide (((i25 : Nat) : Int) < n_1)))])] [.box 75 [.c (.str r_0.name), .c (.int .i64 r_0.priority), .c (.sl 120 5 (List.map eCond r_0.cond)), .c (.sl 128 3 (List.map eAction r_0.thn))], .row 9 1 (List.map eStr row_30) 2, .row 9 1 (List.map eStr v27) 2] st) [] [0, 1, 370] (by decide) ?_ ?_ ?_
        · simp only [go_sem, Int.reduceLT, Int.reduceLE, Int.reduceBEq, Int.reduceBNe, Nat.reduceBNe, Nat.reduceAdd, Nat.reduceMul, Nat.reduceEqDiff, Nat.reduceLeDiff, Nat.reduceLT, Nat.reduceBEq, reduceCtorEq, reduceIte, IV, sts_cons, sts_nil, obs_cons, obs_nil, hx2, lt_t hx2, lt_p hx2, nat_in (lt_n hx2) hlhx2, c6, c7, g5_1, g5_2, g5_5, g5_6, og5_0, og5_1]
        · rintro i34 x35 row_30 ⟨sl, ob, n⟩ y9 hx10 hI11 hW12 h hy9
          simp only [IV, sts_cons, sts_nil, obs_cons, obs_nil, and_true, true_and, Nat.reduceAdd, str_len] at hI11
          obtain ⟨⟨g13_1, g13_2, g13_5, g13_6, g13_7, g13_8, g13_16, g13_17, g13_18⟩, og13_0, og13_1, og13_2, hn⟩ := hI11
          subst hn
          have hlhx10 := WF.rowL hW12 og13_2
          try simp only [go_sem, Int.reduceLT, Int.reduceLE, Int.reduceBEq, Int.reduceBNe, Nat.reduceBNe, Nat.reduceAdd, Nat.reduceMul, Nat.reduceEqDiff, Nat.reduceLeDiff, Nat.reduceLT, Nat.reduceBEq, reduceCtorEq, reduceIte, hx2, lt_t hx2, lt_p hx2, nat_in (lt_n hx2) hlhx2, c6, c7, hx10, lt_t hx10, lt_p hx10, nat_in (lt_n hx10) hlhx10, g13_1, g13_2, g13_5, g13_6, g13_7, g13_8, g13_16, g13_17, g13_18, og13_0, og13_1, og13_2]
          obtain ⟨v36, e14, h⟩ := bind_K h
          refine call_K (by first | exact s_l1Put_ok e14 | simpa only [go_sem, Int.reduceLT, Int.reduceLE, Int.reduceBEq, Int.reduceBNe, Nat.reduceBNe, Nat.reduceAdd, Nat.reduceMul, Nat.reduceEqDiff, Nat.reduceLeDiff, Nat.reduceLT, Nat.reduceBEq, reduceCtorEq, reduceIte, hx2, lt_t hx2, lt_p hx2, nat_in (lt_n hx2) hlhx2, c6, c7, hx10, lt_t hx10, lt_p hx10, nat_in (lt_n hx10) hlhx10, g13_1, g13_2, g13_5, g13_6, g13_7, g13_8, g13_16, g13_17, g13_18, og13_0, og13_1, og13_2] using s_l1Put_ok e14) ?_
          try simp only [go_sem, Int.reduceLT, Int.reduceLE, Int.reduceBEq, Int.reduceBNe, Nat.reduceBNe, Nat.reduceAdd, Nat.reduceMul, Nat.reduceEqDiff, Nat.reduceLeDiff, Nat.reduceLT, Nat.reduceBEq, reduceCtorEq, reduceIte, hx2, lt_t hx2, lt_p hx2, nat_in (lt_n hx2) hlhx2, c6, c7, hx10, lt_t hx10, lt_p hx10, nat_in (lt_n hx10) hlhx10, g13_1, g13_2, g13_5, g13_6, g13_7, g13_8, g13_16, g13_17, g13_18, og13_0, og13_1, og13_2]
          refine ⟨_, [], [0, 147, 2], (Option.some.inj h).symm, by decide, ?_⟩
          try simp only [go_sem, Int.reduceLT, Int.reduceLE, Int.reduceBEq, Int.reduceBNe, Nat.reduceBNe, Nat.reduceAdd, Nat.reduceMul, Nat.reduceEqDiff, Nat.reduceLeDiff, Nat.reduceLT, Nat.reduceBEq, reduceCtorEq, reduceIte, hx2, lt_t hx2, lt_p hx2, nat_in (lt_n hx2) hlhx2, c6, c7, hx10, lt_t hx10, lt_p hx10, nat_in (lt_n hx10) hlhx10, g13_1, g13_2, g13_5, g13_6, g13_7, g13_8, g13_16, g13_17, g13_18, og13_0, og13_1, og13_2, IV, sts_cons, sts_nil, obs_cons, obs_nil]
        · rintro row_30 ⟨sl, ob, n⟩ hI15 hW16 h
          simp only [IV, sts_cons, sts_nil, obs_cons, obs_nil, and_true, true_and, Nat.reduceAdd, str_len] at hI15
          obtain ⟨⟨g17_1, g17_2, g17_5, g17_6, g17_7, g17_8, g17_16, g17_17, g17_18⟩, og17_0, og17_1, og17_2, hn⟩ := hI15
          subst hn
          try simp only [go_sem, Int.reduceLT, Int.reduceLE, Int.reduceBEq, Int.reduceBNe, Nat.reduceBNe, Nat.reduceAdd, Nat.reduceMul, Nat.reduceEqDiff, Nat.reduceLeDiff, Nat.reduceLT, Nat.reduceBEq, reduceCtorEq, reduceIte, hx2, lt_t hx2, lt_p hx2, nat_in (lt_n hx2) hlhx2, c6, c7, lt_f (v27.length), g17_1, g17_2, g17_5, g17_6, g17_7, g17_8, g17_16, g17_17, g17_18, og17_0, og17_1, og17_2]
          refine ⟨_, [], [0, 1], (Option.some.inj h).symm, by decide, ?_⟩
          try simp only [go_sem, Int.reduceLT, Int.reduceLE, Int.reduceBEq, Int.reduceBNe, Nat.reduceBNe, Nat.reduceAdd, Nat.reduceMul, Nat.reduceEqDiff, Nat.reduceLeDiff, Nat.reduceLT, Nat.reduceBEq, reduceCtorEq, reduceIte, hx2, lt_t hx2, lt_p hx2, nat_in (lt_n hx2) hlhx2, c6, c7, lt_f (v27.length), g17_1, g17_2, g17_5, g17_6, g17_7, g17_8, g17_16, g17_17, g17_18, og17_0, og17_1, og17_2, IV, sts_cons, sts_nil, obs_cons, obs_nil]
      · try simp only [go_sem, Int.reduceLT, Int.reduceLE, Int.reduceBEq, Int.reduceBNe, Nat.reduceBNe, Nat.reduceAdd, Nat.reduceMul, Nat.reduceEqDiff, Nat.reduceLeDiff, Nat.reduceLT, Nat.reduceBEq, reduceCtorEq, reduceIte, hx2, lt_t hx2, lt_p hx2, nat_in (lt_n hx2) hlhx2, c6, c7, g5_1, g5_2, g5_5, g5_6, og5_0, og5_1]
        refine ⟨_, [], [0, 1], (Option.some.inj h).symm, by decide, ?_⟩
        try simp only [go_sem, Int.reduceLT, Int.reduceLE, Int.reduceBEq, Int.reduceBNe, Nat.reduceBNe, Nat.reduceAdd, Nat.reduceMul, Nat.reduceEqDiff, Nat.reduceLeDiff, Nat.reduceLT, Nat.reduceBEq, reduceCtorEq, reduceIte, hx2, lt_t hx2, lt_p hx2, nat_in (lt_n hx2) hlhx2, c6, c7, g5_1, g5_2, g5_5, g5_6, og5_0, og5_1, IV, sts_cons, sts_nil, obs_cons, obs_nil]
    · replace h := inr_K h hy1
      obtain rfl := Option.some.inj h
      try simp only [go_sem, Int.reduceLT, Int.reduceLE, Int.reduceBEq, Int.reduceBNe, Nat.reduceBNe, Nat.reduceAdd, Nat.reduceMul, Nat.reduceEqDiff, Nat.reduceLeDiff, Nat.reduceLT, Nat.reduceBEq, reduceCtorEq, reduceIte, hx2, lt_t hx2, lt_p hx2, nat_in (lt_n hx2) hlhx2, c6, g5_1, g5_2, g5_5, g5_6, og5_0, og5_1]
  · rintro row_12 ⟨sl, ob, n⟩ hI18 hW19 h
    simp only [IV, sts_cons, sts_nil, obs_cons, obs_nil, and_true, true_and, Nat.reduceAdd, str_len] at hI18
    obtain ⟨⟨g20_1, g20_2, g20_5, g20_6⟩, og20_0, og20_1, hn⟩ := hI18
    subst hn
    obtain rfl := Option.some.inj h
    try simp only [go_sem, Int.reduceLT, Int.reduceLE, Int.reduceBEq, Int.reduceBNe, Nat.reduceBNe, Nat.reduceAdd, Nat.reduceMul, Nat.reduceEqDiff, Nat.reduceLeDiff, Nat.reduceLT, Nat.reduceBEq, reduceCtorEq, reduceIte, lt_f (r_0.cond.length), g20_1, g20_2, g20_5, g20_6, og20_0, og20_1]
theorem s_IsPattern_ok {p_0 : PatternD} {r : Bool} (h : s_IsPattern p_0 = some r) : Sound Try.prog J0 168 [(true, ePattern p_0)] [(false, [(false, .bool r)])] := by
  refine fnk Try.func168 (by kernel_rfl) rfl (by kernel_rfl) (by kernel_rfl) ?_
  unfold s_IsPattern at h
  simp only [fnS, f168, argSt, go_sem, Int.reduceLT, Int.reduceLE, Int.reduceBEq, Int.reduceBNe, Nat.reduceBNe, Nat.reduceAdd, Nat.reduceMul, Nat.reduceEqDiff, Nat.reduceLeDiff, Nat.reduceLT, Nat.reduceBEq, reduceCtorEq, reduceIte]
  refine swp_for h (fun i _ st => IV [(1, .bp 0 0), (3, .p false [.c (.int .i64 ((i : Nat) : Int))])] [.box 118 [.c (.str p_0.rel), .c (.sl 9 1 (List.map eStr p_0.args))]] st) [] [0] (by decide) ?_ ?_ ?_
  · simp only [go_sem, Int.reduceLT, Int.reduceLE, Int.reduceBEq, Int.reduceBNe, Nat.reduceBNe, Nat.reduceAdd, Nat.reduceMul, Nat.reduceEqDiff, Nat.reduceLeDiff, Nat.reduceLT, Nat.reduceBEq, reduceCtorEq, reduceIte, IV, sts_cons, sts_nil, obs_cons, obs_nil]
  · rintro i7 x8 ⟨⟩ ⟨sl, ob, n⟩ y1 hx2 hI3 hW4 h hy1
    simp only [IV, sts_cons, sts_nil, obs_cons, obs_nil, and_true, true_and, Nat.reduceAdd, str_len] at hI3
    obtain ⟨⟨g5_1, g5_3⟩, og5_0, hn⟩ := hI3
    subst hn
    have hlhx2 := WF.boxL hW4 og5_0 (j := 1) rfl
    try simp only [go_sem, Int.reduceLT, Int.reduceLE, Int.reduceBEq, Int.reduceBNe, Nat.reduceBNe, Nat.reduceAdd, Nat.reduceMul, Nat.reduceEqDiff, Nat.reduceLeDiff, Nat.reduceLT, Nat.reduceBEq, reduceCtorEq, reduceIte, hx2, lt_t hx2, lt_p hx2, nat_in (lt_n hx2) hlhx2, g5_1, g5_3, og5_0]
    obtain ⟨v9, e6, h⟩ := bind_K h
    refine call_K (by first | exact s_IsTerm_ok e6 | simpa only [go_sem, Int.reduceLT, Int.reduceLE, Int.reduceBEq, Int.reduceBNe, Nat.reduceBNe, Nat.reduceAdd, Nat.reduceMul, Nat.reduceEqDiff, Nat.reduceLeDiff, Nat.reduceLT, Nat.reduceBEq, reduceCtorEq, reduceIte, hx2, lt_t hx2, lt_p hx2, nat_in (lt_n hx2) hlhx2, g5_1, g5_3, og5_0] using s_IsTerm_ok e6) ?_
    try simp only [go_sem, Int.reduceLT, Int.reduceLE, Int.reduceBEq, Int.reduceBNe, Nat.reduceBNe, Nat.reduceAdd, Nat.reduceMul, Nat.reduceEqDiff, Nat.reduceLeDiff, Nat.reduceLT, Nat.reduceBEq, reduceCtorEq, reduceIte, hx2, lt_t hx2, lt_p hx2, nat_in (lt_n hx2) hlhx2, g5_1, g5_3, og5_0]
    refine ite_K h (fun c7 h => ?_) (fun c7 h => ?_)
    · try simp only [go_sem, Int.reduceLT, Int.reduceLE, Int.reduceBEq, Int.reduceBNe, Nat.reduceBNe, Nat.reduceAdd, Nat.reduceMul, Nat.reduceEqDiff, Nat.reduceLeDiff, Nat.reduceLT, Nat.reduceBEq, reduceCtorEq, reduceIte, hx2, lt_t hx2, lt_p hx2, nat_in (lt_n hx2) hlhx2, c7, g5_1, g5_3, og5_0]
      refine ⟨_, [], [0], (Option.some.inj h).symm, by decide, ?_⟩
      try simp only [go_sem, Int.reduceLT, Int.reduceLE, Int.reduceBEq, Int.reduceBNe, Nat.reduceBNe, Nat.reduceAdd, Nat.reduceMul, Nat.reduceEqDiff, Nat.reduceLeDiff, Nat.reduceLT, Nat.reduceBEq, reduceCtorEq, reduceIte, hx2, lt_t hx2, lt_p hx2, nat_in (lt_n hx2) hlhx2, c7, g5_1, g5_3, og5_0, IV, sts_cons, sts_nil, obs_cons, obs_nil]
    · replace h := inr_K h hy1
      obtain rfl := Option.some.inj h
      try simp only [go_sem, Int.reduceLT, Int.reduceLE, Int.reduceBEq, Int.reduceBNe, Nat.reduceBNe, Nat.reduceAdd, Nat.reduceMul, Nat.reduceEqDiff, Nat.reduceLeDiff, Nat.reduceLT, Nat.reduceBEq, reduceCtorEq, reduceIte, hx2, lt_t hx2, lt_p hx2, nat_in (lt_n hx2) hlhx2, c7, g5_1, g5_3, og5_0]
  · rintro ⟨⟩ ⟨sl, ob, n⟩ hI8 hW9 h
    simp only [IV, sts_cons, sts_nil, obs_cons, obs_nil, and_true, true_and, Nat.reduceAdd, str_len] at hI8
    obtain ⟨⟨g10_1, g10_3⟩, og10_0, hn⟩ := hI8
    subst hn
    try simp only [go_sem, Int.reduceLT, Int.reduceLE, Int.reduceBEq, Int.reduceBNe, Nat.reduceBNe, Nat.reduceAdd, Nat.reduceMul, Nat.reduceEqDiff, Nat.reduceLeDiff, Nat.reduceLT, Nat.reduceBEq, reduceCtorEq, reduceIte, lt_f (p_0.args.length), g10_1, g10_3, og10_0]
    obtain ⟨v10, e11, h⟩ := bind_K h
    refine call_K (by first | exact s_IsName_ok e11 | simpa only [go_sem, Int.reduceLT, Int.reduceLE, Int.reduceBEq, Int.reduceBNe, Nat.reduceBNe, Nat.reduceAdd, Nat.reduceMul, Nat.reduceEqDiff, Nat.reduceLeDiff, Nat.reduceLT, Nat.reduceBEq, reduceCtorEq, reduceIte, lt_f (p_0.args.length), g10_1, g10_3, og10_0] using s_IsName_ok e11) ?_
    try simp only [go_sem, Int.reduceLT, Int.reduceLE, Int.reduceBEq, Int.reduceBNe, Nat.reduceBNe, Nat.reduceAdd, Nat.reduceMul, Nat.reduceEqDiff, Nat.reduceLeDiff, Nat.reduceLT, Nat.reduceBEq, reduceCtorEq, reduceIte, lt_f (p_0.args.length), g10_1, g10_3, og10_0]
    refine ite_K h (fun c12 h => ?_) (fun c12 h => ?_)
    · obtain rfl := Option.some.inj h
      try simp only [go_sem, Int.reduceLT, Int.reduceLE, Int.reduceBEq, Int.reduceBNe, Nat.reduceBNe, Nat.reduceAdd, Nat.reduceMul, Nat.reduceEqDiff, Nat.reduceLeDiff, Nat.reduceLT, Nat.reduceBEq, reduceCtorEq, reduceIte, lt_f (p_0.args.length), c12, g10_1, g10_3, og10_0]
    · obtain rfl := Option.some.inj h
      try simp only [go_sem, Int.reduceLT, Int.reduceLE, Int.reduceBEq, Int.reduceBNe, Nat.reduceBNe, Nat.reduceAdd, Nat.reduceMul, Nat.reduceEqDiff, Nat.reduceLeDiff, Nat.reduceLT, Nat.reduceBEq, reduceCtorEq, reduceIte, lt_f (p_0.args.length), c12, g10_1, g10_3, og10_0]
end Go.Proofs.Ytccbhhglghboaaa

namespace Go.Proofs.Ytccbhhglghboaaa
open Go.Proofs.Try
set_option linter.unusedSimpArgs false
set_option linter.unusedVariables false
set_option maxRecDepth 1000000
set_option maxHeartbeats 4000000
theorem s_IsCond_ok {x_0 : CondD} {r : Bool} (h : s_IsCond x_0 = some r) : Sound Try.prog J0 129 [(true, eCond x_0)] [(false, [(false, .bool r)])] := by
  refine fnk Try.func129 (by kernel_rfl) rfl (by kernel_rfl) (by kernel_rfl) ?_
  unfold s_IsCond at h
  have ks0 : strOk ⟨#[]⟩ = true := by decide
  simp only [fnS, f129, argSt, go_sem, Int.reduceLT, Int.reduceLE, Int.reduceBEq, Int.reduceBNe, Nat.reduceBNe, Nat.reduceAdd, Nat.reduceMul, Nat.reduceEqDiff, Nat.reduceLeDiff, Nat.reduceLT, Nat.reduceBEq, reduceCtorEq, reduceIte, ks0]
  refine ite_K h (fun c1 h => ?_) (fun c1 h => ?_)
  · try simp only [go_sem, Int.reduceLT, Int.reduceLE, Int.reduceBEq, Int.reduceBNe, Nat.reduceBNe, Nat.reduceAdd, Nat.reduceMul, Nat.reduceEqDiff, Nat.reduceLeDiff, Nat.reduceLT, Nat.reduceBEq, reduceCtorEq, reduceIte, ks0, c1]
    obtain ⟨v1, e2, h⟩ := bind_K h
    refine call_K (by first | exact s_IsPattern_ok e2 | simpa only [go_sem, Int.reduceLT, Int.reduceLE, Int.reduceBEq, Int.reduceBNe, Nat.reduceBNe, Nat.reduceAdd, Nat.reduceMul, Nat.reduceEqDiff, Nat.reduceLeDiff, Nat.reduceLT, Nat.reduceBEq, reduceCtorEq, reduceIte, ks0, c1] using s_IsPattern_ok e2) ?_
    try simp only [go_sem, Int.reduceLT, Int.reduceLE, Int.reduceBEq, Int.reduceBNe, Nat.reduceBNe, Nat.reduceAdd, Nat.reduceMul, Nat.reduceEqDiff, Nat.reduceLeDiff, Nat.reduceLT, Nat.reduceBEq, reduceCtorEq, reduceIte, ks0, c1]
    refine ite_K h (fun c3 h => ?_) (fun c3 h => ?_)
    · try simp only [go_sem, Int.reduceLT, Int.reduceLE, Int.reduceBEq, Int.reduceBNe, Nat.reduceBNe, Nat.reduceAdd, Nat.reduceMul, Nat.reduceEqDiff, Nat.reduceLeDiff, Nat.reduceLT, Nat.reduceBEq, reduceCtorEq, reduceIte, ks0, c1, c3]
      refine ite_K h (fun c4 h => ?_) (fun c4 h => ?_)
      · obtain rfl := Option.some.inj h
        try simp only [go_sem, Int.reduceLT, Int.reduceLE, Int.reduceBEq, Int.reduceBNe, Nat.reduceBNe, Nat.reduceAdd, Nat.reduceMul, Nat.reduceEqDiff, Nat.reduceLeDiff, Nat.reduceLT, Nat.reduceBEq, reduceCtorEq, reduceIte, ks0, c1, c3, c4]
      · obtain rfl := Option.some.inj h
        try simp only [go_sem, Int.reduceLT, Int.reduceLE, Int.reduceBEq, Int.reduceBNe, Nat.reduceBNe, Nat.reduceAdd, Nat.reduceMul, Nat.reduceEqDiff, Nat.reduceLeDiff, Nat.reduceLT, Nat.reduceBEq, reduceCtorEq, reduceIte, ks0, c1, c3, c4]
    · obtain rfl := Option.some.inj h
      try simp only [go_sem, Int.reduceLT, Int.reduceLE, Int.reduceBEq, Int.reduceBNe, Nat.reduceBNe, Nat.reduceAdd, Nat.reduceMul, Nat.reduceEqDiff, Nat.reduceLeDiff, Nat.reduceLT, Nat.reduceBEq, reduceCtorEq, reduceIte, ks0, c1, c3]
  · try simp only [go_sem, Int.reduceLT, Int.reduceLE, Int.reduceBEq, Int.reduceBNe, Nat.reduceBNe, Nat.reduceAdd, Nat.reduceMul, Nat.reduceEqDiff, Nat.reduceLeDiff, Nat.reduceLT, Nat.reduceBEq, reduceCtorEq, reduceIte, ks0, c1]
    refine ite_K h (fun c5 h => ?_) (fun c5 h => ?_)
    · try simp only [go_sem, Int.reduceLT, Int.reduceLE, Int.reduceBEq, Int.reduceBNe, Nat.reduceBNe, Nat.reduceAdd, Nat.reduceMul, Nat.reduceEqDiff, Nat.reduceLeDiff, Nat.reduceLT, Nat.reduceBEq, reduceCtorEq, reduceIte, ks0, c1, c5]
      obtain ⟨v2, e6, h⟩ := bind_K h
      refine call_K (by first | exact s_IsPattern_ok e6 | simpa only [go_sem, Int.reduceLT, Int.reduceLE, Int.reduceBEq, Int.reduceBNe, Nat.reduceBNe, Nat.reduceAdd, Nat.reduceMul, Nat.reduceEqDiff, Nat.reduceLeDiff, Nat.reduceLT, Nat.reduceBEq, reduceCtorEq, reduceIte, ks0, c1, c5] using s_IsPattern_ok e6) ?_
      try simp only [go_sem, Int.reduceLT, Int.reduceLE, Int.reduceBEq, Int.reduceBNe, Nat.reduceBNe, Nat.reduceAdd, Nat.reduceMul, Nat.reduceEqDiff, Nat.reduceLeDiff, Nat.reduceLT, Nat.reduceBEq, reduceCtorEq, reduceIte, ks0, c1, c5]
      refine ite_K h (fun c7 h => ?_) (fun c7 h => ?_)
      · try simp only [go_sem, Int.reduceLT, Int.reduceLE, Int.reduceBEq, Int.reduceBNe, Nat.reduceBNe, Nat.reduceAdd, Nat.reduceMul, Nat.reduceEqDiff, Nat.reduceLeDiff, Nat.reduceLT, Nat.reduceBEq, reduceCtorEq, reduceIte, ks0, c1, c5, c7]
        refine ite_K h (fun c8 h => ?_) (fun c8 h => ?_)
        · obtain rfl := Option.some.inj h
          try simp only [go_sem, Int.reduceLT, Int.reduceLE, Int.reduceBEq, Int.reduceBNe, Nat.reduceBNe, Nat.reduceAdd, Nat.reduceMul, Nat.reduceEqDiff, Nat.reduceLeDiff, Nat.reduceLT, Nat.reduceBEq, reduceCtorEq, reduceIte, ks0, c1, c5, c7, c8]
        · obtain rfl := Option.some.inj h
          try simp only [go_sem, Int.reduceLT, Int.reduceLE, Int.reduceBEq, Int.reduceBNe, Nat.reduceBNe, Nat.reduceAdd, Nat.reduceMul, Nat.reduceEqDiff, Nat.reduceLeDiff, Nat.reduceLT, Nat.reduceBEq, reduceCtorEq, reduceIte, ks0, c1, c5, c7, c8]
      · obtain rfl := Option.some.inj h
        try simp only [go_sem, Int.reduceLT, Int.reduceLE, Int.reduceBEq, Int.reduceBNe, Nat.reduceBNe, Nat.reduceAdd, Nat.reduceMul, Nat.reduceEqDiff, Nat.reduceLeDiff, Nat.reduceLT, Nat.reduceBEq, reduceCtorEq, reduceIte, ks0, c1, c5, c7]
    · try simp only [go_sem, Int.reduceLT, Int.reduceLE, Int.reduceBEq, Int.reduceBNe, Nat.reduceBNe, Nat.reduceAdd, Nat.reduceMul, Nat.reduceEqDiff, Nat.reduceLeDiff, Nat.reduceLT, Nat.reduceBEq, reduceCtorEq, reduceIte, ks0, c1, c5]
      refine ite_K h (fun c9 h => ?_) (fun c9 h => ?_)
      · try simp only [go_sem, Int.reduceLT, Int.reduceLE, Int.reduceBEq, Int.reduceBNe, Nat.reduceBNe, Nat.reduceAdd, Nat.reduceMul, Nat.reduceEqDiff, Nat.reduceLeDiff, Nat.reduceLT, Nat.reduceBEq, reduceCtorEq, reduceIte, ks0, c1, c5, c9]
        refine ite_K h (fun c10 h => ?_) (fun c10 h => ?_)
        · try simp only [go_sem, Int.reduceLT, Int.reduceLE, Int.reduceBEq, Int.reduceBNe, Nat.reduceBNe, Nat.reduceAdd, Nat.reduceMul, Nat.reduceEqDiff, Nat.reduceLeDiff, Nat.reduceLT, Nat.reduceBEq, reduceCtorEq, reduceIte, ks0, c1, c5, c9, c10]
          refine ite_K h (fun c11 h => ?_) (fun c11 h => ?_)
          · try simp only [go_sem, Int.reduceLT, Int.reduceLE, Int.reduceBEq, Int.reduceBNe, Nat.reduceBNe, Nat.reduceAdd, Nat.reduceMul, Nat.reduceEqDiff, Nat.reduceLeDiff, Nat.reduceLT, Nat.reduceBEq, reduceCtorEq, reduceIte, ks0, c1, c5, c9, c10, c11]
            obtain ⟨v3, e12, h⟩ := bind_K h
            refine call_K (by first | exact s_IsTerm_ok e12 | simpa only [go_sem, Int.reduceLT, Int.reduceLE, Int.reduceBEq, Int.reduceBNe, Nat.reduceBNe, Nat.reduceAdd, Nat.reduceMul, Nat.reduceEqDiff, Nat.reduceLeDiff, Nat.reduceLT, Nat.reduceBEq, reduceCtorEq, reduceIte, ks0, c1, c5, c9, c10, c11] using s_IsTerm_ok e12) ?_
            try simp only [go_sem, Int.reduceLT, Int.reduceLE, Int.reduceBEq, Int.reduceBNe, Nat.reduceBNe, Nat.reduceAdd, Nat.reduceMul, Nat.reduceEqDiff, Nat.reduceLeDiff, Nat.reduceLT, Nat.reduceBEq, reduceCtorEq, reduceIte, ks0, c1, c5, c9, c10, c11]
            refine ite_K h (fun c13 h => ?_) (fun c13 h => ?_)
            · try simp only [go_sem, Int.reduceLT, Int.reduceLE, Int.reduceBEq, Int.reduceBNe, Nat.reduceBNe, Nat.reduceAdd, Nat.reduceMul, Nat.reduceEqDiff, Nat.reduceLeDiff, Nat.reduceLT, Nat.reduceBEq, reduceCtorEq, reduceIte, ks0, c1, c5, c9, c10, c11, c13]
              obtain ⟨v4, e14, h⟩ := bind_K h
              refine call_K (by first | exact s_IsTerm_ok e14 | simpa only [go_sem, Int.reduceLT, Int.reduceLE, Int.reduceBEq, Int.reduceBNe, Nat.reduceBNe, Nat.reduceAdd, Nat.reduceMul, Nat.reduceEqDiff, Nat.reduceLeDiff, Nat.reduceLT, Nat.reduceBEq, reduceCtorEq, reduceIte, ks0, c1, c5, c9, c10, c11, c13] using s_IsTerm_ok e14) ?_
              obtain rfl := Option.some.inj h
              try simp only [go_sem, Int.reduceLT, Int.reduceLE, Int.reduceBEq, Int.reduceBNe, Nat.reduceBNe, Nat.reduceAdd, Nat.reduceMul, Nat.reduceEqDiff, Nat.reduceLeDiff, Nat.reduceLT, Nat.reduceBEq, reduceCtorEq, reduceIte, ks0, c1, c5, c9, c10, c11, c13]
            · obtain rfl := Option.some.inj h
              try simp only [go_sem, Int.reduceLT, Int.reduceLE, Int.reduceBEq, Int.reduceBNe, Nat.reduceBNe, Nat.reduceAdd, Nat.reduceMul, Nat.reduceEqDiff, Nat.reduceLeDiff, Nat.reduceLT, Nat.reduceBEq, reduceCtorEq, reduceIte, ks0, c1, c5, c9, c10, c11, c13]
          · obtain rfl := Option.some.inj h
            try simp only [go_sem, Int.reduceLT, Int.reduceLE, Int.reduceBEq, Int.reduceBNe, Nat.reduceBNe, Nat.reduceAdd, Nat.reduceMul, Nat.reduceEqDiff, Nat.reduceLeDiff, Nat.reduceLT, Nat.reduceBEq, reduceCtorEq, reduceIte, ks0, c1, c5, c9, c10, c11]
        · obtain rfl := Option.some.inj h
          try simp only [go_sem, Int.reduceLT, Int.reduceLE, Int.reduceBEq, Int.reduceBNe, Nat.reduceBNe, Nat.reduceAdd, Nat.reduceMul, Nat.reduceEqDiff, Nat.reduceLeDiff, Nat.reduceLT, Nat.reduceBEq, reduceCtorEq, reduceIte, ks0, c1, c5, c9, c10]
      · try simp only [go_sem, Int.reduceLT, Int.reduceLE, Int.reduceBEq, Int.reduceBNe, Nat.reduceBNe, Nat.reduceAdd, Nat.reduceMul, Nat.reduceEqDiff, Nat.reduceLeDiff, Nat.reduceLT, Nat.reduceBEq, reduceCtorEq, reduceIte, ks0, c1, c5, c9]
        refine ite_K h (fun c15 h => ?_) (fun c15 h => ?_)
        · try simp only [go_sem, Int.reduceLT, Int.reduceLE, Int.reduceBEq, Int.reduceBNe, Nat.reduceBNe, Nat.reduceAdd, Nat.reduceMul, Nat.reduceEqDiff, Nat.reduceLeDiff, Nat.reduceLT, Nat.reduceBEq, reduceCtorEq, reduceIte, ks0, c1, c5, c9, c15]
          refine ite_K h (fun c16 h => ?_) (fun c16 h => ?_)
          · try simp only [go_sem, Int.reduceLT, Int.reduceLE, Int.reduceBEq, Int.reduceBNe, Nat.reduceBNe, Nat.reduceAdd, Nat.reduceMul, Nat.reduceEqDiff, Nat.reduceLeDiff, Nat.reduceLT, Nat.reduceBEq, reduceCtorEq, reduceIte, ks0, c1, c5, c9, c15, c16]
            refine ite_K h (fun c17 h => ?_) (fun c17 h => ?_)
            · try simp only [go_sem, Int.reduceLT, Int.reduceLE, Int.reduceBEq, Int.reduceBNe, Nat.reduceBNe, Nat.reduceAdd, Nat.reduceMul, Nat.reduceEqDiff, Nat.reduceLeDiff, Nat.reduceLT, Nat.reduceBEq, reduceCtorEq, reduceIte, ks0, c1, c5, c9, c15, c16, c17]
              obtain ⟨v5, e18, h⟩ := bind_K h
              refine call_K (by first | exact s_IsTerm_ok e18 | simpa only [go_sem, Int.reduceLT, Int.reduceLE, Int.reduceBEq, Int.reduceBNe, Nat.reduceBNe, Nat.reduceAdd, Nat.reduceMul, Nat.reduceEqDiff, Nat.reduceLeDiff, Nat.reduceLT, Nat.reduceBEq, reduceCtorEq, reduceIte, ks0, c1, c5, c9, c15, c16, c17] using s_IsTerm_ok e18) ?_
              try simp only [go_sem, Int.reduceLT, Int.reduceLE, Int.reduceBEq, Int.reduceBNe, Nat.reduceBNe, Nat.reduceAdd, Nat.reduceMul, Nat.reduceEqDiff, Nat.reduceLeDiff, Nat.reduceLT, Nat.reduceBEq, reduceCtorEq, reduceIte, ks0, c1, c5, c9, c15, c16, c17]
              refine ite_K h (fun c19 h => ?_) (fun c19 h => ?_)
              · try simp only [go_sem, Int.reduceLT, Int.reduceLE, Int.reduceBEq, Int.reduceBNe, Nat.reduceBNe, Nat.reduceAdd, Nat.reduceMul, Nat.reduceEqDiff, Nat.reduceLeDiff, Nat.reduceLT, Nat.reduceBEq, reduceCtorEq, reduceIte, ks0, c1, c5, c9, c15, c16, c17, c19]
                obtain ⟨v6, e20, h⟩ := bind_K h
                refine call_K (by first | exact s_IsTerm_ok e20 | simpa only [go_sem, Int.reduceLT, Int.reduceLE, Int.reduceBEq, Int.reduceBNe, Nat.reduceBNe, Nat.reduceAdd, Nat.reduceMul, Nat.reduceEqDiff, Nat.reduceLeDiff, Nat.reduceLT, Nat.reduceBEq, reduceCtorEq, reduceIte, ks0, c1, c5, c9, c15, c16, c17, c19] using s_IsTerm_ok e20) ?_
                obtain rfl := Option.some.inj h
                try simp only [go_sem, Int.reduceLT, Int.reduceLE, Int.reduceBEq, Int.reduceBNe, Nat.reduceBNe, Nat.reduceAdd, Nat.reduceMul, Nat.reduceEqDiff, Nat.reduceLeDiff, Nat.reduceLT, Nat.reduceBEq, reduceCtorEq, reduceIte, ks0, c1, c5, c9, c15, c16, c17, c19]
              · obtain rfl := Option.some.inj h
                try simp only [go_sem, Int.reduceLT, Int.reduceLE, Int.reduceBEq, Int.reduceBNe, Nat.reduceBNe, Nat.reduceAdd, Nat.reduceMul, Nat.reduceEqDiff, Nat.reduceLeDiff, Nat.reduceLT, Nat.reduceBEq, reduceCtorEq, reduceIte, ks0, c1, c5, c9, c15, c16, c17, c19]
            · obtain rfl := Option.some.inj h
              try simp only [go_sem, Int.reduceLT, Int.reduceLE, Int.reduceBEq, Int.reduceBNe, Nat.reduceBNe, Nat.reduceAdd, Nat.reduceMul, Nat.reduceEqDiff, Nat.reduceLeDiff, Nat.reduceLT, Nat.reduceBEq, reduceCtorEq, reduceIte, ks0, c1, c5, c9, c15, c16, c17]
          · obtain rfl := Option.some.inj h
            try simp only [go_sem, Int.reduceLT, Int.reduceLE, Int.reduceBEq, Int.reduceBNe, Nat.reduceBNe, Nat.reduceAdd, Nat.reduceMul, Nat.reduceEqDiff, Nat.reduceLeDiff, Nat.reduceLT, Nat.reduceBEq, reduceCtorEq, reduceIte, ks0, c1, c5, c9, c15, c16]
        · try simp only [go_sem, Int.reduceLT, Int.reduceLE, Int.reduceBEq, Int.reduceBNe, Nat.reduceBNe, Nat.reduceAdd, Nat.reduceMul, Nat.reduceEqDiff, Nat.reduceLeDiff, Nat.reduceLT, Nat.reduceBEq, reduceCtorEq, reduceIte, ks0, c1, c5, c9, c15]
          refine ite_K h (fun c21 h => ?_) (fun c21 h => ?_)
          · try simp only [go_sem, Int.reduceLT, Int.reduceLE, Int.reduceBEq, Int.reduceBNe, Nat.reduceBNe, Nat.reduceAdd, Nat.reduceMul, Nat.reduceEqDiff, Nat.reduceLeDiff, Nat.reduceLT, Nat.reduceBEq, reduceCtorEq, reduceIte, ks0, c1, c5, c9, c15, c21]
            refine ite_K h (fun c22 h => ?_) (fun c22 h => ?_)
            · try simp only [go_sem, Int.reduceLT, Int.reduceLE, Int.reduceBEq, Int.reduceBNe, Nat.reduceBNe, Nat.reduceAdd, Nat.reduceMul, Nat.reduceEqDiff, Nat.reduceLeDiff, Nat.reduceLT, Nat.reduceBEq, reduceCtorEq, reduceIte, ks0, c1, c5, c9, c15, c21, c22]
              refine ite_K h (fun c23 h => ?_) (fun c23 h => ?_)
              · try simp only [go_sem, Int.reduceLT, Int.reduceLE, Int.reduceBEq, Int.reduceBNe, Nat.reduceBNe, Nat.reduceAdd, Nat.reduceMul, Nat.reduceEqDiff, Nat.reduceLeDiff, Nat.reduceLT, Nat.reduceBEq, reduceCtorEq, reduceIte, ks0, c1, c5, c9, c15, c21, c22, c23]
                obtain ⟨v7, e24, h⟩ := bind_K h
                refine call_K (by first | exact s_IsTerm_ok e24 | simpa only [go_sem, Int.reduceLT, Int.reduceLE, Int.reduceBEq, Int.reduceBNe, Nat.reduceBNe, Nat.reduceAdd, Nat.reduceMul, Nat.reduceEqDiff, Nat.reduceLeDiff, Nat.reduceLT, Nat.reduceBEq, reduceCtorEq, reduceIte, ks0, c1, c5, c9, c15, c21, c22, c23] using s_IsTerm_ok e24) ?_
                try simp only [go_sem, Int.reduceLT, Int.reduceLE, Int.reduceBEq, Int.reduceBNe, Nat.reduceBNe, Nat.reduceAdd, Nat.reduceMul, Nat.reduceEqDiff, Nat.reduceLeDiff, Nat.reduceLT, Nat.reduceBEq, reduceCtorEq, reduceIte, ks0, c1, c5, c9, c15, c21, c22, c23]
                refine ite_K h (fun c25 h => ?_) (fun c25 h => ?_)
                · try simp only [go_sem, Int.reduceLT, Int.reduceLE, Int.reduceBEq, Int.reduceBNe, Nat.reduceBNe, Nat.reduceAdd, Nat.reduceMul, Nat.reduceEqDiff, Nat.reduceLeDiff, Nat.reduceLT, Nat.reduceBEq, reduceCtorEq, reduceIte, ks0, c1, c5, c9, c15, c21, c22, c23, c25]
                  obtain ⟨v8, e26, h⟩ := bind_K h
                  refine call_K (by first | exact s_IsTerm_ok e26 | simpa only [go_sem, Int.reduceLT, Int.reduceLE, Int.reduceBEq, Int.reduceBNe, Nat.reduceBNe, Nat.reduceAdd, Nat.reduceMul, Nat.reduceEqDiff, Nat.reduceLeDiff, Nat.reduceLT, Nat.reduceBEq, reduceCtorEq, reduceIte, ks0, c1, c5, c9, c15, c21, c22, c23, c25] using s_IsTerm_ok e26) ?_
                  obtain rfl := Option.some.inj h
                  try simp only [go_sem, Int.reduceLT, Int.reduceLE, Int.reduceBEq, Int.reduceBNe, Nat.reduceBNe, Nat.reduceAdd, Nat.reduceMul, Nat.reduceEqDiff, Nat.reduceLeDiff, Nat.reduceLT, Nat.reduceBEq, reduceCtorEq, reduceIte, ks0, c1, c5, c9, c15, c21, c22, c23, c25]
                · obtain rfl := Option.some.inj h
                  try simp only [go_sem, Int.reduceLT, Int.reduceLE, Int.reduceBEq, Int.reduceBNe, Nat.reduceBNe, Nat.reduceAdd, Nat.reduceMul, Nat.reduceEqDiff, Nat.reduceLeDiff, Nat.reduceLT, Nat.reduceBEq, reduceCtorEq, reduceIte, ks0, c1, c5, c9, c15, c21, c22, c23, c25]
              · obtain rfl := Option.some.inj h
                try simp only [go_sem, Int.reduceLT, Int.reduceLE, Int.reduceBEq, Int.reduceBNe, Nat.reduceBNe, Nat.reduceAdd, Nat.reduceMul, Nat.reduceEqDiff, Nat.reduceLeDiff, Nat.reduceLT, Nat.reduceBEq, reduceCtorEq, reduceIte, ks0, c1, c5, c9, c15, c21, c22, c23]
            · obtain rfl := Option.some.inj h
              try simp only [go_sem, Int.reduceLT, Int.reduceLE, Int.reduceBEq, Int.reduceBNe, Nat.reduceBNe, Nat.reduceAdd, Nat.reduceMul, Nat.reduceEqDiff, Nat.reduceLeDiff, Nat.reduceLT, Nat.reduceBEq, reduceCtorEq, reduceIte, ks0, c1, c5, c9, c15, c21, c22]
          · obtain rfl := Option.some.inj h
            try simp only [go_sem, Int.reduceLT, Int.reduceLE, Int.reduceBEq, Int.reduceBNe, Nat.reduceBNe, Nat.reduceAdd, Nat.reduceMul, Nat.reduceEqDiff, Nat.reduceLeDiff, Nat.reduceLT, Nat.reduceBEq, reduceCtorEq, reduceIte, ks0, c1, c5, c9, c15, c21]
theorem s_l5Elsewhere_ok {r_0 : RuleD} {i_1 : Int} {v_2 : ByteArray} {r : Bool} (h : s_l5Elsewhere r_0 i_1 v_2 = some r) : Sound Try.prog J0 131 [(true, eRule r_0), (false, [.int .i64 i_1]), (false, [.str v_2])] [(false, [(false, .bool r)])] := by
  refine fnk Try.func131 (by kernel_rfl) rfl (by kernel_rfl) (by kernel_rfl) ?_
  unfold s_l5Elsewhere at h
  simp only [fnS, f131, argSt, go_sem, Int.reduceLT, Int.reduceLE, Int.reduceBEq, Int.reduceBNe, Nat.reduceBNe, Nat.reduceAdd, Nat.reduceMul, Nat.reduceEqDiff, Nat.reduceLeDiff, Nat.reduceLT, Nat.reduceBEq, reduceCtorEq, reduceIte]
  refine swp_for h (fun i _ st => IV [(1, .p false [.c (.int .i64 i_1)]), (2, .p false [.c (.str v_2)]), (3, .bp 0 0), (7, .p false [.c (.int .i64 ((i : Nat) : Int))])] [.box 75 [.c (.str r_0.name), .c (.int .i64 r_0.priority), .c (.sl 120 5 (List.map eCond r_0.cond)), .c (.sl 128 3 (List.map eAction r_0.thn))]] st) [] [0] (by decide) ?_ ?_ ?_
  · simp only [go_sem, Int.reduceLT, Int.reduceLE, Int.reduceBEq, Int.reduceBNe, Nat.reduceBNe, Nat.reduceAdd, Nat.reduceMul, Nat.reduceEqDiff, Nat.reduceLeDiff, Nat.reduceLT, Nat.reduceBEq, reduceCtorEq, reduceIte, IV, sts_cons, sts_nil, obs_cons, obs_nil]
  · rintro i19 x20 ⟨⟩ ⟨sl, ob, n⟩ y1 hx2 hI3 hW4 h hy1
    simp only [IV, sts_cons, sts_nil, obs_cons, obs_nil, and_true, true_and, Nat.reduceAdd, str_len] at hI3
    obtain ⟨⟨g5_1, g5_2, g5_3, g5_7⟩, og5_0, hn⟩ := hI3
    subst hn
    have hlhx2 := WF.boxL hW4 og5_0 (j := 2) rfl
    try simp only [go_sem, Int.reduceLT, Int.reduceLE, Int.reduceBEq, Int.reduceBNe, Nat.reduceBNe, Nat.reduceAdd, Nat.reduceMul, Nat.reduceEqDiff, Nat.reduceLeDiff, Nat.reduceLT, Nat.reduceBEq, reduceCtorEq, reduceIte, hx2, lt_t hx2, lt_p hx2, nat_in (lt_n hx2) hlhx2, g5_1, g5_2, g5_3, g5_7, og5_0]
    refine ite_K h (fun c6 h => ?_) (fun c6 h => ?_)
    · try simp only [go_sem, Int.reduceLT, Int.reduceLE, Int.reduceBEq, Int.reduceBNe, Nat.reduceBNe, Nat.reduceAdd, Nat.reduceMul, Nat.reduceEqDiff, Nat.reduceLeDiff, Nat.reduceLT, Nat.reduceBEq, reduceCtorEq, reduceIte, hx2, lt_t hx2, lt_p hx2, nat_in (lt_n hx2) hlhx2, c6, g5_1, g5_2, g5_3, g5_7, og5_0]
      obtain ⟨v21, e7, h⟩ := bind_K h
      refine call_K (by first | exact s_CondVars_ok e7 | simpa only [go_sem, Int.reduceLT, Int.reduceLE, Int.reduceBEq, Int.reduceBNe, Nat.reduceBNe, Nat.reduceAdd, Nat.reduceMul, Nat.reduceEqDiff, Nat.reduceLeDiff, Nat.reduceLT, Nat.reduceBEq, reduceCtorEq, reduceIte, hx2, lt_t hx2, lt_p hx2, nat_in (lt_n hx2) hlhx2, c6, g5_1, g5_2, g5_3, g5_7, og5_0] using s_CondVars_ok e7) ?_
      try simp only [go_sem, Int.reduceLT, Int.reduceLE, Int.reduceBEq, Int.reduceBNe, Nat.reduceBNe, Nat.reduceAdd, Nat.reduceMul, Nat.reduceEqDiff, Nat.reduceLeDiff, Nat.reduceLT, Nat.reduceBEq, reduceCtorEq, reduceIte, hx2, lt_t hx2, lt_p hx2, nat_in (lt_n hx2) hlhx2, c6, g5_1, g5_2, g5_3, g5_7, og5_0]
      obtain ⟨v22, e8, h⟩ := bind_K h
      refine call_K (by first | exact s_l1HasText_ok e8 | simpa only [go_sem, Int.reduceLT, Int.reduceLE, Int.reduceBEq, Int.reduceBNe, Nat.reduceBNe, Nat.reduceAdd, Nat.reduceMul, Nat.reduceEqDiff, Nat.reduceLeDiff, Nat.reduceLT, Nat.reduceBEq, reduceCtorEq, reduceIte, hx2, lt_t hx2, lt_p hx2, nat_in (lt_n hx2) hlhx2, c6, g5_1, g5_2, g5_3, g5_7, og5_0] using s_l1HasText_ok e8) ?_
      try simp only [go_sem, Int.reduceLT, Int.reduceLE, Int.reduceBEq, Int.reduceBNe, Nat.reduceBNe, Nat.reduceAdd, Nat.reduceMul, Nat.reduceEqDiff, Nat.reduceLeDiff, Nat.reduceLT, Nat.reduceBEq, reduceCtorEq, reduceIte, hx2, lt_t hx2, lt_p hx2, nat_in (lt_n hx2) hlhx2, c6, g5_1, g5_2, g5_3, g5_7, og5_0]
      refine ite_K h (fun c9 h => ?_) (fun c9 h => ?_)
      · replace h := inr_K h hy1
        obtain rfl := Option.some.inj h
        try simp only [go_sem, Int.reduceLT, Int.reduceLE, Int.reduceBEq, Int.reduceBNe, Nat.reduceBNe, Nat.reduceAdd, Nat.reduceMul, Nat.reduceEqDiff, Nat.reduceLeDiff, Nat.reduceLT, Nat.reduceBEq, reduceCtorEq, reduceIte, hx2, lt_t hx2, lt_p hx2, nat_in (lt_n hx2) hlhx2, c6, c9, g5_1, g5_2, g5_3, g5_7, og5_0]
      · try simp only [go_sem, Int.reduceLT, Int.reduceLE, Int.reduceBEq, Int.reduceBNe, Nat.reduceBNe, Nat.reduceAdd, Nat.reduceMul, Nat.reduceEqDiff, Nat.reduceLeDiff, Nat.reduceLT, Nat.reduceBEq, reduceCtorEq, reduceIte, hx2, lt_t hx2, lt_p hx2, nat_in (lt_n hx2) hlhx2, c6, c9, g5_1, g5_2, g5_3, g5_7, og5_0]
        refine ⟨_, [], [0], (Option.some.inj h).symm, by decide, ?_⟩
        try simp only [go_sem, Int.reduceLT, Int.reduceLE, Int.reduceBEq, Int.reduceBNe, Nat.reduceBNe, Nat.reduceAdd, Nat.reduceMul, Nat.reduceEqDiff, Nat.reduceLeDiff, Nat.reduceLT, Nat.reduceBEq, reduceCtorEq, reduceIte, hx2, lt_t hx2, lt_p hx2, nat_in (lt_n hx2) hlhx2, c6, c9, g5_1, g5_2, g5_3, g5_7, og5_0, IV, sts_cons, sts_nil, obs_cons, obs_nil]
    · try simp only [go_sem, Int.reduceLT, Int.reduceLE, Int.reduceBEq, Int.reduceBNe, Nat.reduceBNe, Nat.reduceAdd, Nat.reduceMul, Nat.reduceEqDiff, Nat.reduceLeDiff, Nat.reduceLT, Nat.reduceBEq, reduceCtorEq, reduceIte, hx2, lt_t hx2, lt_p hx2, nat_in (lt_n hx2) hlhx2, c6, g5_1, g5_2, g5_3, g5_7, og5_0]
      refine ⟨_, [], [0], (Option.some.inj h).symm, by decide, ?_⟩
      try simp only [go_sem, Int.reduceLT, Int.reduceLE, Int.reduceBEq, Int.reduceBNe, Nat.reduceBNe, Nat.reduceAdd, Nat.reduceMul, Nat.reduceEqDiff, Nat.reduceLeDiff, Nat.reduceLT, Nat.reduceBEq, reduceCtorEq, reduceIte, hx2, lt_t hx2, lt_p hx2, nat_in (lt_n hx2) hlhx2, c6, g5_1, g5_2, g5_3, g5_7, og5_0, IV, sts_cons, sts_nil, obs_cons, obs_nil]
  · rintro ⟨⟩ ⟨sl, ob, n⟩ hI10 hW11 h
    simp only [IV, sts_cons, sts_nil, obs_cons, obs_nil, and_true, true_and, Nat.reduceAdd, str_len] at hI10
    obtain ⟨⟨g12_1, g12_2, g12_3, g12_7⟩, og12_0, hn⟩ := hI10
    subst hn
    try simp only [go_sem, Int.reduceLT, Int.reduceLE, Int.reduceBEq, Int.reduceBNe, Nat.reduceBNe, Nat.reduceAdd, Nat.reduceMul, Nat.reduceEqDiff, Nat.reduceLeDiff, Nat.reduceLT, Nat.reduceBEq, reduceCtorEq, reduceIte, lt_f (r_0.cond.length), g12_1, g12_2, g12_3, g12_7, og12_0]
    refine swp_for h (fun i _ st => IV [(2, .p false [.c (.str v_2)]), (3, .bp 0 0), (8, .p false [.c (.int .i64 ((i : Nat) : Int))])] [.box 75 [.c (.str r_0.name), .c (.int .i64 r_0.priority), .c (.sl 120 5 (List.map eCond r_0.cond)), .c (.sl 128 3 (List.map eAction r_0.thn))]] st) [] [0] (by decide) ?_ ?_ ?_
    · simp only [go_sem, Int.reduceLT, Int.reduceLE, Int.reduceBEq, Int.reduceBNe, Nat.reduceBNe, Nat.reduceAdd, Nat.reduceMul, Nat.reduceEqDiff, Nat.reduceLeDiff, Nat.reduceLT, Nat.reduceBEq, reduceCtorEq, reduceIte, IV, sts_cons, sts_nil, obs_cons, obs_nil, lt_f (r_0.cond.length), g12_1, g12_2, g12_3, g12_7, og12_0]
    · rintro i30 x31 ⟨⟩ ⟨sl, ob, n⟩ y13 hx14 hI15 hW16 h hy13
      simp only [IV, sts_cons, sts_nil, obs_cons, obs_nil, and_true, true_and, Nat.reduceAdd, str_len] at hI15
      obtain ⟨⟨g17_2, g17_3, g17_8⟩, og17_0, hn⟩ := hI15
      subst hn
      have hlhx14 := WF.boxL hW16 og17_0 (j := 3) rfl
      try simp only [go_sem, Int.reduceLT, Int.reduceLE, Int.reduceBEq, Int.reduceBNe, Nat.reduceBNe, Nat.reduceAdd, Nat.reduceMul, Nat.reduceEqDiff, Nat.reduceLeDiff, Nat.reduceLT, Nat.reduceBEq, reduceCtorEq, reduceIte, lt_f (r_0.cond.length), hx14, lt_t hx14, lt_p hx14, nat_in (lt_n hx14) hlhx14, g17_2, g17_3, g17_8, og17_0]
      obtain ⟨v32, e18, h⟩ := bind_K h
      refine call_K (by first | exact s_VarsOf_ok e18 | simpa only [go_sem, Int.reduceLT, Int.reduceLE, Int.reduceBEq, Int.reduceBNe, Nat.reduceBNe, Nat.reduceAdd, Nat.reduceMul, Nat.reduceEqDiff, Nat.reduceLeDiff, Nat.reduceLT, Nat.reduceBEq, reduceCtorEq, reduceIte, lt_f (r_0.cond.length), hx14, lt_t hx14, lt_p hx14, nat_in (lt_n hx14) hlhx14, g17_2, g17_3, g17_8, og17_0] using s_VarsOf_ok e18) ?_
      try simp only [go_sem, Int.reduceLT, Int.reduceLE, Int.reduceBEq, Int.reduceBNe, Nat.reduceBNe, Nat.reduceAdd, Nat.reduceMul, Nat.reduceEqDiff, Nat.reduceLeDiff, Nat.reduceLT, Nat.reduceBEq, reduceCtorEq, reduceIte, lt_f (r_0.cond.length), hx14, lt_t hx14, lt_p hx14, nat_in (lt_n hx14) hlhx14, g17_2, g17_3, g17_8, og17_0]
      obtain ⟨v33, e19, h⟩ := bind_K h
      refine call_K (by first | exact s_l1HasText_ok e19 | simpa only [go_sem, Int.reduceLT, Int.reduceLE, Int.reduceBEq, Int.reduceBNe, Nat.reduceBNe, Nat.reduceAdd, Nat.reduceMul, Nat.reduceEqDiff, Nat.reduceLeDiff, Nat.reduceLT, Nat.reduceBEq, reduceCtorEq, reduceIte, lt_f (r_0.cond.length), hx14, lt_t hx14, lt_p hx14, nat_in (lt_n hx14) hlhx14, g17_2, g17_3, g17_8, og17_0] using s_l1HasText_ok e19) ?_
      try simp only [go_sem, Int.reduceLT, Int.reduceLE, Int.reduceBEq, Int.reduceBNe, Nat.reduceBNe, Nat.reduceAdd, Nat.reduceMul, Nat.reduceEqDiff, Nat.reduceLeDiff, Nat.reduceLT, Nat.reduceBEq, reduceCtorEq, reduceIte, lt_f (r_0.cond.length), hx14, lt_t hx14, lt_p hx14, nat_in (lt_n hx14) hlhx14, g17_2, g17_3, g17_8, og17_0]
      refine ite_K h (fun c20 h => ?_) (fun c20 h => ?_)
      · replace h := inr_K h hy13
        obtain rfl := Option.some.inj h
        try simp only [go_sem, Int.reduceLT, Int.reduceLE, Int.reduceBEq, Int.reduceBNe, Nat.reduceBNe, Nat.reduceAdd, Nat.reduceMul, Nat.reduceEqDiff, Nat.reduceLeDiff, Nat.reduceLT, Nat.reduceBEq, reduceCtorEq, reduceIte, lt_f (r_0.cond.length), hx14, lt_t hx14, lt_p hx14, nat_in (lt_n hx14) hlhx14, c20, g17_2, g17_3, g17_8, og17_0]
      · try simp only [go_sem, Int.reduceLT, Int.reduceLE, Int.reduceBEq, Int.reduceBNe, Nat.reduceBNe, Nat.reduceAdd, Nat.reduceMul, Nat.reduceEqDiff, Nat.reduceLeDiff, Nat.reduceLT, Nat.reduceBEq, reduceCtorEq, reduceIte, lt_f (r_0.cond.length), hx14, lt_t hx14, lt_p hx14, nat_in (lt_n hx14) hlhx14, c20, g17_2, g17_3, g17_8, og17_0]
        refine ⟨_, [], [0], (Option.some.inj h).symm, by decide, ?_⟩
        try simp only [go_sem, Int.reduceLT, Int.reduceLE, Int.reduceBEq, Int.reduceBNe, Nat.reduceBNe, Nat.reduceAdd, Nat.reduceMul, Nat.reduceEqDiff, Nat.reduceLeDiff, Nat.reduceLT, Nat.reduceBEq, reduceCtorEq, reduceIte, lt_f (r_0.cond.length), hx14, lt_t hx14, lt_p hx14, nat_in (lt_n hx14) hlhx14, c20, g17_2, g17_3, g17_8, og17_0, IV, sts_cons, sts_nil, obs_cons, obs_nil]
    · rintro ⟨⟩ ⟨sl, ob, n⟩ hI21 hW22 h
      simp only [IV, sts_cons, sts_nil, obs_cons, obs_nil, and_true, true_and, Nat.reduceAdd, str_len] at hI21
      obtain ⟨⟨g23_2, g23_3, g23_8⟩, og23_0, hn⟩ := hI21
      subst hn
      obtain rfl := Option.some.inj h
      try simp only [go_sem, Int.reduceLT, Int.reduceLE, Int.reduceBEq, Int.reduceBNe, Nat.reduceBNe, Nat.reduceAdd, Nat.reduceMul, Nat.reduceEqDiff, Nat.reduceLeDiff, Nat.reduceLT, Nat.reduceBEq, reduceCtorEq, reduceIte, lt_f (r_0.cond.length), lt_f (r_0.thn.length), g23_2, g23_3, g23_8, og23_0]
theorem s_IsAction_ok {a_0 : ActionD} {r : Bool} (h : s_IsAction a_0 = some r) : Sound Try.prog J0 132 [(true, eAction a_0)] [(false, [(false, .bool r)])] := by
  refine fnk Try.func132 (by kernel_rfl) rfl (by kernel_rfl) (by kernel_rfl) ?_
  unfold s_IsAction at h
  have ks0 : strOk ⟨#[]⟩ = true := by decide
  simp only [fnS, f132, argSt, go_sem, Int.reduceLT, Int.reduceLE, Int.reduceBEq, Int.reduceBNe, Nat.reduceBNe, Nat.reduceAdd, Nat.reduceMul, Nat.reduceEqDiff, Nat.reduceLeDiff, Nat.reduceLT, Nat.reduceBEq, reduceCtorEq, reduceIte, ks0]
  refine ite_K h (fun c1 h => ?_) (fun c1 h => ?_)
  · try simp only [go_sem, Int.reduceLT, Int.reduceLE, Int.reduceBEq, Int.reduceBNe, Nat.reduceBNe, Nat.reduceAdd, Nat.reduceMul, Nat.reduceEqDiff, Nat.reduceLeDiff, Nat.reduceLT, Nat.reduceBEq, reduceCtorEq, reduceIte, ks0, c1]
    obtain ⟨v1, e2, h⟩ := bind_K h
    refine call_K (by first | exact s_IsPattern_ok e2 | simpa only [go_sem, Int.reduceLT, Int.reduceLE, Int.reduceBEq, Int.reduceBNe, Nat.reduceBNe, Nat.reduceAdd, Nat.reduceMul, Nat.reduceEqDiff, Nat.reduceLeDiff, Nat.reduceLT, Nat.reduceBEq, reduceCtorEq, reduceIte, ks0, c1] using s_IsPattern_ok e2) ?_
    obtain rfl := Option.some.inj h
    try simp only [go_sem, Int.reduceLT, Int.reduceLE, Int.reduceBEq, Int.reduceBNe, Nat.reduceBNe, Nat.reduceAdd, Nat.reduceMul, Nat.reduceEqDiff, Nat.reduceLeDiff, Nat.reduceLT, Nat.reduceBEq, reduceCtorEq, reduceIte, ks0, c1]
  · try simp only [go_sem, Int.reduceLT, Int.reduceLE, Int.reduceBEq, Int.reduceBNe, Nat.reduceBNe, Nat.reduceAdd, Nat.reduceMul, Nat.reduceEqDiff, Nat.reduceLeDiff, Nat.reduceLT, Nat.reduceBEq, reduceCtorEq, reduceIte, ks0, c1]
    refine ite_K h (fun c3 h => ?_) (fun c3 h => ?_)
    · try simp only [go_sem, Int.reduceLT, Int.reduceLE, Int.reduceBEq, Int.reduceBNe, Nat.reduceBNe, Nat.reduceAdd, Nat.reduceMul, Nat.reduceEqDiff, Nat.reduceLeDiff, Nat.reduceLT, Nat.reduceBEq, reduceCtorEq, reduceIte, ks0, c1, c3]
      obtain ⟨v2, e4, h⟩ := bind_K h
      refine call_K (by first | exact s_IsPattern_ok e4 | simpa only [go_sem, Int.reduceLT, Int.reduceLE, Int.reduceBEq, Int.reduceBNe, Nat.reduceBNe, Nat.reduceAdd, Nat.reduceMul, Nat.reduceEqDiff, Nat.reduceLeDiff, Nat.reduceLT, Nat.reduceBEq, reduceCtorEq, reduceIte, ks0, c1, c3] using s_IsPattern_ok e4) ?_
      obtain rfl := Option.some.inj h
      try simp only [go_sem, Int.reduceLT, Int.reduceLE, Int.reduceBEq, Int.reduceBNe, Nat.reduceBNe, Nat.reduceAdd, Nat.reduceMul, Nat.reduceEqDiff, Nat.reduceLeDiff, Nat.reduceLT, Nat.reduceBEq, reduceCtorEq, reduceIte, ks0, c1, c3]
    · try simp only [go_sem, Int.reduceLT, Int.reduceLE, Int.reduceBEq, Int.reduceBNe, Nat.reduceBNe, Nat.reduceAdd, Nat.reduceMul, Nat.reduceEqDiff, Nat.reduceLeDiff, Nat.reduceLT, Nat.reduceBEq, reduceCtorEq, reduceIte, ks0, c1, c3]
      refine ite_K h (fun c5 h => ?_) (fun c5 h => ?_)
      · try simp only [go_sem, Int.reduceLT, Int.reduceLE, Int.reduceBEq, Int.reduceBNe, Nat.reduceBNe, Nat.reduceAdd, Nat.reduceMul, Nat.reduceEqDiff, Nat.reduceLeDiff, Nat.reduceLT, Nat.reduceBEq, reduceCtorEq, reduceIte, ks0, c1, c3, c5]
        refine ite_K h (fun c6 h => ?_) (fun c6 h => ?_)
        · obtain rfl := Option.some.inj h
          try simp only [go_sem, Int.reduceLT, Int.reduceLE, Int.reduceBEq, Int.reduceBNe, Nat.reduceBNe, Nat.reduceAdd, Nat.reduceMul, Nat.reduceEqDiff, Nat.reduceLeDiff, Nat.reduceLT, Nat.reduceBEq, reduceCtorEq, reduceIte, ks0, c1, c3, c5, c6]
        · obtain rfl := Option.some.inj h
          try simp only [go_sem, Int.reduceLT, Int.reduceLE, Int.reduceBEq, Int.reduceBNe, Nat.reduceBNe, Nat.reduceAdd, Nat.reduceMul, Nat.reduceEqDiff, Nat.reduceLeDiff, Nat.reduceLT, Nat.reduceBEq, reduceCtorEq, reduceIte, ks0, c1, c3, c5, c6]
      · obtain rfl := Option.some.inj h
        try simp only [go_sem, Int.reduceLT, Int.reduceLE, Int.reduceBEq, Int.reduceBNe, Nat.reduceBNe, Nat.reduceAdd, Nat.reduceMul, Nat.reduceEqDiff, Nat.reduceLeDiff, Nat.reduceLT, Nat.reduceBEq, reduceCtorEq, reduceIte, ks0, c1, c3, c5]
end Go.Proofs.Ytccbhhglghboaaa

namespace Go.Proofs.Ytccbhhglghboaaa
open Go.Proofs.Try
set_option linter.unusedSimpArgs false
set_option linter.unusedVariables false
set_option maxRecDepth 1000000
set_option maxHeartbeats 4000000
theorem i_IsCond_ok {x_0 : CondD} {r : Bool} (h : i_IsCond x_0 = some r) : Sound Try.prog J0 138 [(true, eCond x_0)] [(false, [(false, .bool r)])] := by
  refine fnk Try.func138 (by kernel_rfl) rfl (by kernel_rfl) (by kernel_rfl) ?_
  unfold i_IsCond at h
  have ks0 : strOk ⟨#[]⟩ = true := by decide
  simp only [fnS, f138, argSt, go_sem, Int.reduceLT, Int.reduceLE, Int.reduceBEq, Int.reduceBNe, Nat.reduceBNe, Nat.reduceAdd, Nat.reduceMul, Nat.reduceEqDiff, Nat.reduceLeDiff, Nat.reduceLT, Nat.reduceBEq, reduceCtorEq, reduceIte, ks0]
  refine ite_K h (fun c1 h => ?_) (fun c1 h => ?_)
  · try simp only [go_sem, Int.reduceLT, Int.reduceLE, Int.reduceBEq, Int.reduceBNe, Nat.reduceBNe, Nat.reduceAdd, Nat.reduceMul, Nat.reduceEqDiff, Nat.reduceLeDiff, Nat.reduceLT, Nat.reduceBEq, reduceCtorEq, reduceIte, ks0, c1]
    obtain ⟨v1, e2, h⟩ := bind_K h
    refine call_K (by first | exact i_IsPattern_ok e2 | simpa only [go_sem, Int.reduceLT, Int.reduceLE, Int.reduceBEq, Int.reduceBNe, Nat.reduceBNe, Nat.reduceAdd, Nat.reduceMul, Nat.reduceEqDiff, Nat.reduceLeDiff, Nat.reduceLT, Nat.reduceBEq, reduceCtorEq, reduceIte, ks0, c1] using i_IsPattern_ok e2) ?_
    try simp only [go_sem, Int.reduceLT, Int.reduceLE, Int.reduceBEq, Int.reduceBNe, Nat.reduceBNe, Nat.reduceAdd, Nat.reduceMul, Nat.reduceEqDiff, Nat.reduceLeDiff, Nat.reduceLT, Nat.reduceBEq, reduceCtorEq, reduceIte, ks0, c1]
    refine ite_K h (fun c3 h => ?_) (fun c3 h => ?_)
    · try simp only [go_sem, Int.reduceLT, Int.reduceLE, Int.reduceBEq, Int.reduceBNe, Nat.reduceBNe, Nat.reduceAdd, Nat.reduceMul, Nat.reduceEqDiff, Nat.reduceLeDiff, Nat.reduceLT, Nat.reduceBEq, reduceCtorEq, reduceIte, ks0, c1, c3]
      refine ite_K h (fun c4 h => ?_) (fun c4 h => ?_)
      · obtain rfl := Option.some.inj h
        try simp only [go_sem, Int.reduceLT, Int.reduceLE, Int.reduceBEq, Int.reduceBNe, Nat.reduceBNe, Nat.reduceAdd, Nat.reduceMul, Nat.reduceEqDiff, Nat.reduceLeDiff, Nat.reduceLT, Nat.reduceBEq, reduceCtorEq, reduceIte, ks0, c1, c3, c4]
      · obtain rfl := Option.some.inj h
        try simp only [go_sem, Int.reduceLT, Int.reduceLE, Int.reduceBEq, Int.reduceBNe, Nat.reduceBNe, Nat.reduceAdd, Nat.reduceMul, Nat.reduceEqDiff, Nat.reduceLeDiff, Nat.reduceLT, Nat.reduceBEq, reduceCtorEq, reduceIte, ks0, c1, c3, c4]
    · obtain rfl := Option.some.inj h
      try simp only [go_sem, Int.reduceLT, Int.reduceLE, Int.reduceBEq, Int.reduceBNe, Nat.reduceBNe, Nat.reduceAdd, Nat.reduceMul, Nat.reduceEqDiff, Nat.reduceLeDiff, Nat.reduceLT, Nat.reduceBEq, reduceCtorEq, reduceIte, ks0, c1, c3]
  · try simp only [go_sem, Int.reduceLT, Int.reduceLE, Int.reduceBEq, Int.reduceBNe, Nat.reduceBNe, Nat.reduceAdd, Nat.reduceMul, Nat.reduceEqDiff, Nat.reduceLeDiff, Nat.reduceLT, Nat.reduceBEq, reduceCtorEq, reduceIte, ks0, c1]
    refine ite_K h (fun c5 h => ?_) (fun c5 h => ?_)
    · try simp only [go_sem, Int.reduceLT, Int.reduceLE, Int.reduceBEq, Int.reduceBNe, Nat.reduceBNe, Nat.reduceAdd, Nat.reduceMul, Nat.reduceEqDiff, Nat.reduceLeDiff, Nat.reduceLT, Nat.reduceBEq, reduceCtorEq, reduceIte, ks0, c1, c5]
      obtain ⟨v2, e6, h⟩ := bind_K h
      refine call_K (by first | exact i_IsPattern_ok e6 | simpa only [go_sem, Int.reduceLT, Int.reduceLE, Int.reduceBEq, Int.reduceBNe, Nat.reduceBNe, Nat.reduceAdd, Nat.reduceMul, Nat.reduceEqDiff, Nat.reduceLeDiff, Nat.reduceLT, Nat.reduceBEq, reduceCtorEq, reduceIte, ks0, c1, c5] using i_IsPattern_ok e6) ?_
      try simp only [go_sem, Int.reduceLT, Int.reduceLE, Int.reduceBEq, Int.reduceBNe, Nat.reduceBNe, Nat.reduceAdd, Nat.reduceMul, Nat.reduceEqDiff, Nat.reduceLeDiff, Nat.reduceLT, Nat.reduceBEq, reduceCtorEq, reduceIte, ks0, c1, c5]
      refine ite_K h (fun c7 h => ?_) (fun c7 h => ?_)
      · try simp only [go_sem, Int.reduceLT, Int.reduceLE, Int.reduceBEq, Int.reduceBNe, Nat.reduceBNe, Nat.reduceAdd, Nat.reduceMul, Nat.reduceEqDiff, Nat.reduceLeDiff, Nat.reduceLT, Nat.reduceBEq, reduceCtorEq, reduceIte, ks0, c1, c5, c7]
        refine ite_K h (fun c8 h => ?_) (fun c8 h => ?_)
        · obtain rfl := Option.some.inj h
          try simp only [go_sem, Int.reduceLT, Int.reduceLE, Int.reduceBEq, Int.reduceBNe, Nat.reduceBNe, Nat.reduceAdd, Nat.reduceMul, Nat.reduceEqDiff, Nat.reduceLeDiff, Nat.reduceLT, Nat.reduceBEq, reduceCtorEq, reduceIte, ks0, c1, c5, c7, c8]
        · obtain rfl := Option.some.inj h
          try simp only [go_sem, Int.reduceLT, Int.reduceLE, Int.reduceBEq, Int.reduceBNe, Nat.reduceBNe, Nat.reduceAdd, Nat.reduceMul, Nat.reduceEqDiff, Nat.reduceLeDiff, Nat.reduceLT, Nat.reduceBEq, reduceCtorEq, reduceIte, ks0, c1, c5, c7, c8]
      · obtain rfl := Option.some.inj h
        try simp only [go_sem, Int.reduceLT, Int.reduceLE, Int.reduceBEq, Int.reduceBNe, Nat.reduceBNe, Nat.reduceAdd, Nat.reduceMul, Nat.reduceEqDiff, Nat.reduceLeDiff, Nat.reduceLT, Nat.reduceBEq, reduceCtorEq, reduceIte, ks0, c1, c5, c7]
    · try simp only [go_sem, Int.reduceLT, Int.reduceLE, Int.reduceBEq, Int.reduceBNe, Nat.reduceBNe, Nat.reduceAdd, Nat.reduceMul, Nat.reduceEqDiff, Nat.reduceLeDiff, Nat.reduceLT, Nat.reduceBEq, reduceCtorEq, reduceIte, ks0, c1, c5]
      refine ite_K h (fun c9 h => ?_) (fun c9 h => ?_)
      · try simp only [go_sem, Int.reduceLT, Int.reduceLE, Int.reduceBEq, Int.reduceBNe, Nat.reduceBNe, Nat.reduceAdd, Nat.reduceMul, Nat.reduceEqDiff, Nat.reduceLeDiff, Nat.reduceLT, Nat.reduceBEq, reduceCtorEq, reduceIte, ks0, c1, c5, c9]
        obtain ⟨v3, e10, h⟩ := bind_K h
        refine call_K (by first | exact i_IsTerm_ok e10 | simpa only [go_sem, Int.reduceLT, Int.reduceLE, Int.reduceBEq, Int.reduceBNe, Nat.reduceBNe, Nat.reduceAdd, Nat.reduceMul, Nat.reduceEqDiff, Nat.reduceLeDiff, Nat.reduceLT, Nat.reduceBEq, reduceCtorEq, reduceIte, ks0, c1, c5, c9] using i_IsTerm_ok e10) ?_
        try simp only [go_sem, Int.reduceLT, Int.reduceLE, Int.reduceBEq, Int.reduceBNe, Nat.reduceBNe, Nat.reduceAdd, Nat.reduceMul, Nat.reduceEqDiff, Nat.reduceLeDiff, Nat.reduceLT, Nat.reduceBEq, reduceCtorEq, reduceIte, ks0, c1, c5, c9]
        refine ite_K h (fun c11 h => ?_) (fun c11 h => ?_)
        · try simp only [go_sem, Int.reduceLT, Int.reduceLE, Int.reduceBEq, Int.reduceBNe, Nat.reduceBNe, Nat.reduceAdd, Nat.reduceMul, Nat.reduceEqDiff, Nat.reduceLeDiff, Nat.reduceLT, Nat.reduceBEq, reduceCtorEq, reduceIte, ks0, c1, c5, c9, c11]
          obtain ⟨v4, e12, h⟩ := bind_K h
          refine call_K (by first | exact i_IsTerm_ok e12 | simpa only [go_sem, Int.reduceLT, Int.reduceLE, Int.reduceBEq, Int.reduceBNe, Nat.reduceBNe, Nat.reduceAdd, Nat.reduceMul, Nat.reduceEqDiff, Nat.reduceLeDiff, Nat.reduceLT, Nat.reduceBEq, reduceCtorEq, reduceIte, ks0, c1, c5, c9, c11] using i_IsTerm_ok e12) ?_
          try simp only [go_sem, Int.reduceLT, Int.reduceLE, Int.reduceBEq, Int.reduceBNe, Nat.reduceBNe, Nat.reduceAdd, Nat.reduceMul, Nat.reduceEqDiff, Nat.reduceLeDiff, Nat.reduceLT, Nat.reduceBEq, reduceCtorEq, reduceIte, ks0, c1, c5, c9, c11]
          refine ite_K h (fun c13 h => ?_) (fun c13 h => ?_)
          · try simp only [go_sem, Int.reduceLT, Int.reduceLE, Int.reduceBEq, Int.reduceBNe, Nat.reduceBNe, Nat.reduceAdd, Nat.reduceMul, Nat.reduceEqDiff, Nat.reduceLeDiff, Nat.reduceLT, Nat.reduceBEq, reduceCtorEq, reduceIte, ks0, c1, c5, c9, c11, c13]
            obtain ⟨v5, e14, h⟩ := bind_K h
            refine call_K (by first | exact i_zeroPattern_ok e14 | simpa only [go_sem, Int.reduceLT, Int.reduceLE, Int.reduceBEq, Int.reduceBNe, Nat.reduceBNe, Nat.reduceAdd, Nat.reduceMul, Nat.reduceEqDiff, Nat.reduceLeDiff, Nat.reduceLT, Nat.reduceBEq, reduceCtorEq, reduceIte, ks0, c1, c5, c9, c11, c13] using i_zeroPattern_ok e14) ?_
            obtain rfl := Option.some.inj h
            try simp only [go_sem, Int.reduceLT, Int.reduceLE, Int.reduceBEq, Int.reduceBNe, Nat.reduceBNe, Nat.reduceAdd, Nat.reduceMul, Nat.reduceEqDiff, Nat.reduceLeDiff, Nat.reduceLT, Nat.reduceBEq, reduceCtorEq, reduceIte, ks0, c1, c5, c9, c11, c13]
          · obtain rfl := Option.some.inj h
            try simp only [go_sem, Int.reduceLT, Int.reduceLE, Int.reduceBEq, Int.reduceBNe, Nat.reduceBNe, Nat.reduceAdd, Nat.reduceMul, Nat.reduceEqDiff, Nat.reduceLeDiff, Nat.reduceLT, Nat.reduceBEq, reduceCtorEq, reduceIte, ks0, c1, c5, c9, c11, c13]
        · obtain rfl := Option.some.inj h
          try simp only [go_sem, Int.reduceLT, Int.reduceLE, Int.reduceBEq, Int.reduceBNe, Nat.reduceBNe, Nat.reduceAdd, Nat.reduceMul, Nat.reduceEqDiff, Nat.reduceLeDiff, Nat.reduceLT, Nat.reduceBEq, reduceCtorEq, reduceIte, ks0, c1, c5, c9, c11]
      · try simp only [go_sem, Int.reduceLT, Int.reduceLE, Int.reduceBEq, Int.reduceBNe, Nat.reduceBNe, Nat.reduceAdd, Nat.reduceMul, Nat.reduceEqDiff, Nat.reduceLeDiff, Nat.reduceLT, Nat.reduceBEq, reduceCtorEq, reduceIte, ks0, c1, c5, c9]
        refine ite_K h (fun c15 h => ?_) (fun c15 h => ?_)
        · try simp only [go_sem, Int.reduceLT, Int.reduceLE, Int.reduceBEq, Int.reduceBNe, Nat.reduceBNe, Nat.reduceAdd, Nat.reduceMul, Nat.reduceEqDiff, Nat.reduceLeDiff, Nat.reduceLT, Nat.reduceBEq, reduceCtorEq, reduceIte, ks0, c1, c5, c9, c15]
          obtain ⟨v6, e16, h⟩ := bind_K h
          refine call_K (by first | exact i_IsTerm_ok e16 | simpa only [go_sem, Int.reduceLT, Int.reduceLE, Int.reduceBEq, Int.reduceBNe, Nat.reduceBNe, Nat.reduceAdd, Nat.reduceMul, Nat.reduceEqDiff, Nat.reduceLeDiff, Nat.reduceLT, Nat.reduceBEq, reduceCtorEq, reduceIte, ks0, c1, c5, c9, c15] using i_IsTerm_ok e16) ?_
          try simp only [go_sem, Int.reduceLT, Int.reduceLE, Int.reduceBEq, Int.reduceBNe, Nat.reduceBNe, Nat.reduceAdd, Nat.reduceMul, Nat.reduceEqDiff, Nat.reduceLeDiff, Nat.reduceLT, Nat.reduceBEq, reduceCtorEq, reduceIte, ks0, c1, c5, c9, c15]
          refine ite_K h (fun c17 h => ?_) (fun c17 h => ?_)
          · try simp only [go_sem, Int.reduceLT, Int.reduceLE, Int.reduceBEq, Int.reduceBNe, Nat.reduceBNe, Nat.reduceAdd, Nat.reduceMul, Nat.reduceEqDiff, Nat.reduceLeDiff, Nat.reduceLT, Nat.reduceBEq, reduceCtorEq, reduceIte, ks0, c1, c5, c9, c15, c17]
            obtain ⟨v7, e18, h⟩ := bind_K h
            refine call_K (by first | exact i_IsTerm_ok e18 | simpa only [go_sem, Int.reduceLT, Int.reduceLE, Int.reduceBEq, Int.reduceBNe, Nat.reduceBNe, Nat.reduceAdd, Nat.reduceMul, Nat.reduceEqDiff, Nat.reduceLeDiff, Nat.reduceLT, Nat.reduceBEq, reduceCtorEq, reduceIte, ks0, c1, c5, c9, c15, c17] using i_IsTerm_ok e18) ?_
            try simp only [go_sem, Int.reduceLT, Int.reduceLE, Int.reduceBEq, Int.reduceBNe, Nat.reduceBNe, Nat.reduceAdd, Nat.reduceMul, Nat.reduceEqDiff, Nat.reduceLeDiff, Nat.reduceLT, Nat.reduceBEq, reduceCtorEq, reduceIte, ks0, c1, c5, c9, c15, c17]
            refine ite_K h (fun c19 h => ?_) (fun c19 h => ?_)
            · try simp only [go_sem, Int.reduceLT, Int.reduceLE, Int.reduceBEq, Int.reduceBNe, Nat.reduceBNe, Nat.reduceAdd, Nat.reduceMul, Nat.reduceEqDiff, Nat.reduceLeDiff, Nat.reduceLT, Nat.reduceBEq, reduceCtorEq, reduceIte, ks0, c1, c5, c9, c15, c17, c19]
              obtain ⟨v8, e20, h⟩ := bind_K h
              refine call_K (by first | exact i_zeroPattern_ok e20 | simpa only [go_sem, Int.reduceLT, Int.reduceLE, Int.reduceBEq, Int.reduceBNe, Nat.reduceBNe, Nat.reduceAdd, Nat.reduceMul, Nat.reduceEqDiff, Nat.reduceLeDiff, Nat.reduceLT, Nat.reduceBEq, reduceCtorEq, reduceIte, ks0, c1, c5, c9, c15, c17, c19] using i_zeroPattern_ok e20) ?_
              obtain rfl := Option.some.inj h
              try simp only [go_sem, Int.reduceLT, Int.reduceLE, Int.reduceBEq, Int.reduceBNe, Nat.reduceBNe, Nat.reduceAdd, Nat.reduceMul, Nat.reduceEqDiff, Nat.reduceLeDiff, Nat.reduceLT, Nat.reduceBEq, reduceCtorEq, reduceIte, ks0, c1, c5, c9, c15, c17, c19]
            · obtain rfl := Option.some.inj h
              try simp only [go_sem, Int.reduceLT, Int.reduceLE, Int.reduceBEq, Int.reduceBNe, Nat.reduceBNe, Nat.reduceAdd, Nat.reduceMul, Nat.reduceEqDiff, Nat.reduceLeDiff, Nat.reduceLT, Nat.reduceBEq, reduceCtorEq, reduceIte, ks0, c1, c5, c9, c15, c17, c19]
          · obtain rfl := Option.some.inj h
            try simp only [go_sem, Int.reduceLT, Int.reduceLE, Int.reduceBEq, Int.reduceBNe, Nat.reduceBNe, Nat.reduceAdd, Nat.reduceMul, Nat.reduceEqDiff, Nat.reduceLeDiff, Nat.reduceLT, Nat.reduceBEq, reduceCtorEq, reduceIte, ks0, c1, c5, c9, c15, c17]
        · try simp only [go_sem, Int.reduceLT, Int.reduceLE, Int.reduceBEq, Int.reduceBNe, Nat.reduceBNe, Nat.reduceAdd, Nat.reduceMul, Nat.reduceEqDiff, Nat.reduceLeDiff, Nat.reduceLT, Nat.reduceBEq, reduceCtorEq, reduceIte, ks0, c1, c5, c9, c15]
          refine ite_K h (fun c21 h => ?_) (fun c21 h => ?_)
          · try simp only [go_sem, Int.reduceLT, Int.reduceLE, Int.reduceBEq, Int.reduceBNe, Nat.reduceBNe, Nat.reduceAdd, Nat.reduceMul, Nat.reduceEqDiff, Nat.reduceLeDiff, Nat.reduceLT, Nat.reduceBEq, reduceCtorEq, reduceIte, ks0, c1, c5, c9, c15, c21]
            obtain ⟨v9, e22, h⟩ := bind_K h
            refine call_K (by first | exact i_IsTerm_ok e22 | simpa only [go_sem, Int.reduceLT, Int.reduceLE, Int.reduceBEq, Int.reduceBNe, Nat.reduceBNe, Nat.reduceAdd, Nat.reduceMul, Nat.reduceEqDiff, Nat.reduceLeDiff, Nat.reduceLT, Nat.reduceBEq, reduceCtorEq, reduceIte, ks0, c1, c5, c9, c15, c21] using i_IsTerm_ok e22) ?_
            try simp only [go_sem, Int.reduceLT, Int.reduceLE, Int.reduceBEq, Int.reduceBNe, Nat.reduceBNe, Nat.reduceAdd, Nat.reduceMul, Nat.reduceEqDiff, Nat.reduceLeDiff, Nat.reduceLT, Nat.reduceBEq, reduceCtorEq, reduceIte, ks0, c1, c5, c9, c15, c21]
            refine ite_K h (fun c23 h => ?_) (fun c23 h => ?_)
            · try simp only [go_sem, Int.reduceLT, Int.reduceLE, Int.reduceBEq, Int.reduceBNe, Nat.reduceBNe, Nat.reduceAdd, Nat.reduceMul, Nat.reduceEqDiff, Nat.reduceLeDiff, Nat.reduceLT, Nat.reduceBEq, reduceCtorEq, reduceIte, ks0, c1, c5, c9, c15, c21, c23]
              obtain ⟨v10, e24, h⟩ := bind_K h
              refine call_K (by first | exact i_IsTerm_ok e24 | simpa only [go_sem, Int.reduceLT, Int.reduceLE, Int.reduceBEq, Int.reduceBNe, Nat.reduceBNe, Nat.reduceAdd, Nat.reduceMul, Nat.reduceEqDiff, Nat.reduceLeDiff, Nat.reduceLT, Nat.reduceBEq, reduceCtorEq, reduceIte, ks0, c1, c5, c9, c15, c21, c23] using i_IsTerm_ok e24) ?_
              try simp only [go_sem, Int.reduceLT, Int.reduceLE, Int.reduceBEq, Int.reduceBNe, Nat.reduceBNe, Nat.reduceAdd, Nat.reduceMul, Nat.reduceEqDiff, Nat.reduceLeDiff, Nat.reduceLT, Nat.reduceBEq, reduceCtorEq, reduceIte, ks0, c1, c5, c9, c15, c21, c23]
              refine ite_K h (fun c25 h => ?_) (fun c25 h => ?_)
              · try simp only [go_sem, Int.reduceLT, Int.reduceLE, Int.reduceBEq, Int.reduceBNe, Nat.reduceBNe, Nat.reduceAdd, Nat.reduceMul, Nat.reduceEqDiff, Nat.reduceLeDiff, Nat.reduceLT, Nat.reduceBEq, reduceCtorEq, reduceIte, ks0, c1, c5, c9, c15, c21, c23, c25]
                obtain ⟨v11, e26, h⟩ := bind_K h
                refine call_K (by first | exact i_zeroPattern_ok e26 | simpa only [go_sem, Int.reduceLT, Int.reduceLE, Int.reduceBEq, Int.reduceBNe, Nat.reduceBNe, Nat.reduceAdd, Nat.reduceMul, Nat.reduceEqDiff, Nat.reduceLeDiff, Nat.reduceLT, Nat.reduceBEq, reduceCtorEq, reduceIte, ks0, c1, c5, c9, c15, c21, c23, c25] using i_zeroPattern_ok e26) ?_
                obtain rfl := Option.some.inj h
                try simp only [go_sem, Int.reduceLT, Int.reduceLE, Int.reduceBEq, Int.reduceBNe, Nat.reduceBNe, Nat.reduceAdd, Nat.reduceMul, Nat.reduceEqDiff, Nat.reduceLeDiff, Nat.reduceLT, Nat.reduceBEq, reduceCtorEq, reduceIte, ks0, c1, c5, c9, c15, c21, c23, c25]
              · obtain rfl := Option.some.inj h
                try simp only [go_sem, Int.reduceLT, Int.reduceLE, Int.reduceBEq, Int.reduceBNe, Nat.reduceBNe, Nat.reduceAdd, Nat.reduceMul, Nat.reduceEqDiff, Nat.reduceLeDiff, Nat.reduceLT, Nat.reduceBEq, reduceCtorEq, reduceIte, ks0, c1, c5, c9, c15, c21, c23, c25]
            · obtain rfl := Option.some.inj h
              try simp only [go_sem, Int.reduceLT, Int.reduceLE, Int.reduceBEq, Int.reduceBNe, Nat.reduceBNe, Nat.reduceAdd, Nat.reduceMul, Nat.reduceEqDiff, Nat.reduceLeDiff, Nat.reduceLT, Nat.reduceBEq, reduceCtorEq, reduceIte, ks0, c1, c5, c9, c15, c21, c23]
          · obtain rfl := Option.some.inj h
            try simp only [go_sem, Int.reduceLT, Int.reduceLE, Int.reduceBEq, Int.reduceBNe, Nat.reduceBNe, Nat.reduceAdd, Nat.reduceMul, Nat.reduceEqDiff, Nat.reduceLeDiff, Nat.reduceLT, Nat.reduceBEq, reduceCtorEq, reduceIte, ks0, c1, c5, c9, c15, c21]
theorem i_occursElsewhere_ok {r_0 : RuleD} {k_1 : Int} {v_2 : ByteArray} {r : Bool} (h : i_occursElsewhere r_0 k_1 v_2 = some r) : Sound Try.prog J0 175 [(true, eRule r_0), (false, [.int .i64 k_1]), (false, [.str v_2])] [(false, [(false, .bool r)])] := by
  refine fnk Try.func175 (by kernel_rfl) rfl (by kernel_rfl) (by kernel_rfl) ?_
  unfold i_occursElsewhere at h
  simp only [fnS, f175, argSt, go_sem, Int.reduceLT, Int.reduceLE, Int.reduceBEq, Int.reduceBNe, Nat.reduceBNe, Nat.reduceAdd, Nat.reduceMul, Nat.reduceEqDiff, Nat.reduceLeDiff, Nat.reduceLT, Nat.reduceBEq, reduceCtorEq, reduceIte]
  refine swp_for h (fun i _ st => IV [(1, .p false [.c (.int .i64 k_1)]), (2, .p false [.c (.str v_2)]), (3, .bp 0 0), (12, .p false [.c (.sl 120 5 (List.map eCond r_0.cond))]), (13, .p false [.c (.int .i64 ((r_0.cond.length : Nat) : Int))]), (14, .p false [.c (.int .i64 ((i : Nat) : Int))])] [.box 75 [.c (.str r_0.name), .c (.int .i64 r_0.priority), .c (.sl 120 5 (List.map eCond r_0.cond)), .c (.sl 128 3 (List.map eAction r_0.thn))]] st) [] [0] (by decide) ?_ ?_ ?_
  · simp only [go_sem, Int.reduceLT, Int.reduceLE, Int.reduceBEq, Int.reduceBNe, Nat.reduceBNe, Nat.reduceAdd, Nat.reduceMul, Nat.reduceEqDiff, Nat.reduceLeDiff, Nat.reduceLT, Nat.reduceBEq, reduceCtorEq, reduceIte, IV, sts_cons, sts_nil, obs_cons, obs_nil]
  · rintro i16 x17 ⟨⟩ ⟨sl, ob, n⟩ y1 hx2 hI3 hW4 h hy1
    simp only [IV, sts_cons, sts_nil, obs_cons, obs_nil, and_true, true_and, Nat.reduceAdd, str_len] at hI3
    obtain ⟨⟨g5_1, g5_2, g5_3, g5_12, g5_13, g5_14⟩, og5_0, hn⟩ := hI3
    subst hn
    have hlhx2 := WF.slotL hW4 g5_12 (j := 0) rfl
    try simp only [go_sem, Int.reduceLT, Int.reduceLE, Int.reduceBEq, Int.reduceBNe, Nat.reduceBNe, Nat.reduceAdd, Nat.reduceMul, Nat.reduceEqDiff, Nat.reduceLeDiff, Nat.reduceLT, Nat.reduceBEq, reduceCtorEq, reduceIte, hx2, lt_t hx2, lt_p hx2, nat_in (lt_n hx2) hlhx2, g5_1, g5_2, g5_3, g5_12, g5_13, g5_14, og5_0]
    refine ite_K h (fun c6 h => ?_) (fun c6 h => ?_)
    · try simp only [go_sem, Int.reduceLT, Int.reduceLE, Int.reduceBEq, Int.reduceBNe, Nat.reduceBNe, Nat.reduceAdd, Nat.reduceMul, Nat.reduceEqDiff, Nat.reduceLeDiff, Nat.reduceLT, Nat.reduceBEq, reduceCtorEq, reduceIte, hx2, lt_t hx2, lt_p hx2, nat_in (lt_n hx2) hlhx2, c6, g5_1, g5_2, g5_3, g5_12, g5_13, g5_14, og5_0]
      obtain ⟨v18, e7, h⟩ := bind_K h
      refine call_K (by first | exact i_CondVars_ok e7 | simpa only [go_sem, Int.reduceLT, Int.reduceLE, Int.reduceBEq, Int.reduceBNe, Nat.reduceBNe, Nat.reduceAdd, Nat.reduceMul, Nat.reduceEqDiff, Nat.reduceLeDiff, Nat.reduceLT, Nat.reduceBEq, reduceCtorEq, reduceIte, hx2, lt_t hx2, lt_p hx2, nat_in (lt_n hx2) hlhx2, c6, g5_1, g5_2, g5_3, g5_12, g5_13, g5_14, og5_0] using i_CondVars_ok e7) ?_
      try simp only [go_sem, Int.reduceLT, Int.reduceLE, Int.reduceBEq, Int.reduceBNe, Nat.reduceBNe, Nat.reduceAdd, Nat.reduceMul, Nat.reduceEqDiff, Nat.reduceLeDiff, Nat.reduceLT, Nat.reduceBEq, reduceCtorEq, reduceIte, hx2, lt_t hx2, lt_p hx2, nat_in (lt_n hx2) hlhx2, c6, g5_1, g5_2, g5_3, g5_12, g5_13, g5_14, og5_0]
      obtain ⟨v19, e8, h⟩ := bind_K h
      refine call_K (by first | exact i_hasText_ok e8 | simpa only [go_sem, Int.reduceLT, Int.reduceLE, Int.reduceBEq, Int.reduceBNe, Nat.reduceBNe, Nat.reduceAdd, Nat.reduceMul, Nat.reduceEqDiff, Nat.reduceLeDiff, Nat.reduceLT, Nat.reduceBEq, reduceCtorEq, reduceIte, hx2, lt_t hx2, lt_p hx2, nat_in (lt_n hx2) hlhx2, c6, g5_1, g5_2, g5_3, g5_12, g5_13, g5_14, og5_0] using i_hasText_ok e8) ?_
      try simp only [go_sem, Int.reduceLT, Int.reduceLE, Int.reduceBEq, Int.reduceBNe, Nat.reduceBNe, Nat.reduceAdd, Nat.reduceMul, Nat.reduceEqDiff, Nat.reduceLeDiff, Nat.reduceLT, Nat.reduceBEq, reduceCtorEq, reduceIte, hx2, lt_t hx2, lt_p hx2, nat_in (lt_n hx2) hlhx2, c6, g5_1, g5_2, g5_3, g5_12, g5_13, g5_14, og5_0]
      refine ite_K h (fun c9 h => ?_) (fun c9 h => ?_)
      · replace h := inr_K h hy1
        obtain rfl := Option.some.inj h
        try simp only [go_sem, Int.reduceLT, Int.reduceLE, Int.reduceBEq, Int.reduceBNe, Nat.reduceBNe, Nat.reduceAdd, Nat.reduceMul, Nat.reduceEqDiff, Nat.reduceLeDiff, Nat.reduceLT, Nat.reduceBEq, reduceCtorEq, reduceIte, hx2, lt_t hx2, lt_p hx2, nat_in (lt_n hx2) hlhx2, c6, c9, g5_1, g5_2, g5_3, g5_12, g5_13, g5_14, og5_0]
      · try simp only [go_sem, Int.reduceLT, Int.reduceLE, Int.reduceBEq, Int.reduceBNe, Nat.reduceBNe, Nat.reduceAdd, Nat.reduceMul, Nat.reduceEqDiff, Nat.reduceLeDiff, Nat.reduceLT, Nat.reduceBEq, reduceCtorEq, reduceIte, hx2, lt_t hx2, lt_p hx2, nat_in (lt_n hx2) hlhx2, c6, c9, g5_1, g5_2, g5_3, g5_12, g5_13, g5_14, og5_0]
        refine ⟨_, [], [0], (Option.some.inj h).symm, by decide, ?_⟩
        try simp only [go_sem, Int.reduceLT, Int.reduceLE, Int.reduceBEq, Int.reduceBNe, Nat.reduceBNe, Nat.reduceAdd, Nat.reduceMul, Nat.reduceEqDiff, Nat.reduceLeDiff, Nat.reduceLT, Nat.reduceBEq, reduceCtorEq, reduceIte, hx2, lt_t hx2, lt_p hx2, nat_in (lt_n hx2) hlhx2, c6, c9, g5_1, g5_2, g5_3, g5_12, g5_13, g5_14, og5_0, IV, sts_cons, sts_nil, obs_cons, obs_nil]
    · try simp only [go_sem, Int.reduceLT, Int.reduceLE, Int.reduceBEq, Int.reduceBNe, Nat.reduceBNe, Nat.reduceAdd, Nat.reduceMul, Nat.reduceEqDiff, Nat.reduceLeDiff, Nat.reduceLT, Nat.reduceBEq, reduceCtorEq, reduceIte, hx2, lt_t hx2, lt_p hx2, nat_in (lt_n hx2) hlhx2, c6, g5_1, g5_2, g5_3, g5_12, g5_13, g5_14, og5_0]
      refine ⟨_, [], [0], (Option.some.inj h).symm, by decide, ?_⟩
      try simp only [go_sem, Int.reduceLT, Int.reduceLE, Int.reduceBEq, Int.reduceBNe, Nat.reduceBNe, Nat.reduceAdd, Nat.reduceMul, Nat.reduceEqDiff, Nat.reduceLeDiff, Nat.reduceLT, Nat.reduceBEq, reduceCtorEq, reduceIte, hx2, lt_t hx2, lt_p hx2, nat_in (lt_n hx2) hlhx2, c6, g5_1, g5_2, g5_3, g5_12, g5_13, g5_14, og5_0, IV, sts_cons, sts_nil, obs_cons, obs_nil]
  · rintro ⟨⟩ ⟨sl, ob, n⟩ hI10 hW11 h
    simp only [IV, sts_cons, sts_nil, obs_cons, obs_nil, and_true, true_and, Nat.reduceAdd, str_len] at hI10
    obtain ⟨⟨g12_1, g12_2, g12_3, g12_12, g12_13, g12_14⟩, og12_0, hn⟩ := hI10
    subst hn
    try simp only [go_sem, Int.reduceLT, Int.reduceLE, Int.reduceBEq, Int.reduceBNe, Nat.reduceBNe, Nat.reduceAdd, Nat.reduceMul, Nat.reduceEqDiff, Nat.reduceLeDiff, Nat.reduceLT, Nat.reduceBEq, reduceCtorEq, reduceIte, lt_f (r_0.cond.length), g12_1, g12_2, g12_3, g12_12, g12_13, g12_14, og12_0]
    refine swp_for h (fun i _ st => IV [(2, .p false [.c (.str v_2)]), (30, .p false [.c (.sl 128 3 (List.map eAction r_0.thn))]), (31, .p false [.c (.int .i64 ((r_0.thn.length : Nat) : Int))]), (32, .p false [.c (.int .i64 ((i : Nat) : Int))])] [] st) [] [] (by decide) ?_ ?_ ?_
    · simp only [go_sem, Int.reduceLT, Int.reduceLE, Int.reduceBEq, Int.reduceBNe, Nat.reduceBNe, Nat.reduceAdd, Nat.reduceMul, Nat.reduceEqDiff, Nat.reduceLeDiff, Nat.reduceLT, Nat.reduceBEq, reduceCtorEq, reduceIte, IV, sts_cons, sts_nil, obs_cons, obs_nil, lt_f (r_0.cond.length), g12_1, g12_2, g12_3, g12_12, g12_13, g12_14, og12_0]
    · rintro i25 x26 ⟨⟩ ⟨sl, ob, n⟩ y13 hx14 hI15 hW16 h hy13
      simp only [IV, sts_cons, sts_nil, obs_cons, obs_nil, and_true, true_and, Nat.reduceAdd, str_len] at hI15
      obtain ⟨⟨g17_2, g17_30, g17_31, g17_32⟩, hn⟩ := hI15
      subst hn
      have hlhx14 := WF.slotL hW16 g17_30 (j := 0) rfl
      try simp only [go_sem, Int.reduceLT, Int.reduceLE, Int.reduceBEq, Int.reduceBNe, Nat.reduceBNe, Nat.reduceAdd, Nat.reduceMul, Nat.reduceEqDiff, Nat.reduceLeDiff, Nat.reduceLT, Nat.reduceBEq, reduceCtorEq, reduceIte, lt_f (r_0.cond.length), hx14, lt_t hx14, lt_p hx14, nat_in (lt_n hx14) hlhx14, g17_2, g17_30, g17_31, g17_32]
      obtain ⟨v27, e18, h⟩ := bind_K h
      refine call_K (by first | exact i_hasText_ok e18 | simpa only [go_sem, Int.reduceLT, Int.reduceLE, Int.reduceBEq, Int.reduceBNe, Nat.reduceBNe, Nat.reduceAdd, Nat.reduceMul, Nat.reduceEqDiff, Nat.reduceLeDiff, Nat.reduceLT, Nat.reduceBEq, reduceCtorEq, reduceIte, lt_f (r_0.cond.length), hx14, lt_t hx14, lt_p hx14, nat_in (lt_n hx14) hlhx14, g17_2, g17_30, g17_31, g17_32] using i_hasText_ok e18) ?_
      try simp only [go_sem, Int.reduceLT, Int.reduceLE, Int.reduceBEq, Int.reduceBNe, Nat.reduceBNe, Nat.reduceAdd, Nat.reduceMul, Nat.reduceEqDiff, Nat.reduceLeDiff, Nat.reduceLT, Nat.reduceBEq, reduceCtorEq, reduceIte, lt_f (r_0.cond.length), hx14, lt_t hx14, lt_p hx14, nat_in (lt_n hx14) hlhx14, g17_2, g17_30, g17_31, g17_32]
      refine ite_K h (fun c19 h => ?_) (fun c19 h => ?_)
      · replace h := inr_K h hy13
        obtain rfl := Option.some.inj h
        try simp only [go_sem, Int.reduceLT, Int.reduceLE, Int.reduceBEq, Int.reduceBNe, Nat.reduceBNe, Nat.reduceAdd, Nat.reduceMul, Nat.reduceEqDiff, Nat.reduceLeDiff, Nat.reduceLT, Nat.reduceBEq, reduceCtorEq, reduceIte, lt_f (r_0.cond.length), hx14, lt_t hx14, lt_p hx14, nat_in (lt_n hx14) hlhx14, c19, g17_2, g17_30, g17_31, g17_32]
      · try simp only [go_sem, Int.reduceLT, Int.reduceLE, Int.reduceBEq, Int.reduceBNe, Nat.reduceBNe, Nat.reduceAdd, Nat.reduceMul, Nat.reduceEqDiff, Nat.reduceLeDiff, Nat.reduceLT, Nat.reduceBEq, reduceCtorEq, reduceIte, lt_f (r_0.cond.length), hx14, lt_t hx14, lt_p hx14, nat_in (lt_n hx14) hlhx14, c19, g17_2, g17_30, g17_31, g17_32]
        refine ⟨_, [], [], (Option.some.inj h).symm, by decide, ?_⟩
        try simp only [go_sem, Int.reduceLT, Int.reduceLE, Int.reduceBEq, Int.reduceBNe, Nat.reduceBNe, Nat.reduceAdd, Nat.reduceMul, Nat.reduceEqDiff, Nat.reduceLeDiff, Nat.reduceLT, Nat.reduceBEq, reduceCtorEq, reduceIte, lt_f (r_0.cond.length), hx14, lt_t hx14, lt_p hx14, nat_in (lt_n hx14) hlhx14, c19, g17_2, g17_30, g17_31, g17_32, IV, sts_cons, sts_nil, obs_cons, obs_nil]
    · rintro ⟨⟩ ⟨sl, ob, n⟩ hI20 hW21 h
      simp only [IV, sts_cons, sts_nil, obs_cons, obs_nil, and_true, true_and, Nat.reduceAdd, str_len] at hI20
      obtain ⟨⟨g22_2, g22_30, g22_31, g22_32⟩, hn⟩ := hI20
      subst hn
      obtain rfl := Option.some.inj h
      try simp only [go_sem, Int.reduceLT, Int.reduceLE, Int.reduceBEq, Int.reduceBNe, Nat.reduceBNe, Nat.reduceAdd, Nat.reduceMul, Nat.reduceEqDiff, Nat.reduceLeDiff, Nat.reduceLT, Nat.reduceBEq, reduceCtorEq, reduceIte, lt_f (r_0.cond.length), lt_f (r_0.thn.length), g22_2, g22_30, g22_31, g22_32]
theorem i_IsAction_ok {a_0 : ActionD} {r : Bool} (h : i_IsAction a_0 = some r) : Sound Try.prog J0 140 [(true, eAction a_0)] [(false, [(false, .bool r)])] := by
  refine fnk Try.func140 (by kernel_rfl) rfl (by kernel_rfl) (by kernel_rfl) ?_
  unfold i_IsAction at h
  simp only [fnS, f140, argSt, go_sem, Int.reduceLT, Int.reduceLE, Int.reduceBEq, Int.reduceBNe, Nat.reduceBNe, Nat.reduceAdd, Nat.reduceMul, Nat.reduceEqDiff, Nat.reduceLeDiff, Nat.reduceLT, Nat.reduceBEq, reduceCtorEq, reduceIte]
  refine ite_K h (fun c1 h => ?_) (fun c1 h => ?_)
  · try simp only [go_sem, Int.reduceLT, Int.reduceLE, Int.reduceBEq, Int.reduceBNe, Nat.reduceBNe, Nat.reduceAdd, Nat.reduceMul, Nat.reduceEqDiff, Nat.reduceLeDiff, Nat.reduceLT, Nat.reduceBEq, reduceCtorEq, reduceIte, c1]
    obtain ⟨v1, e2, h⟩ := bind_K h
    refine call_K (by first | exact i_IsPattern_ok e2 | simpa only [go_sem, Int.reduceLT, Int.reduceLE, Int.reduceBEq, Int.reduceBNe, Nat.reduceBNe, Nat.reduceAdd, Nat.reduceMul, Nat.reduceEqDiff, Nat.reduceLeDiff, Nat.reduceLT, Nat.reduceBEq, reduceCtorEq, reduceIte, c1] using i_IsPattern_ok e2) ?_
    obtain rfl := Option.some.inj h
    try simp only [go_sem, Int.reduceLT, Int.reduceLE, Int.reduceBEq, Int.reduceBNe, Nat.reduceBNe, Nat.reduceAdd, Nat.reduceMul, Nat.reduceEqDiff, Nat.reduceLeDiff, Nat.reduceLT, Nat.reduceBEq, reduceCtorEq, reduceIte, c1]
  · try simp only [go_sem, Int.reduceLT, Int.reduceLE, Int.reduceBEq, Int.reduceBNe, Nat.reduceBNe, Nat.reduceAdd, Nat.reduceMul, Nat.reduceEqDiff, Nat.reduceLeDiff, Nat.reduceLT, Nat.reduceBEq, reduceCtorEq, reduceIte, c1]
    refine ite_K h (fun c3 h => ?_) (fun c3 h => ?_)
    · try simp only [go_sem, Int.reduceLT, Int.reduceLE, Int.reduceBEq, Int.reduceBNe, Nat.reduceBNe, Nat.reduceAdd, Nat.reduceMul, Nat.reduceEqDiff, Nat.reduceLeDiff, Nat.reduceLT, Nat.reduceBEq, reduceCtorEq, reduceIte, c1, c3]
      obtain ⟨v2, e4, h⟩ := bind_K h
      refine call_K (by first | exact i_IsPattern_ok e4 | simpa only [go_sem, Int.reduceLT, Int.reduceLE, Int.reduceBEq, Int.reduceBNe, Nat.reduceBNe, Nat.reduceAdd, Nat.reduceMul, Nat.reduceEqDiff, Nat.reduceLeDiff, Nat.reduceLT, Nat.reduceBEq, reduceCtorEq, reduceIte, c1, c3] using i_IsPattern_ok e4) ?_
      obtain rfl := Option.some.inj h
      try simp only [go_sem, Int.reduceLT, Int.reduceLE, Int.reduceBEq, Int.reduceBNe, Nat.reduceBNe, Nat.reduceAdd, Nat.reduceMul, Nat.reduceEqDiff, Nat.reduceLeDiff, Nat.reduceLT, Nat.reduceBEq, reduceCtorEq, reduceIte, c1, c3]
    · try simp only [go_sem, Int.reduceLT, Int.reduceLE, Int.reduceBEq, Int.reduceBNe, Nat.reduceBNe, Nat.reduceAdd, Nat.reduceMul, Nat.reduceEqDiff, Nat.reduceLeDiff, Nat.reduceLT, Nat.reduceBEq, reduceCtorEq, reduceIte, c1, c3]
      refine ite_K h (fun c5 h => ?_) (fun c5 h => ?_)
      · try simp only [go_sem, Int.reduceLT, Int.reduceLE, Int.reduceBEq, Int.reduceBNe, Nat.reduceBNe, Nat.reduceAdd, Nat.reduceMul, Nat.reduceEqDiff, Nat.reduceLeDiff, Nat.reduceLT, Nat.reduceBEq, reduceCtorEq, reduceIte, c1, c3, c5]
        obtain ⟨v3, e6, h⟩ := bind_K h
        refine call_K (by first | exact i_zeroPattern_ok e6 | simpa only [go_sem, Int.reduceLT, Int.reduceLE, Int.reduceBEq, Int.reduceBNe, Nat.reduceBNe, Nat.reduceAdd, Nat.reduceMul, Nat.reduceEqDiff, Nat.reduceLeDiff, Nat.reduceLT, Nat.reduceBEq, reduceCtorEq, reduceIte, c1, c3, c5] using i_zeroPattern_ok e6) ?_
        obtain rfl := Option.some.inj h
        try simp only [go_sem, Int.reduceLT, Int.reduceLE, Int.reduceBEq, Int.reduceBNe, Nat.reduceBNe, Nat.reduceAdd, Nat.reduceMul, Nat.reduceEqDiff, Nat.reduceLeDiff, Nat.reduceLT, Nat.reduceBEq, reduceCtorEq, reduceIte, c1, c3, c5]
      · obtain rfl := Option.some.inj h
        try simp only [go_sem, Int.reduceLT, Int.reduceLE, Int.reduceBEq, Int.reduceBNe, Nat.reduceBNe, Nat.reduceAdd, Nat.reduceMul, Nat.reduceEqDiff, Nat.reduceLeDiff, Nat.reduceLT, Nat.reduceBEq, reduceCtorEq, reduceIte, c1, c3, c5]
theorem i_condVarsOf_ok {l_0 : (List CondD)} {r : (List ByteArray)} (h : i_condVarsOf l_0 = some r) : Sound Try.prog J0 142 [(false, [.sl 120 5 (List.map eCond l_0)])] [(false, [(false, .sl 9 1 (List.map eStr r))])] := by
  refine fnk Try.func142 (by kernel_rfl) rfl (by kernel_rfl) (by kernel_rfl) ?_
  unfold i_condVarsOf at h
  simp only [fnS, f142, argSt, go_sem, Int.reduceLT, Int.reduceLE, Int.reduceBEq, Int.reduceBNe, Nat.reduceBNe, Nat.reduceAdd, Nat.reduceMul, Nat.reduceEqDiff, Nat.reduceLeDiff, Nat.reduceLT, Nat.reduceBEq, reduceCtorEq, reduceIte]
  refine swp_for h (fun i row_5 st => IV [(3, .p false [.row 0]), (6, .p false [.c (.sl 120 5 (List.map eCond l_0))]), (7, .p false [.c (.int .i64 ((l_0.length : Nat) : Int))]), (8, .p false [.c (.int .i64 ((i : Nat) : Int))])] [.row 9 1 (List.map eStr row_5) 2] st) [(false, 3, 0)] [80] (by decide) ?_ ?_ ?_
  · simp only [go_sem, Int.reduceLT, Int.reduceLE, Int.reduceBEq, Int.reduceBNe, Nat.reduceBNe, Nat.reduceAdd, Nat.reduceMul, Nat.reduceEqDiff, Nat.reduceLeDiff, Nat.reduceLT, Nat.reduceBEq, reduceCtorEq, reduceIte, IV, sts_cons, sts_nil, obs_cons, obs_nil]
  · rintro i9 x10 row_5 ⟨sl, ob, n⟩ y1 hx2 hI3 hW4 h hy1
    simp only [IV, sts_cons, sts_nil, obs_cons, obs_nil, and_true, true_and, Nat.reduceAdd, str_len] at hI3
    obtain ⟨⟨g5_3, g5_6, g5_7, g5_8⟩, og5_0, hn⟩ := hI3
    subst hn
    have hlhx2 := WF.slotL hW4 g5_6 (j := 0) rfl
    try simp only [go_sem, Int.reduceLT, Int.reduceLE, Int.reduceBEq, Int.reduceBNe, Nat.reduceBNe, Nat.reduceAdd, Nat.reduceMul, Nat.reduceEqDiff, Nat.reduceLeDiff, Nat.reduceLT, Nat.reduceBEq, reduceCtorEq, reduceIte, hx2, lt_t hx2, lt_p hx2, nat_in (lt_n hx2) hlhx2, g5_3, g5_6, g5_7, g5_8, og5_0]
    obtain ⟨v11, e6, h⟩ := bind_K h
    refine call_K (by first | exact i_CondVars_ok e6 | simpa only [go_sem, Int.reduceLT, Int.reduceLE, Int.reduceBEq, Int.reduceBNe, Nat.reduceBNe, Nat.reduceAdd, Nat.reduceMul, Nat.reduceEqDiff, Nat.reduceLeDiff, Nat.reduceLT, Nat.reduceBEq, reduceCtorEq, reduceIte, hx2, lt_t hx2, lt_p hx2, nat_in (lt_n hx2) hlhx2, g5_3, g5_6, g5_7, g5_8, og5_0] using i_CondVars_ok e6) ?_
    obtain ⟨p7, h⟩ := chk_K h
    try simp only [Nat.reduceLeDiff] at p7
    try simp only [go_sem, Int.reduceLT, Int.reduceLE, Int.reduceBEq, Int.reduceBNe, Nat.reduceBNe, Nat.reduceAdd, Nat.reduceMul, Nat.reduceEqDiff, Nat.reduceLeDiff, Nat.reduceLT, Nat.reduceBEq, reduceCtorEq, reduceIte, hx2, lt_t hx2, lt_p hx2, nat_in (lt_n hx2) hlhx2, p7, g5_3, g5_6, g5_7, g5_8, og5_0]
    refine ⟨_, [], [129], (Option.some.inj h).symm, by decide, ?_⟩
    try simp only [go_sem, Int.reduceLT, Int.reduceLE, Int.reduceBEq, Int.reduceBNe, Nat.reduceBNe, Nat.reduceAdd, Nat.reduceMul, Nat.reduceEqDiff, Nat.reduceLeDiff, Nat.reduceLT, Nat.reduceBEq, reduceCtorEq, reduceIte, hx2, lt_t hx2, lt_p hx2, nat_in (lt_n hx2) hlhx2, p7, g5_3, g5_6, g5_7, g5_8, og5_0, IV, sts_cons, sts_nil, obs_cons, obs_nil]
  · rintro row_5 ⟨sl, ob, n⟩ hI8 hW9 h
    simp only [IV, sts_cons, sts_nil, obs_cons, obs_nil, and_true, true_and, Nat.reduceAdd, str_len] at hI8
    obtain ⟨⟨g10_3, g10_6, g10_7, g10_8⟩, og10_0, hn⟩ := hI8
    subst hn
    obtain rfl := Option.some.inj h
    try simp only [go_sem, Int.reduceLT, Int.reduceLE, Int.reduceBEq, Int.reduceBNe, Nat.reduceBNe, Nat.reduceAdd, Nat.reduceMul, Nat.reduceEqDiff, Nat.reduceLeDiff, Nat.reduceLT, Nat.reduceBEq, reduceCtorEq, reduceIte, lt_f (l_0.length), g10_3, g10_6, g10_7, g10_8, og10_0]
end Go.Proofs.Ytccbhhglghboaaa

namespace Go.Proofs.Ytccbhhglghboaaa
open Go.Proofs.Try
set_option linter.unusedSimpArgs false
set_option linter.unusedVariables false
set_option maxRecDepth 1000000
set_option maxHeartbeats 4000000
theorem s_RuleVars_ok {r_0 : RuleD} {r : (List ByteArray)} (h : s_RuleVars r_0 = some r) : Sound Try.prog J0 134 [(true, eRule r_0)] [(false, [(false, .sl 9 1 (List.map eStr r))])] := by
  refine fnk Try.func134 (by kernel_rfl) rfl (by kernel_rfl) (by kernel_rfl) ?_
  unfold s_RuleVars at h
  simp only [fnS, f134, argSt, go_sem, Int.reduceLT, Int.reduceLE, Int.reduceBEq, Int.reduceBNe, Nat.reduceBNe, Nat.reduceAdd, Nat.reduceMul, Nat.reduceEqDiff, Nat.reduceLeDiff, Nat.reduceLT, Nat.reduceBEq, reduceCtorEq, reduceIte]
  refine swp_for h (fun i row_12 st => IV [(1, .bp 0 0), (3, .p false [.row 1]), (4, .p false [.c (.int .i64 ((i : Nat) : Int))])] [.box 75 [.c (.str r_0.name), .c (.int .i64 r_0.priority), .c (.sl 120 5 (List.map eCond r_0.cond)), .c (.sl 128 3 (List.map eAction r_0.thn))], .row 9 1 (List.map eStr row_12) 2] st) [] [0, 32] (by decide) ?_ ?_ ?_
  · simp only [go_sem, Int.reduceLT, Int.reduceLE, Int.reduceBEq, Int.reduceBNe, Nat.reduceBNe, Nat.reduceAdd, Nat.reduceMul, Nat.reduceEqDiff, Nat.reduceLeDiff, Nat.reduceLT, Nat.reduceBEq, reduceCtorEq, reduceIte, IV, sts_cons, sts_nil, obs_cons, obs_nil]
  · rintro i61 x62 row_12 ⟨sl, ob, n⟩ y1 hx2 hI3 hW4 h hy1
    simp only [IV, sts_cons, sts_nil, obs_cons, obs_nil, and_true, true_and, Nat.reduceAdd, str_len] at hI3
    obtain ⟨⟨g5_1, g5_3, g5_4⟩, og5_0, og5_1, hn⟩ := hI3
    subst hn
    have hlhx2 := WF.boxL hW4 og5_0 (j := 2) rfl
    try simp only [go_sem, Int.reduceLT, Int.reduceLE, Int.reduceBEq, Int.reduceBNe, Nat.reduceBNe, Nat.reduceAdd, Nat.reduceMul, Nat.reduceEqDiff, Nat.reduceLeDiff, Nat.reduceLT, Nat.reduceBEq, reduceCtorEq, reduceIte, hx2, lt_t hx2, lt_p hx2, nat_in (lt_n hx2) hlhx2, g5_1, g5_3, g5_4, og5_0, og5_1]
    obtain ⟨v63, e6, h⟩ := bind_K h
    refine call_K (by first | exact s_CondVars_ok e6 | simpa only [go_sem, Int.reduceLT, Int.reduceLE, Int.reduceBEq, Int.reduceBNe, Nat.reduceBNe, Nat.reduceAdd, Nat.reduceMul, Nat.reduceEqDiff, Nat.reduceLeDiff, Nat.reduceLT, Nat.reduceBEq, reduceCtorEq, reduceIte, hx2, lt_t hx2, lt_p hx2, nat_in (lt_n hx2) hlhx2, g5_1, g5_3, g5_4, og5_0, og5_1] using s_CondVars_ok e6) ?_
    try simp only [go_sem, Int.reduceLT, Int.reduceLE, Int.reduceBEq, Int.reduceBNe, Nat.reduceBNe, Nat.reduceAdd, Nat.reduceMul, Nat.reduceEqDiff, Nat.reduceLeDiff, Nat.reduceLT, Nat.reduceBEq, reduceCtorEq, reduceIte, hx2, lt_t hx2, lt_p hx2, nat_in (lt_n hx2) hlhx2, g5_1, g5_3, g5_4, og5_0, og5_1]
    refine swp_for h (fun i row_66 st => IV [(1, .bp 0 0), (3, .p false [.row 1]), (4, .p false [.c (.int .i64 ((i61 : Nat) : Int))]), (5, .p false [.row 2]), (6, .p false [.c (.int .i64 ((i : Nat) : Int))])] [.box 75 [.c (.str r_0.name), .c (.int .i64 r_0.priority), .c (.sl 120 5 (List.map eCond r_0.cond)), .c (.sl 128 3 (List.map eAction r_0.thn))], .row 9 1 (List.map eStr row_66) 2, .row 9 1 (List.map eStr v63) 2] st) [] [0, 1, 162] (by decide) ?_ ?_ ?_
    · simp only [go_sem, Int.reduceLT, Int.reduceLE, Int.reduceBEq, Int.reduceBNe, Nat.reduceBNe, Nat.reduceAdd, Nat.reduceMul, Nat.reduceEqDiff, Nat.reduceLeDiff, Nat.reduceLT, Nat.reduceBEq, reduceCtorEq, reduceIte, IV, sts_cons, sts_nil, obs_cons, obs_nil, hx2, lt_t hx2, lt_p hx2, nat_in (lt_n hx2) hlhx2, g5_1, g5_3, g5_4, og5_0, og5_1]
    · rintro i70 x71 row_66 ⟨sl, ob, n⟩ y7 hx8 hI9 hW10 h hy7
      simp only [IV, sts_cons, sts_nil, obs_cons, obs_nil, and_true, true_and, Nat.reduceAdd, str_len] at hI9
      obtain ⟨⟨g11_1, g11_3, g11_4, g11_5, g11_6⟩, og11_0, og11_1, og11_2, hn⟩ := hI9
      subst hn
      have hlhx8 := WF.rowL hW10 og11_2
      try simp only [go_sem, Int.reduceLT, Int.reduceLE, Int.reduceBEq, Int.reduceBNe, Nat.reduceBNe, Nat.reduceAdd, Nat.reduceMul, Nat.reduceEqDiff, Nat.reduceLeDiff, Nat.reduceLT, Nat.reduceBEq, reduceCtorEq, reduceIte, hx2, lt_t hx2, lt_p hx2, nat_in (lt_n hx2) hlhx2, hx8, lt_t hx8, lt_p hx8, nat_in (lt_n hx8) hlhx8, g11_1, g11_3, g11_4, g11_5, g11_6, og11_0, og11_1, og11_2]
      obtain ⟨v72, e12, h⟩ := bind_K h
      refine call_K (by first | exact s_l1Put_ok e12 | simpa only [go_sem, Int.reduceLT, Int.reduceLE, Int.reduceBEq, Int.reduceBNe, Nat.reduceBNe, Nat.reduceAdd, Nat.reduceMul, Nat.reduceEqDiff, Nat.reduceLeDiff, Nat.reduceLT, Nat.reduceBEq, reduceCtorEq, reduceIte, hx2, lt_t hx2, lt_p hx2, nat_in (lt_n hx2) hlhx2, hx8, lt_t hx8, lt_p hx8, nat_in (lt_n hx8) hlhx8, g11_1, g11_3, g11_4, g11_5, g11_6, og11_0, og11_1, og11_2] using s_l1Put_ok e12) ?_
      try simp only [go_sem, Int.reduceLT, Int.reduceLE, Int.reduceBEq, Int.reduceBNe, Nat.reduceBNe, Nat.reduceAdd, Nat.reduceMul, Nat.reduceEqDiff, Nat.reduceLeDiff, Nat.reduceLT, Nat.reduceBEq, reduceCtorEq, reduceIte, hx2, lt_t hx2, lt_p hx2, nat_in (lt_n hx2) hlhx2, hx8, lt_t hx8, lt_p hx8, nat_in (lt_n hx8) hlhx8, g11_1, g11_3, g11_4, g11_5, g11_6, og11_0, og11_1, og11_2]
      refine ⟨_, [], [0, 147, 2], (Option.some.inj h).symm, by decide, ?_⟩
      try simp only [go_sem, Int.reduceLT, Int.reduceLE, Int.reduceBEq, Int.reduceBNe, Nat.reduceBNe, Nat.reduceAdd, Nat.reduceMul, Nat.reduceEqDiff, Nat.reduceLeDiff, Nat.reduceLT, Nat.reduceBEq, reduceCtorEq, reduceIte, hx2, lt_t hx2, lt_p hx2, nat_in (lt_n hx2) hlhx2, hx8, lt_t hx8, lt_p hx8, nat_in (lt_n hx8) hlhx8, g11_1, g11_3, g11_4, g11_5, g11_6, og11_0, og11_1, og11_2, IV, sts_cons, sts_nil, obs_cons, obs_nil]
    · rintro row_66 ⟨sl, ob, n⟩ hI13 hW14 h
      simp only [IV, sts_cons, sts_nil, obs_cons, obs_nil, and_true, true_and, Nat.reduceAdd, str_len] at hI13
      obtain ⟨⟨g15_1, g15_3, g15_4, g15_5, g15_6⟩, og15_0, og15_1, og15_2, hn⟩ := hI13
      subst hn
      try simp only [go_sem, Int.reduceLT, Int.reduceLE, Int.reduceBEq, Int.reduceBNe, Nat.reduceBNe, Nat.reduceAdd, Nat.reduceMul, Nat.reduceEqDiff, Nat.reduceLeDiff, Nat.reduceLT, Nat.reduceBEq, reduceCtorEq, reduceIte, hx2, lt_t hx2, lt_p hx2, nat_in (lt_n hx2) hlhx2, lt_f (v63.length), g15_1, g15_3, g15_4, g15_5, g15_6, og15_0, og15_1, og15_2]
      refine ⟨_, [], [0, 1], (Option.some.inj h).symm, by decide, ?_⟩
      try simp only [go_sem, Int.reduceLT, Int.reduceLE, Int.reduceBEq, Int.reduceBNe, Nat.reduceBNe, Nat.reduceAdd, Nat.reduceMul, Nat.reduceEqDiff, Nat.reduceLeDiff, Nat.reduceLT, Nat.reduceBEq, reduceCtorEq, reduceIte, hx2, lt_t hx2, lt_p hx2, nat_in (lt_n hx2) hlhx2, lt_f (v63.length), g15_1, g15_3, g15_4, g15_5, g15_6, og15_0, og15_1, og15_2, IV, sts_cons, sts_nil, obs_cons, obs_nil]
  · rintro row_12 ⟨sl, ob, n⟩ hI16 hW17 h
    simp only [IV, sts_cons, sts_nil, obs_cons, obs_nil, and_true, true_and, Nat.reduceAdd, str_len] at hI16
    obtain ⟨⟨g18_1, g18_3, g18_4⟩, og18_0, og18_1, hn⟩ := hI16
    subst hn
    try simp only [go_sem, Int.reduceLT, Int.reduceLE, Int.reduceBEq, Int.reduceBNe, Nat.reduceBNe, Nat.reduceAdd, Nat.reduceMul, Nat.reduceEqDiff, Nat.reduceLeDiff, Nat.reduceLT, Nat.reduceBEq, reduceCtorEq, reduceIte, lt_f (r_0.cond.length), g18_1, g18_3, g18_4, og18_0, og18_1]
    refine swp_for h (fun i row_84 st => IV [(1, .bp 0 0), (3, .p false [.row 1]), (7, .p false [.c (.int .i64 ((i : Nat) : Int))])] [.box 75 [.c (.str r_0.name), .c (.int .i64 r_0.priority), .c (.sl 120 5 (List.map eCond r_0.cond)), .c (.sl 128 3 (List.map eAction r_0.thn))], .row 9 1 (List.map eStr row_84) 2] st) [] [0, 1] (by decide) ?_ ?_ ?_
    · simp only [go_sem, Int.reduceLT, Int.reduceLE, Int.reduceBEq, Int.reduceBNe, Nat.reduceBNe, Nat.reduceAdd, Nat.reduceMul, Nat.reduceEqDiff, Nat.reduceLeDiff, Nat.reduceLT, Nat.reduceBEq, reduceCtorEq, reduceIte, IV, sts_cons, sts_nil, obs_cons, obs_nil, lt_f (r_0.cond.length), g18_1, g18_3, g18_4, og18_0, og18_1]
    · rintro i97 x98 row_84 ⟨sl, ob, n⟩ y19 hx20 hI21 hW22 h hy19
      simp only [IV, sts_cons, sts_nil, obs_cons, obs_nil, and_true, true_and, Nat.reduceAdd, str_len] at hI21
      obtain ⟨⟨g23_1, g23_3, g23_7⟩, og23_0, og23_1, hn⟩ := hI21
      subst hn
      have hlhx20 := WF.boxL hW22 og23_0 (j := 3) rfl
      try simp only [go_sem, Int.reduceLT, Int.reduceLE, Int.reduceBEq, Int.reduceBNe, Nat.reduceBNe, Nat.reduceAdd, Nat.reduceMul, Nat.reduceEqDiff, Nat.reduceLeDiff, Nat.reduceLT, Nat.reduceBEq, reduceCtorEq, reduceIte, lt_f (r_0.cond.length), hx20, lt_t hx20, lt_p hx20, nat_in (lt_n hx20) hlhx20, g23_1, g23_3, g23_7, og23_0, og23_1]
      obtain ⟨v99, e24, h⟩ := bind_K h
      refine call_K (by first | exact s_VarsOf_ok e24 | simpa only [go_sem, Int.reduceLT, Int.reduceLE, Int.reduceBEq, Int.reduceBNe, Nat.reduceBNe, Nat.reduceAdd, Nat.reduceMul, Nat.reduceEqDiff, Nat.reduceLeDiff, Nat.reduceLT, Nat.reduceBEq, reduceCtorEq, reduceIte, lt_f (r_0.cond.length), hx20, lt_t hx20, lt_p hx20, nat_in (lt_n hx20) hlhx20, g23_1, g23_3, g23_7, og23_0, og23_1] using s_VarsOf_ok e24) ?_
      try simp only [go_sem, Int.reduceLT, Int.reduceLE, Int.reduceBEq, Int.reduceBNe, Nat.reduceBNe, Nat.reduceAdd, Nat.reduceMul, Nat.reduceEqDiff, Nat.reduceLeDiff, Nat.reduceLT, Nat.reduceBEq, reduceCtorEq, reduceIte, lt_f (r_0.cond.length), hx20, lt_t hx20, lt_p hx20, nat_in (lt_n hx20) hlhx20, g23_1, g23_3, g23_7, og23_0, og23_1]
      refine swp_for h (fun i row_102 st => IV [(1, .bp 0 0), (3, .p false [.row 1]), (7, .p false [.c (.int .i64 ((i97 : Nat) : Int))]), (8, .p false [.row 2]), (9, .p false [.c (.int .i64 ((i : Nat) : Int))])] [.box 75 [.c (.str r_0.name), .c (.int .i64 r_0.priority), .c (.sl 120 5 (List.map eCond r_0.cond)), .c (.sl 128 3 (List.map eAction r_0.thn))], .row 9 1 (List.map eStr row_102) 2, .row 9 1 (List.map eStr v99) 2] st) [] [0, 1, 178] (by decide) ?_ ?_ ?_
      · simp only [go_sem, Int.reduceLT, Int.reduceLE, Int.reduceBEq, Int.reduceBNe, Nat.reduceBNe, Nat.reduceAdd, Nat.reduceMul, Nat.reduceEqDiff, Nat.reduceLeDiff, Nat.reduceLT, Nat.reduceBEq, reduceCtorEq, reduceIte, IV, sts_cons, sts_nil, obs_cons, obs_nil, lt_f (r_0.cond.length), hx20, lt_t hx20, lt_p hx20, nat_in (lt_n hx20) hlhx20, g23_1, g23_3, g23_7, og23_0, og23_1]
      · rintro i106 x107 row_102 ⟨sl, ob, n⟩ y25 hx26 hI27 hW28 h hy25
        simp only [IV, sts_cons, sts_nil, obs_cons, obs_nil, and_true, true_and, Nat.reduceAdd, str_len] at hI27
        obtain ⟨⟨g29_1, g29_3, g29_7, g29_8, g29_9⟩, og29_0, og29_1, og29_2, hn⟩ := hI27
        subst hn
        have hlhx26 := WF.rowL hW28 og29_2
        try simp only [go_sem, Int.reduceLT, Int.reduceLE, Int.reduceBEq, Int.reduceBNe, Nat.reduceBNe, Nat.reduceAdd, Nat.reduceMul, Nat.reduceEqDiff, Nat.reduceLeDiff, Nat.reduceLT, Nat.reduceBEq, reduceCtorEq, reduceIte, lt_f (r_0.cond.length), hx20, lt_t hx20, lt_p hx20, nat_in (lt_n hx20) hlhx20, hx26, lt_t hx26, lt_p hx26, nat_in (lt_n hx26) hlhx26, g29_1, g29_3, g29_7, g29_8, g29_9, og29_0, og29_1, og29_2]
        obtain ⟨v108, e30, h⟩ := bind_K h
        refine call_K (by first | exact s_l1Put_ok e30 | simpa only [go_sem, Int.reduceLT, Int.reduceLE, Int.reduceBEq, Int.reduceBNe, Nat.reduceBNe, Nat.reduceAdd, Nat.reduceMul, Nat.reduceEqDiff, Nat.reduceLeDiff, Nat.reduceLT, Nat.reduceBEq, reduceCtorEq, reduceIte, lt_f (r_0.cond.length), hx20, lt_t hx20, lt_p hx20, nat_in (lt_n hx20) hlhx20, hx26, lt_t hx26, lt_p hx26, nat_in (lt_n hx26) hlhx26, g29_1, g29_3, g29_7, g29_8, g29_9, og29_0, og29_1, og29_2] using s_l1Put_ok e30) ?_
        try simp only [go_sem, Int.reduceLT, Int.reduceLE, Int.reduceBEq, Int.reduceBNe, Nat.reduceBNe, Nat.reduceAdd, Nat.reduceMul, Nat.reduceEqDiff, Nat.reduceLeDiff, Nat.reduceLT, Nat.reduceBEq, reduceCtorEq, reduceIte, lt_f (r_0.cond.length), hx20, lt_t hx20, lt_p hx20, nat_in (lt_n hx20) hlhx20, hx26, lt_t hx26, lt_p hx26, nat_in (lt_n hx26) hlhx26, g29_1, g29_3, g29_7, g29_8, g29_9, og29_0, og29_1, og29_2]
        refine ⟨_, [], [0, 147, 2], (Option.some.inj h).symm, by decide, ?_⟩
        try simp only [go_sem, Int.reduceLT, Int.reduceLE, Int.reduceBEq, Int.reduceBNe, Nat.reduceBNe, Nat.reduceAdd, Nat.reduceMul, Nat.reduceEqDiff, Nat.reduceLeDiff, Nat.reduceLT, Nat.reduceBEq, reduceCtorEq, reduceIte, lt_f (r_0.cond.length), hx20, lt_t hx20, lt_p hx20, nat_in (lt_n hx20) hlhx20, hx26, lt_t hx26, lt_p hx26, nat_in (lt_n hx26) hlhx26, g29_1, g29_3, g29_7, g29_8, g29_9, og29_0, og29_1, og29_2, IV, sts_cons, sts_nil, obs_cons, obs_nil]
      · rintro row_102 ⟨sl, ob, n⟩ hI31 hW32 h
        simp only [IV, sts_cons, sts_nil, obs_cons, obs_nil, and_true, true_and, Nat.reduceAdd, str_len] at hI31
        obtain ⟨⟨g33_1, g33_3, g33_7, g33_8, g33_9⟩, og33_0, og33_1, og33_2, hn⟩ := hI31
        subst hn
        try simp only [go_sem, Int.reduceLT, Int.reduceLE, Int.reduceBEq, Int.reduceBNe, Nat.reduceBNe, Nat.reduceAdd, Nat.reduceMul, Nat.reduceEqDiff, Nat.reduceLeDiff, Nat.reduceLT, Nat.reduceBEq, reduceCtorEq, reduceIte, lt_f (r_0.cond.length), hx20, lt_t hx20, lt_p hx20, nat_in (lt_n hx20) hlhx20, lt_f (v99.length), g33_1, g33_3, g33_7, g33_8, g33_9, og33_0, og33_1, og33_2]
        refine ⟨_, [], [0, 1], (Option.some.inj h).symm, by decide, ?_⟩
        try simp only [go_sem, Int.reduceLT, Int.reduceLE, Int.reduceBEq, Int.reduceBNe, Nat.reduceBNe, Nat.reduceAdd, Nat.reduceMul, Nat.reduceEqDiff, Nat.reduceLeDiff, Nat.reduceLT, Nat.reduceBEq, reduceCtorEq, reduceIte, lt_f (r_0.cond.length), hx20, lt_t hx20, lt_p hx20, nat_in (lt_n hx20) hlhx20, lt_f (v99.length), g33_1, g33_3, g33_7, g33_8, g33_9, og33_0, og33_1, og33_2, IV, sts_cons, sts_nil, obs_cons, obs_nil]
    · rintro row_84 ⟨sl, ob, n⟩ hI34 hW35 h
      simp only [IV, sts_cons, sts_nil, obs_cons, obs_nil, and_true, true_and, Nat.reduceAdd, str_len] at hI34
      obtain ⟨⟨g36_1, g36_3, g36_7⟩, og36_0, og36_1, hn⟩ := hI34
      subst hn
      obtain rfl := Option.some.inj h
      try simp only [go_sem, Int.reduceLT, Int.reduceLE, Int.reduceBEq, Int.reduceBNe, Nat.reduceBNe, Nat.reduceAdd, Nat.reduceMul, Nat.reduceEqDiff, Nat.reduceLeDiff, Nat.reduceLT, Nat.reduceBEq, reduceCtorEq, reduceIte, lt_f (r_0.cond.length), lt_f (r_0.thn.length), g36_1, g36_3, g36_7, og36_0, og36_1]
theorem i_condFits_ok {r_0 : RuleD} {k_1 : Int} {r : Bool} (h : i_condFits r_0 k_1 = some r) : Sound Try.prog J0 139 [(true, eRule r_0), (false, [.int .i64 k_1])] [(false, [(false, .bool r)])] := by
  refine fnk Try.func139 (by kernel_rfl) rfl (by kernel_rfl) (by kernel_rfl) ?_
  unfold i_condFits at h
  simp only [fnS, f139, argSt, go_sem, Int.reduceLT, Int.reduceLE, Int.reduceBEq, Int.reduceBNe, Nat.reduceBNe, Nat.reduceAdd, Nat.reduceMul, Nat.reduceEqDiff, Nat.reduceLeDiff, Nat.reduceLT, Nat.reduceBEq, reduceCtorEq, reduceIte]
  obtain ⟨x1, a1, a2, e3, h⟩ := at_K h
  try simp only [go_sem, Int.reduceLT, Int.reduceLE, Int.reduceBEq, Int.reduceBNe, Nat.reduceBNe, Nat.reduceAdd, Nat.reduceMul, Nat.reduceEqDiff, Nat.reduceLeDiff, Nat.reduceLT, Nat.reduceBEq, reduceCtorEq, reduceIte, a1, a2, e3]
  obtain ⟨v2, e4, h⟩ := bind_K h
  refine call_K (by first | exact i_BoundVars_ok e4 | simpa only [go_sem, Int.reduceLT, Int.reduceLE, Int.reduceBEq, Int.reduceBNe, Nat.reduceBNe, Nat.reduceAdd, Nat.reduceMul, Nat.reduceEqDiff, Nat.reduceLeDiff, Nat.reduceLT, Nat.reduceBEq, reduceCtorEq, reduceIte, a1, a2, e3] using i_BoundVars_ok e4) ?_
  try simp only [go_sem, Int.reduceLT, Int.reduceLE, Int.reduceBEq, Int.reduceBNe, Nat.reduceBNe, Nat.reduceAdd, Nat.reduceMul, Nat.reduceEqDiff, Nat.reduceLeDiff, Nat.reduceLT, Nat.reduceBEq, reduceCtorEq, reduceIte, a1, a2, e3]
  obtain ⟨v3, e5, h⟩ := bind_K h
  refine call_K (by first | exact i_CondVars_ok e5 | simpa only [go_sem, Int.reduceLT, Int.reduceLE, Int.reduceBEq, Int.reduceBNe, Nat.reduceBNe, Nat.reduceAdd, Nat.reduceMul, Nat.reduceEqDiff, Nat.reduceLeDiff, Nat.reduceLT, Nat.reduceBEq, reduceCtorEq, reduceIte, a1, a2, e3] using i_CondVars_ok e5) ?_
  try simp only [go_sem, Int.reduceLT, Int.reduceLE, Int.reduceBEq, Int.reduceBNe, Nat.reduceBNe, Nat.reduceAdd, Nat.reduceMul, Nat.reduceEqDiff, Nat.reduceLeDiff, Nat.reduceLT, Nat.reduceBEq, reduceCtorEq, reduceIte, a1, a2, e3]
  refine swp_for h (fun i _ st => IV [(1, .p false [.c (.int .i64 k_1)]), (2, .bp 0 0), (5, .bp 1 0), (6, .p false [.row 2]), (18, .p false [.row 3]), (19, .p false [.c (.int .i64 ((v3.length : Nat) : Int))]), (20, .p false [.c (.int .i64 ((i : Nat) : Int))])] [.box 75 [.c (.str r_0.name), .c (.int .i64 r_0.priority), .c (.sl 120 5 (List.map eCond r_0.cond)), .c (.sl 128 3 (List.map eAction r_0.thn))], .box 120 [.c (.int .i64 x1.kind), .c (.str x1.pattern.rel), .c (.sl 9 1 (List.map eStr x1.pattern.args)), .c (.str x1.left), .c (.str x1.right)], .row 9 1 (List.map eStr v2) 2, .row 9 1 (List.map eStr v3) 2] st) [] [0, 112, 176, 224] (by decide) ?_ ?_ ?_
  · simp only [go_sem, Int.reduceLT, Int.reduceLE, Int.reduceBEq, Int.reduceBNe, Nat.reduceBNe, Nat.reduceAdd, Nat.reduceMul, Nat.reduceEqDiff, Nat.reduceLeDiff, Nat.reduceLT, Nat.reduceBEq, reduceCtorEq, reduceIte, IV, sts_cons, sts_nil, obs_cons, obs_nil, a1, a2, e3]
  · rintro i11 x12 ⟨⟩ ⟨sl, ob, n⟩ y6 hx7 hI8 hW9 h hy6
    simp only [IV, sts_cons, sts_nil, obs_cons, obs_nil, and_true, true_and, Nat.reduceAdd, str_len] at hI8
    obtain ⟨⟨g10_1, g10_2, g10_5, g10_6, g10_18, g10_19, g10_20⟩, og10_0, og10_1, og10_2, og10_3, hn⟩ := hI8
    subst hn
    have hlhx7 := WF.rowL hW9 og10_3
    try simp only [go_sem, Int.reduceLT, Int.reduceLE, Int.reduceBEq, Int.reduceBNe, Nat.reduceBNe, Nat.reduceAdd, Nat.reduceMul, Nat.reduceEqDiff, Nat.reduceLeDiff, Nat.reduceLT, Nat.reduceBEq, reduceCtorEq, reduceIte, a1, a2, e3, hx7, lt_t hx7, lt_p hx7, nat_in (lt_n hx7) hlhx7, g10_1, g10_2, g10_5, g10_6, g10_18, g10_19, g10_20, og10_0, og10_1, og10_2, og10_3]
    refine ite_K h (fun c11 h => ?_) (fun c11 h => ?_)
    · try simp only [go_sem, Int.reduceLT, Int.reduceLE, Int.reduceBEq, Int.reduceBNe, Nat.reduceBNe, Nat.reduceAdd, Nat.reduceMul, Nat.reduceEqDiff, Nat.reduceLeDiff, Nat.reduceLT, Nat.reduceBEq, reduceCtorEq, reduceIte, a1, a2, e3, hx7, lt_t hx7, lt_p hx7, nat_in (lt_n hx7) hlhx7, c11, g10_1, g10_2, g10_5, g10_6, g10_18, g10_19, g10_20, og10_0, og10_1, og10_2, og10_3]
      refine ⟨_, [], [0, 1, 2, 3], (Option.some.inj h).symm, by decide, ?_⟩
      try simp only [go_sem, Int.reduceLT, Int.reduceLE, Int.reduceBEq, Int.reduceBNe, Nat.reduceBNe, Nat.reduceAdd, Nat.reduceMul, Nat.reduceEqDiff, Nat.reduceLeDiff, Nat.reduceLT, Nat.reduceBEq, reduceCtorEq, reduceIte, a1, a2, e3, hx7, lt_t hx7, lt_p hx7, nat_in (lt_n hx7) hlhx7, c11, g10_1, g10_2, g10_5, g10_6, g10_18, g10_19, g10_20, og10_0, og10_1, og10_2, og10_3, IV, sts_cons, sts_nil, obs_cons, obs_nil]
    · try simp only [go_sem, Int.reduceLT, Int.reduceLE, Int.reduceBEq, Int.reduceBNe, Nat.reduceBNe, Nat.reduceAdd, Nat.reduceMul, Nat.reduceEqDiff, Nat.reduceLeDiff, Nat.reduceLT, Nat.reduceBEq, reduceCtorEq, reduceIte, a1, a2, e3, hx7, lt_t hx7, lt_p hx7, nat_in (lt_n hx7) hlhx7, c11, g10_1, g10_2, g10_5, g10_6, g10_18, g10_19, g10_20, og10_0, og10_1, og10_2, og10_3]
      obtain ⟨v13, e12, h⟩ := bind_K h
      refine call_K (by first | exact i_hasText_ok e12 | simpa only [go_sem, Int.reduceLT, Int.reduceLE, Int.reduceBEq, Int.reduceBNe, Nat.reduceBNe, Nat.reduceAdd, Nat.reduceMul, Nat.reduceEqDiff, Nat.reduceLeDiff, Nat.reduceLT, Nat.reduceBEq, reduceCtorEq, reduceIte, a1, a2, e3, hx7, lt_t hx7, lt_p hx7, nat_in (lt_n hx7) hlhx7, c11, g10_1, g10_2, g10_5, g10_6, g10_18, g10_19, g10_20, og10_0, og10_1, og10_2, og10_3] using i_hasText_ok e12) ?_
      try simp only [go_sem, Int.reduceLT, Int.reduceLE, Int.reduceBEq, Int.reduceBNe, Nat.reduceBNe, Nat.reduceAdd, Nat.reduceMul, Nat.reduceEqDiff, Nat.reduceLeDiff, Nat.reduceLT, Nat.reduceBEq, reduceCtorEq, reduceIte, a1, a2, e3, hx7, lt_t hx7, lt_p hx7, nat_in (lt_n hx7) hlhx7, c11, g10_1, g10_2, g10_5, g10_6, g10_18, g10_19, g10_20, og10_0, og10_1, og10_2, og10_3]
      refine ite_K h (fun c13 h => ?_) (fun c13 h => ?_)
      · try simp only [go_sem, Int.reduceLT, Int.reduceLE, Int.reduceBEq, Int.reduceBNe, Nat.reduceBNe, Nat.reduceAdd, Nat.reduceMul, Nat.reduceEqDiff, Nat.reduceLeDiff, Nat.reduceLT, Nat.reduceBEq, reduceCtorEq, reduceIte, a1, a2, e3, hx7, lt_t hx7, lt_p hx7, nat_in (lt_n hx7) hlhx7, c11, c13, g10_1, g10_2, g10_5, g10_6, g10_18, g10_19, g10_20, og10_0, og10_1, og10_2, og10_3]
        refine ⟨_, [], [0, 1, 2, 3], (Option.some.inj h).symm, by decide, ?_⟩
        try simp only [go_sem, Int.reduceLT, Int.reduceLE, Int.reduceBEq, Int.reduceBNe, Nat.reduceBNe, Nat.reduceAdd, Nat.reduceMul, Nat.reduceEqDiff, Nat.reduceLeDiff, Nat.reduceLT, Nat.reduceBEq, reduceCtorEq, reduceIte, a1, a2, e3, hx7, lt_t hx7, lt_p hx7, nat_in (lt_n hx7) hlhx7, c11, c13, g10_1, g10_2, g10_5, g10_6, g10_18, g10_19, g10_20, og10_0, og10_1, og10_2, og10_3, IV, sts_cons, sts_nil, obs_cons, obs_nil]
      · try simp only [go_sem, Int.reduceLT, Int.reduceLE, Int.reduceBEq, Int.reduceBNe, Nat.reduceBNe, Nat.reduceAdd, Nat.reduceMul, Nat.reduceEqDiff, Nat.reduceLeDiff, Nat.reduceLT, Nat.reduceBEq, reduceCtorEq, reduceIte, a1, a2, e3, hx7, lt_t hx7, lt_p hx7, nat_in (lt_n hx7) hlhx7, c11, c13, g10_1, g10_2, g10_5, g10_6, g10_18, g10_19, g10_20, og10_0, og10_1, og10_2, og10_3]
        refine ite_K h (fun c14 h => ?_) (fun c14 h => ?_)
        · replace h := inr_K h hy6
          obtain rfl := Option.some.inj h
          try simp only [go_sem, Int.reduceLT, Int.reduceLE, Int.reduceBEq, Int.reduceBNe, Nat.reduceBNe, Nat.reduceAdd, Nat.reduceMul, Nat.reduceEqDiff, Nat.reduceLeDiff, Nat.reduceLT, Nat.reduceBEq, reduceCtorEq, reduceIte, a1, a2, e3, hx7, lt_t hx7, lt_p hx7, nat_in (lt_n hx7) hlhx7, c11, c13, c14, g10_1, g10_2, g10_5, g10_6, g10_18, g10_19, g10_20, og10_0, og10_1, og10_2, og10_3]
        · try simp only [go_sem, Int.reduceLT, Int.reduceLE, Int.reduceBEq, Int.reduceBNe, Nat.reduceBNe, Nat.reduceAdd, Nat.reduceMul, Nat.reduceEqDiff, Nat.reduceLeDiff, Nat.reduceLT, Nat.reduceBEq, reduceCtorEq, reduceIte, a1, a2, e3, hx7, lt_t hx7, lt_p hx7, nat_in (lt_n hx7) hlhx7, c11, c13, c14, g10_1, g10_2, g10_5, g10_6, g10_18, g10_19, g10_20, og10_0, og10_1, og10_2, og10_3]
          obtain ⟨v14, e15, h⟩ := bind_K h
          refine call_K (by first | exact i_occursElsewhere_ok e15 | simpa only [go_sem, Int.reduceLT, Int.reduceLE, Int.reduceBEq, Int.reduceBNe, Nat.reduceBNe, Nat.reduceAdd, Nat.reduceMul, Nat.reduceEqDiff, Nat.reduceLeDiff, Nat.reduceLT, Nat.reduceBEq, reduceCtorEq, reduceIte, a1, a2, e3, hx7, lt_t hx7, lt_p hx7, nat_in (lt_n hx7) hlhx7, c11, c13, c14, g10_1, g10_2, g10_5, g10_6, g10_18, g10_19, g10_20, og10_0, og10_1, og10_2, og10_3] using i_occursElsewhere_ok e15) ?_
          try simp only [go_sem, Int.reduceLT, Int.reduceLE, Int.reduceBEq, Int.reduceBNe, Nat.reduceBNe, Nat.reduceAdd, Nat.reduceMul, Nat.reduceEqDiff, Nat.reduceLeDiff, Nat.reduceLT, Nat.reduceBEq, reduceCtorEq, reduceIte, a1, a2, e3, hx7, lt_t hx7, lt_p hx7, nat_in (lt_n hx7) hlhx7, c11, c13, c14, g10_1, g10_2, g10_5, g10_6, g10_18, g10_19, g10_20, og10_0, og10_1, og10_2, og10_3]
          refine ite_K h (fun c16 h => ?_) (fun c16 h => ?_)
          · replace h := inr_K h hy6
            obtain rfl := Option.some.inj h
            try simp only [go_sem, Int.reduceLT, Int.reduceLE, Int.reduceBEq, Int.reduceBNe, Nat.reduceBNe, Nat.reduceAdd, Nat.reduceMul, Nat.reduceEqDiff, Nat.reduceLeDiff, Nat.reduceLT, Nat.reduceBEq, reduceCtorEq, reduceIte, a1, a2, e3, hx7, lt_t hx7, lt_p hx7, nat_in (lt_n hx7) hlhx7, c11, c13, c14, c16, g10_1, g10_2, g10_5, g10_6, g10_18, g10_19, g10_20, og10_0, og10_1, og10_2, og10_3]
          · try simp only [go_sem, Int.reduceLT, Int.reduceLE, Int.reduceBEq, Int.reduceBNe, Nat.reduceBNe, Nat.reduceAdd, Nat.reduceMul, Nat.reduceEqDiff, Nat.reduceLeDiff, Nat.reduceLT, Nat.reduceBEq, reduceCtorEq, reduceIte, a1, a2, e3, hx7, lt_t hx7, lt_p hx7, nat_in (lt_n hx7) hlhx7, c11, c13, c14, c16, g10_1, g10_2, g10_5, g10_6, g10_18, g10_19, g10_20, og10_0, og10_1, og10_2, og10_3]
            refine ⟨_, [], [0, 1, 2, 3], (Option.some.inj h).symm, by decide, ?_⟩
            try simp only [go_sem, Int.reduceLT, Int.reduceLE, Int.reduceBEq, Int.reduceBNe, Nat.reduceBNe, Nat.reduceAdd, Nat.reduceMul, Nat.reduceEqDiff, Nat.reduceLeDiff, Nat.reduceLT, Nat.reduceBEq, reduceCtorEq, reduceIte, a1, a2, e3, hx7, lt_t hx7, lt_p hx7, nat_in (lt_n hx7) hlhx7, c11, c13, c14, c16, g10_1, g10_2, g10_5, g10_6, g10_18, g10_19, g10_20, og10_0, og10_1, og10_2, og10_3, IV, sts_cons, sts_nil, obs_cons, obs_nil]
  · rintro ⟨⟩ ⟨sl, ob, n⟩ hI17 hW18 h
    simp only [IV, sts_cons, sts_nil, obs_cons, obs_nil, and_true, true_and, Nat.reduceAdd, str_len] at hI17
    obtain ⟨⟨g19_1, g19_2, g19_5, g19_6, g19_18, g19_19, g19_20⟩, og19_0, og19_1, og19_2, og19_3, hn⟩ := hI17
    subst hn
    obtain rfl := Option.some.inj h
    try simp only [go_sem, Int.reduceLT, Int.reduceLE, Int.reduceBEq, Int.reduceBNe, Nat.reduceBNe, Nat.reduceAdd, Nat.reduceMul, Nat.reduceEqDiff, Nat.reduceLeDiff, Nat.reduceLT, Nat.reduceBEq, reduceCtorEq, reduceIte, a1, a2, e3, lt_f (v3.length), g19_1, g19_2, g19_5, g19_6, g19_18, g19_19, g19_20, og19_0, og19_1, og19_2, og19_3]
end Go.Proofs.Ytccbhhglghboaaa
