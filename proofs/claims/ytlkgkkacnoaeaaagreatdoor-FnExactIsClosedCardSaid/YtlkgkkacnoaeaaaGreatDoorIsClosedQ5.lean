/- Texts of this proof, joined: Dp7, Dp11, Dp10, Dp12, Dp14, Dp13, Dp15, Dp17, Dp19, Dp20, Dp21, Dp22, Dp23, BStd. What each holds is said at its theorems. -/
import Derived.Test.YtlkgkkacnoaeaaaGreatDoorIsClosedQ4
import Derived.Test.YtlkgkkacnoaeaaaGreatDoorIsClosedQ3
import Derived.Test.YtlkgkkacnoaeaaaGreatDoorIsClosedQ1
set_option linter.unusedSimpArgs false
set_option linter.unusedVariables false
namespace Go.Proofs.YtlkgkkacnoaeaaaGreatDoor
open Go.Proofs.Tryz
open Int renaming reduceLT → qa, reduceLE → qb, reduceBEq → qc, reduceBNe → qd
open Nat renaming reduceBNe → qe, reduceAdd → qf, reduceMul → qg, reduceEqDiff → qh, reduceLeDiff → qi, reduceLT → qj, reduceBEq → qk
set_option linter.unusedSimpArgs false
set_option linter.unusedVariables false
set_option maxRecDepth 1000000
set_option maxHeartbeats 4000000
theorem s_BoundVars_ok {r_0 : RuleD} {n_1 : Int} {r : (List ByteArray)} (h : s_BoundVars r_0 n_1 = some r) : Sound Tryz.prog J0 95 [(true, eRule r_0), (false, [.int .i64 n_1])] [(false, [(false, .sl 9 1 (List.map eStr r))])] := by
  refine fnk Tryz.func95 (by kernel_rfl) rfl (by kernel_rfl) (by kernel_rfl) ?_
  unfold s_BoundVars at h
  simp only [fnS, f95, argSt, go_sem, qa, qb, qc, qd, qe, qf, qg, qh, qi, qj, qk, reduceCtorEq, reduceIte]
  refine swp_for h (fun i row_12 st => IV [(1, .p false [.c (.int .i64 n_1)]), (2, .bp 0 0), (5, .p false [.row 1]), (6, .p false [.c (.int .i64 ((i : Nat) : Int))])] [.box 52 [.c (.str r_0.name), .c (.int .i64 r_0.priority), .c (.sl 99 5 (List.map eCond r_0.cond)), .c (.sl 62 3 (List.map eAction r_0.thn))], .row 9 1 (List.map eStr row_12) 2] st) [] [0, 32] (by decide) ?_ ?_ ?_
  · simp only [go_sem, qa, qb, qc, qd, qe, qf, qg, qh, qi, qj, qk, reduceCtorEq, reduceIte, IV, sts_cons, sts_nil, obs_cons, obs_nil]
  · rintro i25 x26 row_12 ⟨sl, ob, n⟩ y1 hx2 hI3 hW4 h hy1
    simp only [IV, sts_cons, sts_nil, obs_cons, obs_nil, and_true, true_and, Nat.reduceAdd, str_len] at hI3
    obtain ⟨⟨g5_1, g5_2, g5_5, g5_6⟩, og5_0, og5_1, hn⟩ := hI3
    subst hn
    have hlhx2 := WF.boxL hW4 og5_0 (j := 2) rfl
    try simp only [go_sem, qa, qb, qc, qd, qe, qf, qg, qh, qi, qj, qk, reduceCtorEq, reduceIte, hx2, lt_t hx2, lt_p hx2, nat_in (lt_n hx2) hlhx2, g5_1, g5_2, g5_5, g5_6, og5_0, og5_1]
    refine ite_K h (fun c6 h => ?_) (fun c6 h => ?_)
    · try simp only [go_sem, qa, qb, qc, qd, qe, qf, qg, qh, qi, qj, qk, reduceCtorEq, reduceIte, hx2, lt_t hx2, lt_p hx2, nat_in (lt_n hx2) hlhx2, c6, g5_1, g5_2, g5_5, g5_6, og5_0, og5_1]
      refine ite_K h (fun c7 h => ?_) (fun c7 h => ?_)
      · try simp only [go_sem, qa, qb, qc, qd, qe, qf, qg, qh, qi, qj, qk, reduceCtorEq, reduceIte, hx2, lt_t hx2, lt_p hx2, nat_in (lt_n hx2) hlhx2, c6, c7, g5_1, g5_2, g5_5, g5_6, og5_0, og5_1]
        obtain ⟨v27, e8, h⟩ := bind_K h
        refine call_K (by first | exact s_VarsOf_ok e8 | simpa only [go_sem, qa, qb, qc, qd, qe, qf, qg, qh, qi, qj, qk, reduceCtorEq, reduceIte, hx2, lt_t hx2, lt_p hx2, nat_in (lt_n hx2) hlhx2, c6, c7, g5_1, g5_2, g5_5, g5_6, og5_0, og5_1] using s_VarsOf_ok e8) ?_
        try simp only [go_sem, qa, qb, qc, qd, qe, qf, qg, qh, qi, qj, qk, reduceCtorEq, reduceIte, hx2, lt_t hx2, lt_p hx2, nat_in (lt_n hx2) hlhx2, c6, c7, g5_1, g5_2, g5_5, g5_6, og5_0, og5_1]
        refine swp_for h (fun i row_30 st => IV [(1, .p false [.c (.int .i64 n_1)]), (2, .bp 0 0), (5, .p false [.row 1]), (6, .p false [.c (.int .i64 ((i25 : Nat) : Int))]), (7, .p false [.row 2]), (8, .p false [.c (.int .i64 ((i : Nat) : Int))]), (16, .p false [.c (.int .i64 ((i25 : Nat) : Int))]), (17, .p false [.c (.int .i64 n_1)]), (18, .p false [.c (.bool (decide (((i25 : Nat) : Int) < n_1)))])] [.box 52 [.c (.str r_0.name), .c (.int .i64 r_0.priority), .c (.sl 99 5 (List.map eCond r_0.cond)), .c (.sl 62 3 (List.map eAction r_0.thn))], .row 9 1 (List.map eStr row_30) 2, .row 9 1 (List.map eStr v27) 2] st) [] [0, 1, 370] (by decide) ?_ ?_ ?_
        · simp only [go_sem, qa, qb, qc, qd, qe, qf, qg, qh, qi, qj, qk, reduceCtorEq, reduceIte, IV, sts_cons, sts_nil, obs_cons, obs_nil, hx2, lt_t hx2, lt_p hx2, nat_in (lt_n hx2) hlhx2, c6, c7, g5_1, g5_2, g5_5, g5_6, og5_0, og5_1]
        · rintro i34 x35 row_30 ⟨sl, ob, n⟩ y9 hx10 hI11 hW12 h hy9
          simp only [IV, sts_cons, sts_nil, obs_cons, obs_nil, and_true, true_and, Nat.reduceAdd, str_len] at hI11
          obtain ⟨⟨g13_1, g13_2, g13_5, g13_6, g13_7, g13_8, g13_16, g13_17, g13_18⟩, og13_0, og13_1, og13_2, hn⟩ := hI11
          subst hn
          have hlhx10 := WF.rowL hW12 og13_2
          try simp only [go_sem, qa, qb, qc, qd, qe, qf, qg, qh, qi, qj, qk, reduceCtorEq, reduceIte, hx2, lt_t hx2, lt_p hx2, nat_in (lt_n hx2) hlhx2, c6, c7, hx10, lt_t hx10, lt_p hx10, nat_in (lt_n hx10) hlhx10, g13_1, g13_2, g13_5, g13_6, g13_7, g13_8, g13_16, g13_17, g13_18, og13_0, og13_1, og13_2]
          obtain ⟨v36, e14, h⟩ := bind_K h
          refine call_K (by first | exact s_l1Put_ok e14 | simpa only [go_sem, qa, qb, qc, qd, qe, qf, qg, qh, qi, qj, qk, reduceCtorEq, reduceIte, hx2, lt_t hx2, lt_p hx2, nat_in (lt_n hx2) hlhx2, c6, c7, hx10, lt_t hx10, lt_p hx10, nat_in (lt_n hx10) hlhx10, g13_1, g13_2, g13_5, g13_6, g13_7, g13_8, g13_16, g13_17, g13_18, og13_0, og13_1, og13_2] using s_l1Put_ok e14) ?_
          try simp only [go_sem, qa, qb, qc, qd, qe, qf, qg, qh, qi, qj, qk, reduceCtorEq, reduceIte, hx2, lt_t hx2, lt_p hx2, nat_in (lt_n hx2) hlhx2, c6, c7, hx10, lt_t hx10, lt_p hx10, nat_in (lt_n hx10) hlhx10, g13_1, g13_2, g13_5, g13_6, g13_7, g13_8, g13_16, g13_17, g13_18, og13_0, og13_1, og13_2]
          refine ⟨_, [], [0, 147, 2], (Option.some.inj h).symm, by decide, ?_⟩
          try simp only [go_sem, qa, qb, qc, qd, qe, qf, qg, qh, qi, qj, qk, reduceCtorEq, reduceIte, hx2, lt_t hx2, lt_p hx2, nat_in (lt_n hx2) hlhx2, c6, c7, hx10, lt_t hx10, lt_p hx10, nat_in (lt_n hx10) hlhx10, g13_1, g13_2, g13_5, g13_6, g13_7, g13_8, g13_16, g13_17, g13_18, og13_0, og13_1, og13_2, IV, sts_cons, sts_nil, obs_cons, obs_nil]
        · rintro row_30 ⟨sl, ob, n⟩ hI15 hW16 h
          simp only [IV, sts_cons, sts_nil, obs_cons, obs_nil, and_true, true_and, Nat.reduceAdd, str_len] at hI15
          obtain ⟨⟨g17_1, g17_2, g17_5, g17_6, g17_7, g17_8, g17_16, g17_17, g17_18⟩, og17_0, og17_1, og17_2, hn⟩ := hI15
          subst hn
          try simp only [go_sem, qa, qb, qc, qd, qe, qf, qg, qh, qi, qj, qk, reduceCtorEq, reduceIte, hx2, lt_t hx2, lt_p hx2, nat_in (lt_n hx2) hlhx2, c6, c7, lt_f (v27.length), g17_1, g17_2, g17_5, g17_6, g17_7, g17_8, g17_16, g17_17, g17_18, og17_0, og17_1, og17_2]
          refine ⟨_, [], [0, 1], (Option.some.inj h).symm, by decide, ?_⟩
          try simp only [go_sem, qa, qb, qc, qd, qe, qf, qg, qh, qi, qj, qk, reduceCtorEq, reduceIte, hx2, lt_t hx2, lt_p hx2, nat_in (lt_n hx2) hlhx2, c6, c7, lt_f (v27.length), g17_1, g17_2, g17_5, g17_6, g17_7, g17_8, g17_16, g17_17, g17_18, og17_0, og17_1, og17_2, IV, sts_cons, sts_nil, obs_cons, obs_nil]
      · try simp only [go_sem, qa, qb, qc, qd, qe, qf, qg, qh, qi, qj, qk, reduceCtorEq, reduceIte, hx2, lt_t hx2, lt_p hx2, nat_in (lt_n hx2) hlhx2, c6, c7, g5_1, g5_2, g5_5, g5_6, og5_0, og5_1]
        refine ⟨_, [], [0, 1], (Option.some.inj h).symm, by decide, ?_⟩
        try simp only [go_sem, qa, qb, qc, qd, qe, qf, qg, qh, qi, qj, qk, reduceCtorEq, reduceIte, hx2, lt_t hx2, lt_p hx2, nat_in (lt_n hx2) hlhx2, c6, c7, g5_1, g5_2, g5_5, g5_6, og5_0, og5_1, IV, sts_cons, sts_nil, obs_cons, obs_nil]
    · replace h := inr_K h hy1
      obtain rfl := Option.some.inj h
      try simp only [go_sem, qa, qb, qc, qd, qe, qf, qg, qh, qi, qj, qk, reduceCtorEq, reduceIte, hx2, lt_t hx2, lt_p hx2, nat_in (lt_n hx2) hlhx2, c6, g5_1, g5_2, g5_5, g5_6, og5_0, og5_1]
  · rintro row_12 ⟨sl, ob, n⟩ hI18 hW19 h
    simp only [IV, sts_cons, sts_nil, obs_cons, obs_nil, and_true, true_and, Nat.reduceAdd, str_len] at hI18
    obtain ⟨⟨g20_1, g20_2, g20_5, g20_6⟩, og20_0, og20_1, hn⟩ := hI18
    subst hn
    obtain rfl := Option.some.inj h
    try simp only [go_sem, qa, qb, qc, qd, qe, qf, qg, qh, qi, qj, qk, reduceCtorEq, reduceIte, lt_f (r_0.cond.length), g20_1, g20_2, g20_5, g20_6, og20_0, og20_1]
theorem s_IsPattern_ok {p_0 : PatternD} {r : Bool} (h : s_IsPattern p_0 = some r) : Sound Tryz.prog J0 54 [(true, ePattern p_0)] [(false, [(false, .bool r)])] := by
  refine fnk Tryz.func54 (by kernel_rfl) rfl (by kernel_rfl) (by kernel_rfl) ?_
  unfold s_IsPattern at h
  simp only [fnS, f54, argSt, go_sem, qa, qb, qc, qd, qe, qf, qg, qh, qi, qj, qk, reduceCtorEq, reduceIte]
  refine swp_for h (fun i _ st => IV [(1, .bp 0 0), (3, .p false [.c (.int .i64 ((i : Nat) : Int))])] [.box 60 [.c (.str p_0.rel), .c (.sl 9 1 (List.map eStr p_0.args))]] st) [] [0] (by decide) ?_ ?_ ?_
  · simp only [go_sem, qa, qb, qc, qd, qe, qf, qg, qh, qi, qj, qk, reduceCtorEq, reduceIte, IV, sts_cons, sts_nil, obs_cons, obs_nil]
  · rintro i7 x8 ⟨⟩ ⟨sl, ob, n⟩ y1 hx2 hI3 hW4 h hy1
    simp only [IV, sts_cons, sts_nil, obs_cons, obs_nil, and_true, true_and, Nat.reduceAdd, str_len] at hI3
    obtain ⟨⟨g5_1, g5_3⟩, og5_0, hn⟩ := hI3
    subst hn
    have hlhx2 := WF.boxL hW4 og5_0 (j := 1) rfl
    try simp only [go_sem, qa, qb, qc, qd, qe, qf, qg, qh, qi, qj, qk, reduceCtorEq, reduceIte, hx2, lt_t hx2, lt_p hx2, nat_in (lt_n hx2) hlhx2, g5_1, g5_3, og5_0]
    obtain ⟨v9, e6, h⟩ := bind_K h
    refine call_K (by first | exact s_IsTerm_ok e6 | simpa only [go_sem, qa, qb, qc, qd, qe, qf, qg, qh, qi, qj, qk, reduceCtorEq, reduceIte, hx2, lt_t hx2, lt_p hx2, nat_in (lt_n hx2) hlhx2, g5_1, g5_3, og5_0] using s_IsTerm_ok e6) ?_
    try simp only [go_sem, qa, qb, qc, qd, qe, qf, qg, qh, qi, qj, qk, reduceCtorEq, reduceIte, hx2, lt_t hx2, lt_p hx2, nat_in (lt_n hx2) hlhx2, g5_1, g5_3, og5_0]
    refine ite_K h (fun c7 h => ?_) (fun c7 h => ?_)
    · try simp only [go_sem, qa, qb, qc, qd, qe, qf, qg, qh, qi, qj, qk, reduceCtorEq, reduceIte, hx2, lt_t hx2, lt_p hx2, nat_in (lt_n hx2) hlhx2, c7, g5_1, g5_3, og5_0]
      refine ⟨_, [], [0], (Option.some.inj h).symm, by decide, ?_⟩
      try simp only [go_sem, qa, qb, qc, qd, qe, qf, qg, qh, qi, qj, qk, reduceCtorEq, reduceIte, hx2, lt_t hx2, lt_p hx2, nat_in (lt_n hx2) hlhx2, c7, g5_1, g5_3, og5_0, IV, sts_cons, sts_nil, obs_cons, obs_nil]
    · replace h := inr_K h hy1
      obtain rfl := Option.some.inj h
      try simp only [go_sem, qa, qb, qc, qd, qe, qf, qg, qh, qi, qj, qk, reduceCtorEq, reduceIte, hx2, lt_t hx2, lt_p hx2, nat_in (lt_n hx2) hlhx2, c7, g5_1, g5_3, og5_0]
  · rintro ⟨⟩ ⟨sl, ob, n⟩ hI8 hW9 h
    simp only [IV, sts_cons, sts_nil, obs_cons, obs_nil, and_true, true_and, Nat.reduceAdd, str_len] at hI8
    obtain ⟨⟨g10_1, g10_3⟩, og10_0, hn⟩ := hI8
    subst hn
    try simp only [go_sem, qa, qb, qc, qd, qe, qf, qg, qh, qi, qj, qk, reduceCtorEq, reduceIte, lt_f (p_0.args.length), g10_1, g10_3, og10_0]
    obtain ⟨v10, e11, h⟩ := bind_K h
    refine call_K (by first | exact s_IsName_ok e11 | simpa only [go_sem, qa, qb, qc, qd, qe, qf, qg, qh, qi, qj, qk, reduceCtorEq, reduceIte, lt_f (p_0.args.length), g10_1, g10_3, og10_0] using s_IsName_ok e11) ?_
    try simp only [go_sem, qa, qb, qc, qd, qe, qf, qg, qh, qi, qj, qk, reduceCtorEq, reduceIte, lt_f (p_0.args.length), g10_1, g10_3, og10_0]
    refine ite_K h (fun c12 h => ?_) (fun c12 h => ?_)
    · obtain rfl := Option.some.inj h
      try simp only [go_sem, qa, qb, qc, qd, qe, qf, qg, qh, qi, qj, qk, reduceCtorEq, reduceIte, lt_f (p_0.args.length), c12, g10_1, g10_3, og10_0]
    · obtain rfl := Option.some.inj h
      try simp only [go_sem, qa, qb, qc, qd, qe, qf, qg, qh, qi, qj, qk, reduceCtorEq, reduceIte, lt_f (p_0.args.length), c12, g10_1, g10_3, og10_0]
theorem s_CondVars_ok {x_0 : CondD} {r : (List ByteArray)} (h : s_CondVars x_0 = some r) : Sound Tryz.prog J0 97 [(true, eCond x_0)] [(false, [(false, .sl 9 1 (List.map eStr r))])] := by
  refine fnk Tryz.func97 (by kernel_rfl) rfl (by kernel_rfl) (by kernel_rfl) ?_
  unfold s_CondVars at h
  simp only [fnS, f97, argSt, go_sem, qa, qb, qc, qd, qe, qf, qg, qh, qi, qj, qk, reduceCtorEq, reduceIte]
  obtain ⟨v1, e1, h⟩ := bind_K h
  refine call_K (by first | exact s_VarsOf_ok e1 | simpa only [go_sem, qa, qb, qc, qd, qe, qf, qg, qh, qi, qj, qk, reduceCtorEq, reduceIte] using s_VarsOf_ok e1) ?_
  try simp only [go_sem, qa, qb, qc, qd, qe, qf, qg, qh, qi, qj, qk, reduceCtorEq, reduceIte]
  obtain ⟨v2, e2, h⟩ := bind_K h
  refine call_K (by first | exact s_IsVar_ok e2 | simpa only [go_sem, qa, qb, qc, qd, qe, qf, qg, qh, qi, qj, qk, reduceCtorEq, reduceIte] using s_IsVar_ok e2) ?_
  try simp only [go_sem, qa, qb, qc, qd, qe, qf, qg, qh, qi, qj, qk, reduceCtorEq, reduceIte]
  refine ite_K h (fun c3 h => ?_) (fun c3 h => ?_)
  · try simp only [go_sem, qa, qb, qc, qd, qe, qf, qg, qh, qi, qj, qk, reduceCtorEq, reduceIte, c3]
    obtain ⟨v3, e4, h⟩ := bind_K h
    refine call_K (by first | exact s_l1Put_ok e4 | simpa only [go_sem, qa, qb, qc, qd, qe, qf, qg, qh, qi, qj, qk, reduceCtorEq, reduceIte, c3] using s_l1Put_ok e4) ?_
    try simp only [go_sem, qa, qb, qc, qd, qe, qf, qg, qh, qi, qj, qk, reduceCtorEq, reduceIte, c3]
    obtain ⟨v4, e5, h⟩ := bind_K h
    refine call_K (by first | exact s_IsVar_ok e5 | simpa only [go_sem, qa, qb, qc, qd, qe, qf, qg, qh, qi, qj, qk, reduceCtorEq, reduceIte, c3] using s_IsVar_ok e5) ?_
    try simp only [go_sem, qa, qb, qc, qd, qe, qf, qg, qh, qi, qj, qk, reduceCtorEq, reduceIte, c3]
    refine ite_K h (fun c6 h => ?_) (fun c6 h => ?_)
    · try simp only [go_sem, qa, qb, qc, qd, qe, qf, qg, qh, qi, qj, qk, reduceCtorEq, reduceIte, c3, c6]
      obtain ⟨v5, e7, h⟩ := bind_K h
      refine call_K (by first | exact s_l1Put_ok e7 | simpa only [go_sem, qa, qb, qc, qd, qe, qf, qg, qh, qi, qj, qk, reduceCtorEq, reduceIte, c3, c6] using s_l1Put_ok e7) ?_
      obtain rfl := Option.some.inj h
      try simp only [go_sem, qa, qb, qc, qd, qe, qf, qg, qh, qi, qj, qk, reduceCtorEq, reduceIte, c3, c6]
    · obtain rfl := Option.some.inj h
      try simp only [go_sem, qa, qb, qc, qd, qe, qf, qg, qh, qi, qj, qk, reduceCtorEq, reduceIte, c3, c6]
  · try simp only [go_sem, qa, qb, qc, qd, qe, qf, qg, qh, qi, qj, qk, reduceCtorEq, reduceIte, c3]
    obtain ⟨v6, e8, h⟩ := bind_K h
    refine call_K (by first | exact s_IsVar_ok e8 | simpa only [go_sem, qa, qb, qc, qd, qe, qf, qg, qh, qi, qj, qk, reduceCtorEq, reduceIte, c3] using s_IsVar_ok e8) ?_
    try simp only [go_sem, qa, qb, qc, qd, qe, qf, qg, qh, qi, qj, qk, reduceCtorEq, reduceIte, c3]
    refine ite_K h (fun c9 h => ?_) (fun c9 h => ?_)
    · try simp only [go_sem, qa, qb, qc, qd, qe, qf, qg, qh, qi, qj, qk, reduceCtorEq, reduceIte, c3, c9]
      obtain ⟨v7, e10, h⟩ := bind_K h
      refine call_K (by first | exact s_l1Put_ok e10 | simpa only [go_sem, qa, qb, qc, qd, qe, qf, qg, qh, qi, qj, qk, reduceCtorEq, reduceIte, c3, c9] using s_l1Put_ok e10) ?_
      obtain rfl := Option.some.inj h
      try simp only [go_sem, qa, qb, qc, qd, qe, qf, qg, qh, qi, qj, qk, reduceCtorEq, reduceIte, c3, c9]
    · obtain rfl := Option.some.inj h
      try simp only [go_sem, qa, qb, qc, qd, qe, qf, qg, qh, qi, qj, qk, reduceCtorEq, reduceIte, c3, c9]
theorem s_AreFacts_ok {l_0 : (List FactD)} {r : Bool} (h : s_AreFacts l_0 = some r) : Sound Tryz.prog J0 25 [(false, [.sl 57 2 (List.map eFact l_0)])] [(false, [(false, .bool r)])] := by
  refine fnk Tryz.func25 (by kernel_rfl) rfl (by kernel_rfl) (by kernel_rfl) ?_
  unfold s_AreFacts at h
  simp only [fnS, f25, argSt, go_sem, qa, qb, qc, qd, qe, qf, qg, qh, qi, qj, qk, reduceCtorEq, reduceIte]
  refine swp_for h (fun i _ st => IV [(0, .p false [.c (.sl 57 2 (List.map eFact l_0))]), (3, .p false [.c (.int .i64 ((i : Nat) : Int))])] [] st) [] [] (by decide) ?_ ?_ ?_
  · simp only [go_sem, qa, qb, qc, qd, qe, qf, qg, qh, qi, qj, qk, reduceCtorEq, reduceIte, IV, sts_cons, sts_nil, obs_cons, obs_nil]
  · rintro i8 x9 ⟨⟩ ⟨sl, ob, n⟩ y1 hx2 hI3 hW4 h hy1
    simp only [IV, sts_cons, sts_nil, obs_cons, obs_nil, and_true, true_and, Nat.reduceAdd, str_len] at hI3
    obtain ⟨⟨g5_0, g5_3⟩, hn⟩ := hI3
    subst hn
    have hlhx2 := WF.slotL hW4 g5_0 (j := 0) rfl
    try simp only [go_sem, qa, qb, qc, qd, qe, qf, qg, qh, qi, qj, qk, reduceCtorEq, reduceIte, hx2, lt_t hx2, lt_p hx2, nat_in (lt_n hx2) hlhx2, g5_0, g5_3]
    obtain ⟨v10, e6, h⟩ := bind_K h
    refine call_K (by first | exact s_IsFact_ok e6 | simpa only [go_sem, qa, qb, qc, qd, qe, qf, qg, qh, qi, qj, qk, reduceCtorEq, reduceIte, hx2, lt_t hx2, lt_p hx2, nat_in (lt_n hx2) hlhx2, g5_0, g5_3] using s_IsFact_ok e6) ?_
    try simp only [go_sem, qa, qb, qc, qd, qe, qf, qg, qh, qi, qj, qk, reduceCtorEq, reduceIte, hx2, lt_t hx2, lt_p hx2, nat_in (lt_n hx2) hlhx2, g5_0, g5_3]
    refine ite_K h (fun c7 h => ?_) (fun c7 h => ?_)
    · try simp only [go_sem, qa, qb, qc, qd, qe, qf, qg, qh, qi, qj, qk, reduceCtorEq, reduceIte, hx2, lt_t hx2, lt_p hx2, nat_in (lt_n hx2) hlhx2, c7, g5_0, g5_3]
      refine ite_K h (fun c8 h => ?_) (fun c8 h => ?_)
      · obtain ⟨x11, a9, a10, e11, h⟩ := at_K h
        try simp only [go_sem, qa, qb, qc, qd, qe, qf, qg, qh, qi, qj, qk, reduceCtorEq, reduceIte, hx2, lt_t hx2, lt_p hx2, nat_in (lt_n hx2) hlhx2, c7, c8, a9, a10, e11, g5_0, g5_3]
        obtain ⟨v12, e12, h⟩ := bind_K h
        refine call_K (by first | exact s_CompareFacts_ok e12 | simpa only [go_sem, qa, qb, qc, qd, qe, qf, qg, qh, qi, qj, qk, reduceCtorEq, reduceIte, hx2, lt_t hx2, lt_p hx2, nat_in (lt_n hx2) hlhx2, c7, c8, a9, a10, e11, g5_0, g5_3] using s_CompareFacts_ok e12) ?_
        try simp only [go_sem, qa, qb, qc, qd, qe, qf, qg, qh, qi, qj, qk, reduceCtorEq, reduceIte, hx2, lt_t hx2, lt_p hx2, nat_in (lt_n hx2) hlhx2, c7, c8, a9, a10, e11, g5_0, g5_3]
        refine ite_K h (fun c13 h => ?_) (fun c13 h => ?_)
        · replace h := inr_K h hy1
          obtain rfl := Option.some.inj h
          try simp only [go_sem, qa, qb, qc, qd, qe, qf, qg, qh, qi, qj, qk, reduceCtorEq, reduceIte, hx2, lt_t hx2, lt_p hx2, nat_in (lt_n hx2) hlhx2, c7, c8, a9, a10, e11, c13, g5_0, g5_3]
        · try simp only [go_sem, qa, qb, qc, qd, qe, qf, qg, qh, qi, qj, qk, reduceCtorEq, reduceIte, hx2, lt_t hx2, lt_p hx2, nat_in (lt_n hx2) hlhx2, c7, c8, a9, a10, e11, c13, g5_0, g5_3]
          refine ⟨_, [], [], (Option.some.inj h).symm, by decide, ?_⟩
          try simp only [go_sem, qa, qb, qc, qd, qe, qf, qg, qh, qi, qj, qk, reduceCtorEq, reduceIte, hx2, lt_t hx2, lt_p hx2, nat_in (lt_n hx2) hlhx2, c7, c8, a9, a10, e11, c13, g5_0, g5_3, IV, sts_cons, sts_nil, obs_cons, obs_nil]
      · try simp only [go_sem, qa, qb, qc, qd, qe, qf, qg, qh, qi, qj, qk, reduceCtorEq, reduceIte, hx2, lt_t hx2, lt_p hx2, nat_in (lt_n hx2) hlhx2, c7, c8, g5_0, g5_3]
        refine ⟨_, [], [], (Option.some.inj h).symm, by decide, ?_⟩
        try simp only [go_sem, qa, qb, qc, qd, qe, qf, qg, qh, qi, qj, qk, reduceCtorEq, reduceIte, hx2, lt_t hx2, lt_p hx2, nat_in (lt_n hx2) hlhx2, c7, c8, g5_0, g5_3, IV, sts_cons, sts_nil, obs_cons, obs_nil]
    · replace h := inr_K h hy1
      obtain rfl := Option.some.inj h
      try simp only [go_sem, qa, qb, qc, qd, qe, qf, qg, qh, qi, qj, qk, reduceCtorEq, reduceIte, hx2, lt_t hx2, lt_p hx2, nat_in (lt_n hx2) hlhx2, c7, g5_0, g5_3]
  · rintro ⟨⟩ ⟨sl, ob, n⟩ hI14 hW15 h
    simp only [IV, sts_cons, sts_nil, obs_cons, obs_nil, and_true, true_and, Nat.reduceAdd, str_len] at hI14
    obtain ⟨⟨g16_0, g16_3⟩, hn⟩ := hI14
    subst hn
    obtain rfl := Option.some.inj h
    try simp only [go_sem, qa, qb, qc, qd, qe, qf, qg, qh, qi, qj, qk, reduceCtorEq, reduceIte, lt_f (l_0.length), g16_0, g16_3]
theorem s_Extend_ok {b_0 : (List PairD)} {v_1 : ByteArray} {value_2 : ByteArray} {r : ((List PairD) × Bool)} (h : s_Extend b_0 v_1 value_2 = some r) : Sound Tryz.prog J0 153 [(false, [.sl 119 2 (List.map ePair b_0)]), (false, [.str v_1]), (false, [.str value_2])] [(false, [(false, .sl 119 2 (List.map ePair r.1))]), (false, [(false, .bool r.2)])] := by
  refine fnk Tryz.func153 (by kernel_rfl) rfl (by kernel_rfl) (by kernel_rfl) ?_
  unfold s_Extend at h
  simp only [fnS, f153, argSt, go_sem, qa, qb, qc, qd, qe, qf, qg, qh, qi, qj, qk, reduceCtorEq, reduceIte]
  obtain ⟨v1, e1, h⟩ := bind_K h
  refine call_K (by first | exact s_IsBinding_ok e1 | simpa only [go_sem, qa, qb, qc, qd, qe, qf, qg, qh, qi, qj, qk, reduceCtorEq, reduceIte] using s_IsBinding_ok e1) ?_
  try simp only [go_sem, qa, qb, qc, qd, qe, qf, qg, qh, qi, qj, qk, reduceCtorEq, reduceIte]
  refine ite_K h (fun c2 h => ?_) (fun c2 h => ?_)
  · try simp only [go_sem, qa, qb, qc, qd, qe, qf, qg, qh, qi, qj, qk, reduceCtorEq, reduceIte, c2]
    obtain ⟨v2, e3, h⟩ := bind_K h
    refine call_K (by first | exact s_IsVar_ok e3 | simpa only [go_sem, qa, qb, qc, qd, qe, qf, qg, qh, qi, qj, qk, reduceCtorEq, reduceIte, c2] using s_IsVar_ok e3) ?_
    try simp only [go_sem, qa, qb, qc, qd, qe, qf, qg, qh, qi, qj, qk, reduceCtorEq, reduceIte, c2]
    refine ite_K h (fun c4 h => ?_) (fun c4 h => ?_)
    · try simp only [go_sem, qa, qb, qc, qd, qe, qf, qg, qh, qi, qj, qk, reduceCtorEq, reduceIte, c2, c4]
      obtain ⟨v3, e5, h⟩ := bind_K h
      refine call_K (by first | exact s_IsAtom_ok e5 | simpa only [go_sem, qa, qb, qc, qd, qe, qf, qg, qh, qi, qj, qk, reduceCtorEq, reduceIte, c2, c4] using s_IsAtom_ok e5) ?_
      try simp only [go_sem, qa, qb, qc, qd, qe, qf, qg, qh, qi, qj, qk, reduceCtorEq, reduceIte, c2, c4]
      refine ite_K h (fun c6 h => ?_) (fun c6 h => ?_)
      · try simp only [go_sem, qa, qb, qc, qd, qe, qf, qg, qh, qi, qj, qk, reduceCtorEq, reduceIte, c2, c4, c6]
        obtain ⟨v4, e7, h⟩ := bind_K h
        refine call_K (by first | exact s_ValueOf_ok e7 | simpa only [go_sem, qa, qb, qc, qd, qe, qf, qg, qh, qi, qj, qk, reduceCtorEq, reduceIte, c2, c4, c6] using s_ValueOf_ok e7) ?_
        try simp only [go_sem, qa, qb, qc, qd, qe, qf, qg, qh, qi, qj, qk, reduceCtorEq, reduceIte, c2, c4, c6]
        refine ite_K h (fun c8 h => ?_) (fun c8 h => ?_)
        · try simp only [go_sem, qa, qb, qc, qd, qe, qf, qg, qh, qi, qj, qk, reduceCtorEq, reduceIte, c2, c4, c6, c8]
          refine ite_K h (fun c9 h => ?_) (fun c9 h => ?_)
          · try simp only [go_sem, qa, qb, qc, qd, qe, qf, qg, qh, qi, qj, qk, reduceCtorEq, reduceIte, c2, c4, c6, c8, c9]
            obtain ⟨v5, e10, h⟩ := bind_K h
            refine call_K (by first | exact s_l3Copy_ok e10 | simpa only [go_sem, qa, qb, qc, qd, qe, qf, qg, qh, qi, qj, qk, reduceCtorEq, reduceIte, c2, c4, c6, c8, c9] using s_l3Copy_ok e10) ?_
            obtain rfl := Option.some.inj h
            try simp only [go_sem, qa, qb, qc, qd, qe, qf, qg, qh, qi, qj, qk, reduceCtorEq, reduceIte, c2, c4, c6, c8, c9]
          · obtain rfl := Option.some.inj h
            try simp only [go_sem, qa, qb, qc, qd, qe, qf, qg, qh, qi, qj, qk, reduceCtorEq, reduceIte, c2, c4, c6, c8, c9]
        · try simp only [go_sem, qa, qb, qc, qd, qe, qf, qg, qh, qi, qj, qk, reduceCtorEq, reduceIte, c2, c4, c6, c8]
          refine ite_K h (fun c11 h => ?_) (fun c11 h => ?_)
          · obtain rfl := Option.some.inj h
            try simp only [go_sem, qa, qb, qc, qd, qe, qf, qg, qh, qi, qj, qk, reduceCtorEq, reduceIte, c2, c4, c6, c8, c11]
          · try simp only [go_sem, qa, qb, qc, qd, qe, qf, qg, qh, qi, qj, qk, reduceCtorEq, reduceIte, c2, c4, c6, c8, c11]
            obtain ⟨v6, e12, h⟩ := bind_K h
            refine call_K (by first | exact s_l3Set_ok e12 | simpa only [go_sem, qa, qb, qc, qd, qe, qf, qg, qh, qi, qj, qk, reduceCtorEq, reduceIte, c2, c4, c6, c8, c11] using s_l3Set_ok e12) ?_
            obtain rfl := Option.some.inj h
            try simp only [go_sem, qa, qb, qc, qd, qe, qf, qg, qh, qi, qj, qk, reduceCtorEq, reduceIte, c2, c4, c6, c8, c11]
      · obtain rfl := Option.some.inj h
        try simp only [go_sem, qa, qb, qc, qd, qe, qf, qg, qh, qi, qj, qk, reduceCtorEq, reduceIte, c2, c4, c6]
    · obtain rfl := Option.some.inj h
      try simp only [go_sem, qa, qb, qc, qd, qe, qf, qg, qh, qi, qj, qk, reduceCtorEq, reduceIte, c2, c4]
  · obtain rfl := Option.some.inj h
    try simp only [go_sem, qa, qb, qc, qd, qe, qf, qg, qh, qi, qj, qk, reduceCtorEq, reduceIte, c2]
theorem i_IsCond_ok {x_0 : CondD} {r : Bool} (h : i_IsCond x_0 = some r) : Sound Tryz.prog J0 109 [(true, eCond x_0)] [(false, [(false, .bool r)])] := by
  refine fnk Tryz.func109 (by kernel_rfl) rfl (by kernel_rfl) (by kernel_rfl) ?_
  unfold i_IsCond at h
  have ks0 : strOk ⟨#[]⟩ = true := by decide
  simp only [fnS, f109, argSt, go_sem, qa, qb, qc, qd, qe, qf, qg, qh, qi, qj, qk, reduceCtorEq, reduceIte, ks0]
  refine ite_K h (fun c1 h => ?_) (fun c1 h => ?_)
  · try simp only [go_sem, qa, qb, qc, qd, qe, qf, qg, qh, qi, qj, qk, reduceCtorEq, reduceIte, ks0, c1]
    obtain ⟨v1, e2, h⟩ := bind_K h
    refine call_K (by first | exact i_IsPattern_ok e2 | simpa only [go_sem, qa, qb, qc, qd, qe, qf, qg, qh, qi, qj, qk, reduceCtorEq, reduceIte, ks0, c1] using i_IsPattern_ok e2) ?_
    try simp only [go_sem, qa, qb, qc, qd, qe, qf, qg, qh, qi, qj, qk, reduceCtorEq, reduceIte, ks0, c1]
    refine ite_K h (fun c3 h => ?_) (fun c3 h => ?_)
    · try simp only [go_sem, qa, qb, qc, qd, qe, qf, qg, qh, qi, qj, qk, reduceCtorEq, reduceIte, ks0, c1, c3]
      refine ite_K h (fun c4 h => ?_) (fun c4 h => ?_)
      · obtain rfl := Option.some.inj h
        try simp only [go_sem, qa, qb, qc, qd, qe, qf, qg, qh, qi, qj, qk, reduceCtorEq, reduceIte, ks0, c1, c3, c4]
      · obtain rfl := Option.some.inj h
        try simp only [go_sem, qa, qb, qc, qd, qe, qf, qg, qh, qi, qj, qk, reduceCtorEq, reduceIte, ks0, c1, c3, c4]
    · obtain rfl := Option.some.inj h
      try simp only [go_sem, qa, qb, qc, qd, qe, qf, qg, qh, qi, qj, qk, reduceCtorEq, reduceIte, ks0, c1, c3]
  · try simp only [go_sem, qa, qb, qc, qd, qe, qf, qg, qh, qi, qj, qk, reduceCtorEq, reduceIte, ks0, c1]
    refine ite_K h (fun c5 h => ?_) (fun c5 h => ?_)
    · try simp only [go_sem, qa, qb, qc, qd, qe, qf, qg, qh, qi, qj, qk, reduceCtorEq, reduceIte, ks0, c1, c5]
      obtain ⟨v2, e6, h⟩ := bind_K h
      refine call_K (by first | exact i_IsPattern_ok e6 | simpa only [go_sem, qa, qb, qc, qd, qe, qf, qg, qh, qi, qj, qk, reduceCtorEq, reduceIte, ks0, c1, c5] using i_IsPattern_ok e6) ?_
      try simp only [go_sem, qa, qb, qc, qd, qe, qf, qg, qh, qi, qj, qk, reduceCtorEq, reduceIte, ks0, c1, c5]
      refine ite_K h (fun c7 h => ?_) (fun c7 h => ?_)
      · try simp only [go_sem, qa, qb, qc, qd, qe, qf, qg, qh, qi, qj, qk, reduceCtorEq, reduceIte, ks0, c1, c5, c7]
        refine ite_K h (fun c8 h => ?_) (fun c8 h => ?_)
        · obtain rfl := Option.some.inj h
          try simp only [go_sem, qa, qb, qc, qd, qe, qf, qg, qh, qi, qj, qk, reduceCtorEq, reduceIte, ks0, c1, c5, c7, c8]
        · obtain rfl := Option.some.inj h
          try simp only [go_sem, qa, qb, qc, qd, qe, qf, qg, qh, qi, qj, qk, reduceCtorEq, reduceIte, ks0, c1, c5, c7, c8]
      · obtain rfl := Option.some.inj h
        try simp only [go_sem, qa, qb, qc, qd, qe, qf, qg, qh, qi, qj, qk, reduceCtorEq, reduceIte, ks0, c1, c5, c7]
    · try simp only [go_sem, qa, qb, qc, qd, qe, qf, qg, qh, qi, qj, qk, reduceCtorEq, reduceIte, ks0, c1, c5]
      refine ite_K h (fun c9 h => ?_) (fun c9 h => ?_)
      · try simp only [go_sem, qa, qb, qc, qd, qe, qf, qg, qh, qi, qj, qk, reduceCtorEq, reduceIte, ks0, c1, c5, c9]
        obtain ⟨v3, e10, h⟩ := bind_K h
        refine call_K (by first | exact i_IsTerm_ok e10 | simpa only [go_sem, qa, qb, qc, qd, qe, qf, qg, qh, qi, qj, qk, reduceCtorEq, reduceIte, ks0, c1, c5, c9] using i_IsTerm_ok e10) ?_
        try simp only [go_sem, qa, qb, qc, qd, qe, qf, qg, qh, qi, qj, qk, reduceCtorEq, reduceIte, ks0, c1, c5, c9]
        refine ite_K h (fun c11 h => ?_) (fun c11 h => ?_)
        · try simp only [go_sem, qa, qb, qc, qd, qe, qf, qg, qh, qi, qj, qk, reduceCtorEq, reduceIte, ks0, c1, c5, c9, c11]
          obtain ⟨v4, e12, h⟩ := bind_K h
          refine call_K (by first | exact i_IsTerm_ok e12 | simpa only [go_sem, qa, qb, qc, qd, qe, qf, qg, qh, qi, qj, qk, reduceCtorEq, reduceIte, ks0, c1, c5, c9, c11] using i_IsTerm_ok e12) ?_
          try simp only [go_sem, qa, qb, qc, qd, qe, qf, qg, qh, qi, qj, qk, reduceCtorEq, reduceIte, ks0, c1, c5, c9, c11]
          refine ite_K h (fun c13 h => ?_) (fun c13 h => ?_)
          · try simp only [go_sem, qa, qb, qc, qd, qe, qf, qg, qh, qi, qj, qk, reduceCtorEq, reduceIte, ks0, c1, c5, c9, c11, c13]
            obtain ⟨v5, e14, h⟩ := bind_K h
            refine call_K (by first | exact i_zeroPattern_ok e14 | simpa only [go_sem, qa, qb, qc, qd, qe, qf, qg, qh, qi, qj, qk, reduceCtorEq, reduceIte, ks0, c1, c5, c9, c11, c13] using i_zeroPattern_ok e14) ?_
            obtain rfl := Option.some.inj h
            try simp only [go_sem, qa, qb, qc, qd, qe, qf, qg, qh, qi, qj, qk, reduceCtorEq, reduceIte, ks0, c1, c5, c9, c11, c13]
          · obtain rfl := Option.some.inj h
            try simp only [go_sem, qa, qb, qc, qd, qe, qf, qg, qh, qi, qj, qk, reduceCtorEq, reduceIte, ks0, c1, c5, c9, c11, c13]
        · obtain rfl := Option.some.inj h
          try simp only [go_sem, qa, qb, qc, qd, qe, qf, qg, qh, qi, qj, qk, reduceCtorEq, reduceIte, ks0, c1, c5, c9, c11]
      · try simp only [go_sem, qa, qb, qc, qd, qe, qf, qg, qh, qi, qj, qk, reduceCtorEq, reduceIte, ks0, c1, c5, c9]
        refine ite_K h (fun c15 h => ?_) (fun c15 h => ?_)
        · try simp only [go_sem, qa, qb, qc, qd, qe, qf, qg, qh, qi, qj, qk, reduceCtorEq, reduceIte, ks0, c1, c5, c9, c15]
          obtain ⟨v6, e16, h⟩ := bind_K h
          refine call_K (by first | exact i_IsTerm_ok e16 | simpa only [go_sem, qa, qb, qc, qd, qe, qf, qg, qh, qi, qj, qk, reduceCtorEq, reduceIte, ks0, c1, c5, c9, c15] using i_IsTerm_ok e16) ?_
          try simp only [go_sem, qa, qb, qc, qd, qe, qf, qg, qh, qi, qj, qk, reduceCtorEq, reduceIte, ks0, c1, c5, c9, c15]
          refine ite_K h (fun c17 h => ?_) (fun c17 h => ?_)
          · try simp only [go_sem, qa, qb, qc, qd, qe, qf, qg, qh, qi, qj, qk, reduceCtorEq, reduceIte, ks0, c1, c5, c9, c15, c17]
            obtain ⟨v7, e18, h⟩ := bind_K h
            refine call_K (by first | exact i_IsTerm_ok e18 | simpa only [go_sem, qa, qb, qc, qd, qe, qf, qg, qh, qi, qj, qk, reduceCtorEq, reduceIte, ks0, c1, c5, c9, c15, c17] using i_IsTerm_ok e18) ?_
            try simp only [go_sem, qa, qb, qc, qd, qe, qf, qg, qh, qi, qj, qk, reduceCtorEq, reduceIte, ks0, c1, c5, c9, c15, c17]
            refine ite_K h (fun c19 h => ?_) (fun c19 h => ?_)
            · try simp only [go_sem, qa, qb, qc, qd, qe, qf, qg, qh, qi, qj, qk, reduceCtorEq, reduceIte, ks0, c1, c5, c9, c15, c17, c19]
              obtain ⟨v8, e20, h⟩ := bind_K h
              refine call_K (by first | exact i_zeroPattern_ok e20 | simpa only [go_sem, qa, qb, qc, qd, qe, qf, qg, qh, qi, qj, qk, reduceCtorEq, reduceIte, ks0, c1, c5, c9, c15, c17, c19] using i_zeroPattern_ok e20) ?_
              obtain rfl := Option.some.inj h
              try simp only [go_sem, qa, qb, qc, qd, qe, qf, qg, qh, qi, qj, qk, reduceCtorEq, reduceIte, ks0, c1, c5, c9, c15, c17, c19]
            · obtain rfl := Option.some.inj h
              try simp only [go_sem, qa, qb, qc, qd, qe, qf, qg, qh, qi, qj, qk, reduceCtorEq, reduceIte, ks0, c1, c5, c9, c15, c17, c19]
          · obtain rfl := Option.some.inj h
            try simp only [go_sem, qa, qb, qc, qd, qe, qf, qg, qh, qi, qj, qk, reduceCtorEq, reduceIte, ks0, c1, c5, c9, c15, c17]
        · try simp only [go_sem, qa, qb, qc, qd, qe, qf, qg, qh, qi, qj, qk, reduceCtorEq, reduceIte, ks0, c1, c5, c9, c15]
          refine ite_K h (fun c21 h => ?_) (fun c21 h => ?_)
          · try simp only [go_sem, qa, qb, qc, qd, qe, qf, qg, qh, qi, qj, qk, reduceCtorEq, reduceIte, ks0, c1, c5, c9, c15, c21]
            obtain ⟨v9, e22, h⟩ := bind_K h
            refine call_K (by first | exact i_IsTerm_ok e22 | simpa only [go_sem, qa, qb, qc, qd, qe, qf, qg, qh, qi, qj, qk, reduceCtorEq, reduceIte, ks0, c1, c5, c9, c15, c21] using i_IsTerm_ok e22) ?_
            try simp only [go_sem, qa, qb, qc, qd, qe, qf, qg, qh, qi, qj, qk, reduceCtorEq, reduceIte, ks0, c1, c5, c9, c15, c21]
            refine ite_K h (fun c23 h => ?_) (fun c23 h => ?_)
            · try simp only [go_sem, qa, qb, qc, qd, qe, qf, qg, qh, qi, qj, qk, reduceCtorEq, reduceIte, ks0, c1, c5, c9, c15, c21, c23]
              obtain ⟨v10, e24, h⟩ := bind_K h
              refine call_K (by first | exact i_IsTerm_ok e24 | simpa only [go_sem, qa, qb, qc, qd, qe, qf, qg, qh, qi, qj, qk, reduceCtorEq, reduceIte, ks0, c1, c5, c9, c15, c21, c23] using i_IsTerm_ok e24) ?_
              try simp only [go_sem, qa, qb, qc, qd, qe, qf, qg, qh, qi, qj, qk, reduceCtorEq, reduceIte, ks0, c1, c5, c9, c15, c21, c23]
              refine ite_K h (fun c25 h => ?_) (fun c25 h => ?_)
              · try simp only [go_sem, qa, qb, qc, qd, qe, qf, qg, qh, qi, qj, qk, reduceCtorEq, reduceIte, ks0, c1, c5, c9, c15, c21, c23, c25]
                obtain ⟨v11, e26, h⟩ := bind_K h
                refine call_K (by first | exact i_zeroPattern_ok e26 | simpa only [go_sem, qa, qb, qc, qd, qe, qf, qg, qh, qi, qj, qk, reduceCtorEq, reduceIte, ks0, c1, c5, c9, c15, c21, c23, c25] using i_zeroPattern_ok e26) ?_
                obtain rfl := Option.some.inj h
                try simp only [go_sem, qa, qb, qc, qd, qe, qf, qg, qh, qi, qj, qk, reduceCtorEq, reduceIte, ks0, c1, c5, c9, c15, c21, c23, c25]
              · obtain rfl := Option.some.inj h
                try simp only [go_sem, qa, qb, qc, qd, qe, qf, qg, qh, qi, qj, qk, reduceCtorEq, reduceIte, ks0, c1, c5, c9, c15, c21, c23, c25]
            · obtain rfl := Option.some.inj h
              try simp only [go_sem, qa, qb, qc, qd, qe, qf, qg, qh, qi, qj, qk, reduceCtorEq, reduceIte, ks0, c1, c5, c9, c15, c21, c23]
          · obtain rfl := Option.some.inj h
            try simp only [go_sem, qa, qb, qc, qd, qe, qf, qg, qh, qi, qj, qk, reduceCtorEq, reduceIte, ks0, c1, c5, c9, c15, c21]
end Go.Proofs.YtlkgkkacnoaeaaaGreatDoor

namespace Go.Proofs.YtlkgkkacnoaeaaaGreatDoor
open Go.Proofs.Tryz
open Int renaming reduceLT → qa, reduceLE → qb, reduceBEq → qc, reduceBNe → qd
open Nat renaming reduceBNe → qe, reduceAdd → qf, reduceMul → qg, reduceEqDiff → qh, reduceLeDiff → qi, reduceLT → qj, reduceBEq → qk
set_option linter.unusedSimpArgs false
set_option linter.unusedVariables false
set_option maxRecDepth 1000000
set_option maxHeartbeats 4000000
theorem s_MatchFact_ok {append_0 : PatternD} {String_1 : FactD} {a_2 : (List PairD)} {r : ((List PairD) × Bool)} (h : s_MatchFact append_0 String_1 a_2 = some r) : Sound Tryz.prog J0 132 [(true, ePattern append_0), (true, eFact String_1), (false, [.sl 119 2 (List.map ePair a_2)])] [(false, [(false, .sl 119 2 (List.map ePair r.1))]), (false, [(false, .bool r.2)])] := by
  refine fnk Tryz.func132 (by kernel_rfl) rfl (by kernel_rfl) (by kernel_rfl) ?_
  unfold s_MatchFact at h
  simp only [fnS, f132, argSt, go_sem, qa, qb, qc, qd, qe, qf, qg, qh, qi, qj, qk, reduceCtorEq, reduceIte]
  obtain ⟨v1, e1, h⟩ := bind_K h
  refine call_K (by first | exact s_IsPattern_ok e1 | simpa only [go_sem, qa, qb, qc, qd, qe, qf, qg, qh, qi, qj, qk, reduceCtorEq, reduceIte] using s_IsPattern_ok e1) ?_
  try simp only [go_sem, qa, qb, qc, qd, qe, qf, qg, qh, qi, qj, qk, reduceCtorEq, reduceIte]
  refine ite_K h (fun c2 h => ?_) (fun c2 h => ?_)
  · try simp only [go_sem, qa, qb, qc, qd, qe, qf, qg, qh, qi, qj, qk, reduceCtorEq, reduceIte, c2]
    obtain ⟨v2, e3, h⟩ := bind_K h
    refine call_K (by first | exact s_IsFact_ok e3 | simpa only [go_sem, qa, qb, qc, qd, qe, qf, qg, qh, qi, qj, qk, reduceCtorEq, reduceIte, c2] using s_IsFact_ok e3) ?_
    try simp only [go_sem, qa, qb, qc, qd, qe, qf, qg, qh, qi, qj, qk, reduceCtorEq, reduceIte, c2]
    refine ite_K h (fun c4 h => ?_) (fun c4 h => ?_)
    · try simp only [go_sem, qa, qb, qc, qd, qe, qf, qg, qh, qi, qj, qk, reduceCtorEq, reduceIte, c2, c4]
      obtain ⟨v3, e5, h⟩ := bind_K h
      refine call_K (by first | exact s_IsBinding_ok e5 | simpa only [go_sem, qa, qb, qc, qd, qe, qf, qg, qh, qi, qj, qk, reduceCtorEq, reduceIte, c2, c4] using s_IsBinding_ok e5) ?_
      try simp only [go_sem, qa, qb, qc, qd, qe, qf, qg, qh, qi, qj, qk, reduceCtorEq, reduceIte, c2, c4]
      refine ite_K h (fun c6 h => ?_) (fun c6 h => ?_)
      · try simp only [go_sem, qa, qb, qc, qd, qe, qf, qg, qh, qi, qj, qk, reduceCtorEq, reduceIte, c2, c4, c6]
        refine ite_K h (fun c7 h => ?_) (fun c7 h => ?_)
        · try simp only [go_sem, qa, qb, qc, qd, qe, qf, qg, qh, qi, qj, qk, reduceCtorEq, reduceIte, c2, c4, c6, c7]
          refine ite_K h (fun c8 h => ?_) (fun c8 h => ?_)
          · obtain rfl := Option.some.inj h
            try simp only [go_sem, qa, qb, qc, qd, qe, qf, qg, qh, qi, qj, qk, reduceCtorEq, reduceIte, c2, c4, c6, c7, c8]
          · try simp only [go_sem, qa, qb, qc, qd, qe, qf, qg, qh, qi, qj, qk, reduceCtorEq, reduceIte, c2, c4, c6, c7, c8]
            obtain ⟨v4, e9, h⟩ := bind_K h
            refine call_K (by first | exact s_l3Copy_ok e9 | simpa only [go_sem, qa, qb, qc, qd, qe, qf, qg, qh, qi, qj, qk, reduceCtorEq, reduceIte, c2, c4, c6, c7, c8] using s_l3Copy_ok e9) ?_
            try simp only [go_sem, qa, qb, qc, qd, qe, qf, qg, qh, qi, qj, qk, reduceCtorEq, reduceIte, c2, c4, c6, c7, c8]
            refine swp_for h (fun i row_16 st => IV [(3, .bp 0 0), (4, .bp 1 0), (8, .p false [.row 2]), (9, .p false [.c (.int .i64 ((i : Nat) : Int))])] [.box 60 [.c (.str append_0.rel), .c (.sl 9 1 (List.map eStr append_0.args))], .box 57 [.c (.str String_1.rel), .c (.sl 9 1 (List.map eStr String_1.args))], .row 119 2 (List.map ePair row_16) 2] st) [] [0, 16, 544] (by decide) ?_ ?_ ?_
            · simp only [go_sem, qa, qb, qc, qd, qe, qf, qg, qh, qi, qj, qk, reduceCtorEq, reduceIte, IV, sts_cons, sts_nil, obs_cons, obs_nil, c2, c4, c6, c7, c8]
            · rintro i22 x23 row_16 ⟨sl, ob, n⟩ y10 hx11 hI12 hW13 h hy10
              simp only [IV, sts_cons, sts_nil, obs_cons, obs_nil, and_true, true_and, Nat.reduceAdd, str_len] at hI12
              obtain ⟨⟨g14_3, g14_4, g14_8, g14_9⟩, og14_0, og14_1, og14_2, hn⟩ := hI12
              subst hn
              have hlhx11 := WF.boxL hW13 og14_0 (j := 1) rfl
              try simp only [go_sem, qa, qb, qc, qd, qe, qf, qg, qh, qi, qj, qk, reduceCtorEq, reduceIte, c2, c4, c6, c7, c8, hx11, lt_t hx11, lt_p hx11, nat_in (lt_n hx11) hlhx11, g14_3, g14_4, g14_8, g14_9, og14_0, og14_1, og14_2]
              obtain ⟨v24, e15, h⟩ := bind_K h
              refine call_K (by first | exact s_IsAtom_ok e15 | simpa only [go_sem, qa, qb, qc, qd, qe, qf, qg, qh, qi, qj, qk, reduceCtorEq, reduceIte, c2, c4, c6, c7, c8, hx11, lt_t hx11, lt_p hx11, nat_in (lt_n hx11) hlhx11, g14_3, g14_4, g14_8, g14_9, og14_0, og14_1, og14_2] using s_IsAtom_ok e15) ?_
              try simp only [go_sem, qa, qb, qc, qd, qe, qf, qg, qh, qi, qj, qk, reduceCtorEq, reduceIte, c2, c4, c6, c7, c8, hx11, lt_t hx11, lt_p hx11, nat_in (lt_n hx11) hlhx11, g14_3, g14_4, g14_8, g14_9, og14_0, og14_1, og14_2]
              refine ite_K h (fun c16 h => ?_) (fun c16 h => ?_)
              · obtain ⟨x25, a17, a18, e19, h⟩ := at_K h
                simp only [Int.toNat_natCast] at e19
                try simp only [go_sem, qa, qb, qc, qd, qe, qf, qg, qh, qi, qj, qk, reduceCtorEq, reduceIte, c2, c4, c6, c7, c8, hx11, lt_t hx11, lt_p hx11, nat_in (lt_n hx11) hlhx11, c16, a17, a18, e19, g14_3, g14_4, g14_8, g14_9, og14_0, og14_1, og14_2]
                refine ite_K h (fun c20 h => ?_) (fun c20 h => ?_)
                · try simp only [go_sem, qa, qb, qc, qd, qe, qf, qg, qh, qi, qj, qk, reduceCtorEq, reduceIte, c2, c4, c6, c7, c8, hx11, lt_t hx11, lt_p hx11, nat_in (lt_n hx11) hlhx11, c16, a17, a18, e19, c20, g14_3, g14_4, g14_8, g14_9, og14_0, og14_1, og14_2]
                  refine ⟨_, [], [0, 1, 2], (Option.some.inj h).symm, by decide, ?_⟩
                  try simp only [go_sem, qa, qb, qc, qd, qe, qf, qg, qh, qi, qj, qk, reduceCtorEq, reduceIte, c2, c4, c6, c7, c8, hx11, lt_t hx11, lt_p hx11, nat_in (lt_n hx11) hlhx11, c16, a17, a18, e19, c20, g14_3, g14_4, g14_8, g14_9, og14_0, og14_1, og14_2, IV, sts_cons, sts_nil, obs_cons, obs_nil]
                · replace h := inr_K h hy10
                  obtain rfl := Option.some.inj h
                  try simp only [go_sem, qa, qb, qc, qd, qe, qf, qg, qh, qi, qj, qk, reduceCtorEq, reduceIte, c2, c4, c6, c7, c8, hx11, lt_t hx11, lt_p hx11, nat_in (lt_n hx11) hlhx11, c16, a17, a18, e19, c20, g14_3, g14_4, g14_8, g14_9, og14_0, og14_1, og14_2]
              · obtain ⟨x26, a21, a22, e23, h⟩ := at_K h
                simp only [Int.toNat_natCast] at e23
                try simp only [go_sem, qa, qb, qc, qd, qe, qf, qg, qh, qi, qj, qk, reduceCtorEq, reduceIte, c2, c4, c6, c7, c8, hx11, lt_t hx11, lt_p hx11, nat_in (lt_n hx11) hlhx11, c16, a21, a22, e23, g14_3, g14_4, g14_8, g14_9, og14_0, og14_1, og14_2]
                obtain ⟨v27, e24, h⟩ := bind_K h
                refine call_K (by first | exact s_Extend_ok e24 | simpa only [go_sem, qa, qb, qc, qd, qe, qf, qg, qh, qi, qj, qk, reduceCtorEq, reduceIte, c2, c4, c6, c7, c8, hx11, lt_t hx11, lt_p hx11, nat_in (lt_n hx11) hlhx11, c16, a21, a22, e23, g14_3, g14_4, g14_8, g14_9, og14_0, og14_1, og14_2] using s_Extend_ok e24) ?_
                try simp only [go_sem, qa, qb, qc, qd, qe, qf, qg, qh, qi, qj, qk, reduceCtorEq, reduceIte, c2, c4, c6, c7, c8, hx11, lt_t hx11, lt_p hx11, nat_in (lt_n hx11) hlhx11, c16, a21, a22, e23, g14_3, g14_4, g14_8, g14_9, og14_0, og14_1, og14_2]
                refine ite_K h (fun c25 h => ?_) (fun c25 h => ?_)
                · try simp only [go_sem, qa, qb, qc, qd, qe, qf, qg, qh, qi, qj, qk, reduceCtorEq, reduceIte, c2, c4, c6, c7, c8, hx11, lt_t hx11, lt_p hx11, nat_in (lt_n hx11) hlhx11, c16, a21, a22, e23, c25, g14_3, g14_4, g14_8, g14_9, og14_0, og14_1, og14_2]
                  refine ⟨_, [], [0, 1, 355], (Option.some.inj h).symm, by decide, ?_⟩
                  try simp only [go_sem, qa, qb, qc, qd, qe, qf, qg, qh, qi, qj, qk, reduceCtorEq, reduceIte, c2, c4, c6, c7, c8, hx11, lt_t hx11, lt_p hx11, nat_in (lt_n hx11) hlhx11, c16, a21, a22, e23, c25, g14_3, g14_4, g14_8, g14_9, og14_0, og14_1, og14_2, IV, sts_cons, sts_nil, obs_cons, obs_nil]
                · replace h := inr_K h hy10
                  obtain rfl := Option.some.inj h
                  try simp only [go_sem, qa, qb, qc, qd, qe, qf, qg, qh, qi, qj, qk, reduceCtorEq, reduceIte, c2, c4, c6, c7, c8, hx11, lt_t hx11, lt_p hx11, nat_in (lt_n hx11) hlhx11, c16, a21, a22, e23, c25, g14_3, g14_4, g14_8, g14_9, og14_0, og14_1, og14_2]
            · rintro row_16 ⟨sl, ob, n⟩ hI26 hW27 h
              simp only [IV, sts_cons, sts_nil, obs_cons, obs_nil, and_true, true_and, Nat.reduceAdd, str_len] at hI26
              obtain ⟨⟨g28_3, g28_4, g28_8, g28_9⟩, og28_0, og28_1, og28_2, hn⟩ := hI26
              subst hn
              obtain rfl := Option.some.inj h
              try simp only [go_sem, qa, qb, qc, qd, qe, qf, qg, qh, qi, qj, qk, reduceCtorEq, reduceIte, c2, c4, c6, c7, c8, lt_f (append_0.args.length), g28_3, g28_4, g28_8, g28_9, og28_0, og28_1, og28_2]
        · obtain rfl := Option.some.inj h
          try simp only [go_sem, qa, qb, qc, qd, qe, qf, qg, qh, qi, qj, qk, reduceCtorEq, reduceIte, c2, c4, c6, c7]
      · obtain rfl := Option.some.inj h
        try simp only [go_sem, qa, qb, qc, qd, qe, qf, qg, qh, qi, qj, qk, reduceCtorEq, reduceIte, c2, c4, c6]
    · obtain rfl := Option.some.inj h
      try simp only [go_sem, qa, qb, qc, qd, qe, qf, qg, qh, qi, qj, qk, reduceCtorEq, reduceIte, c2, c4]
  · obtain rfl := Option.some.inj h
    try simp only [go_sem, qa, qb, qc, qd, qe, qf, qg, qh, qi, qj, qk, reduceCtorEq, reduceIte, c2]
theorem s_Instance_ok {p_0 : PatternD} {b_1 : (List PairD)} {r : (FactD × Bool)} (h : s_Instance p_0 b_1 = some r) : Sound Tryz.prog J0 22 [(true, ePattern p_0), (false, [.sl 119 2 (List.map ePair b_1)])] [(true, [(false, .str r.1.rel), (false, .sl 9 1 (List.map eStr r.1.args))]), (false, [(false, .bool r.2)])] := by
  refine fnk Tryz.func22 (by kernel_rfl) rfl (by kernel_rfl) (by kernel_rfl) ?_
  unfold s_Instance at h
  simp only [fnS, f22, argSt, go_sem, qa, qb, qc, qd, qe, qf, qg, qh, qi, qj, qk, reduceCtorEq, reduceIte]
  obtain ⟨v1, e1, h⟩ := bind_K h
  refine call_K (by first | exact s_IsPattern_ok e1 | simpa only [go_sem, qa, qb, qc, qd, qe, qf, qg, qh, qi, qj, qk, reduceCtorEq, reduceIte] using s_IsPattern_ok e1) ?_
  try simp only [go_sem, qa, qb, qc, qd, qe, qf, qg, qh, qi, qj, qk, reduceCtorEq, reduceIte]
  refine ite_K h (fun c2 h => ?_) (fun c2 h => ?_)
  · try simp only [go_sem, qa, qb, qc, qd, qe, qf, qg, qh, qi, qj, qk, reduceCtorEq, reduceIte, c2]
    obtain ⟨v2, e3, h⟩ := bind_K h
    refine call_K (by first | exact s_IsBinding_ok e3 | simpa only [go_sem, qa, qb, qc, qd, qe, qf, qg, qh, qi, qj, qk, reduceCtorEq, reduceIte, c2] using s_IsBinding_ok e3) ?_
    try simp only [go_sem, qa, qb, qc, qd, qe, qf, qg, qh, qi, qj, qk, reduceCtorEq, reduceIte, c2]
    refine ite_K h (fun c4 h => ?_) (fun c4 h => ?_)
    · try simp only [go_sem, qa, qb, qc, qd, qe, qf, qg, qh, qi, qj, qk, reduceCtorEq, reduceIte, c2, c4]
      refine swp_for h (fun i row_7 st => IV [(1, .p false [.c (.sl 119 2 (List.map ePair b_1))]), (2, .bp 0 0), (4, .bp 1 0), (6, .bp 2 0), (7, .p false [.c (.int .i64 ((i : Nat) : Int))])] [.box 60 [.c (.str p_0.rel), .c (.sl 9 1 (List.map eStr p_0.args))], .box 57 [.c (.str ⟨#[]⟩), .nil 9 1], .box 57 [.c (.str p_0.rel), .row 3], .row 9 1 (List.map eStr row_7) 2] st) [(true, 224, 1)] [0, 16, 224, 272] (by decide) ?_ ?_ ?_
      · simp only [go_sem, qa, qb, qc, qd, qe, qf, qg, qh, qi, qj, qk, reduceCtorEq, reduceIte, IV, sts_cons, sts_nil, obs_cons, obs_nil, c2, c4]
      · rintro i11 x12 row_7 ⟨sl, ob, n⟩ y5 hx6 hI7 hW8 h hy5
        simp only [IV, sts_cons, sts_nil, obs_cons, obs_nil, and_true, true_and, Nat.reduceAdd, str_len] at hI7
        obtain ⟨⟨g9_1, g9_2, g9_4, g9_6, g9_7⟩, og9_0, og9_1, og9_2, og9_3, hn⟩ := hI7
        subst hn
        have hlhx6 := WF.boxL hW8 og9_0 (j := 1) rfl
        try simp only [go_sem, qa, qb, qc, qd, qe, qf, qg, qh, qi, qj, qk, reduceCtorEq, reduceIte, c2, c4, hx6, lt_t hx6, lt_p hx6, nat_in (lt_n hx6) hlhx6, g9_1, g9_2, g9_4, g9_6, g9_7, og9_0, og9_1, og9_2, og9_3]
        obtain ⟨v13, e10, h⟩ := bind_K h
        refine call_K (by first | exact s_ValueOf_ok e10 | simpa only [go_sem, qa, qb, qc, qd, qe, qf, qg, qh, qi, qj, qk, reduceCtorEq, reduceIte, c2, c4, hx6, lt_t hx6, lt_p hx6, nat_in (lt_n hx6) hlhx6, g9_1, g9_2, g9_4, g9_6, g9_7, og9_0, og9_1, og9_2, og9_3] using s_ValueOf_ok e10) ?_
        try simp only [go_sem, qa, qb, qc, qd, qe, qf, qg, qh, qi, qj, qk, reduceCtorEq, reduceIte, c2, c4, hx6, lt_t hx6, lt_p hx6, nat_in (lt_n hx6) hlhx6, g9_1, g9_2, g9_4, g9_6, g9_7, og9_0, og9_1, og9_2, og9_3]
        refine ite_K h (fun c11 h => ?_) (fun c11 h => ?_)
        · obtain ⟨p12, h⟩ := chk_K h
          try simp only [Nat.reduceLeDiff] at p12
          try simp only [go_sem, qa, qb, qc, qd, qe, qf, qg, qh, qi, qj, qk, reduceCtorEq, reduceIte, c2, c4, hx6, lt_t hx6, lt_p hx6, nat_in (lt_n hx6) hlhx6, c11, p12, g9_1, g9_2, g9_4, g9_6, g9_7, og9_0, og9_1, og9_2, og9_3]
          refine ⟨_, [], [0, 1, 2, 372], (Option.some.inj h).symm, by decide, ?_⟩
          try simp only [go_sem, qa, qb, qc, qd, qe, qf, qg, qh, qi, qj, qk, reduceCtorEq, reduceIte, c2, c4, hx6, lt_t hx6, lt_p hx6, nat_in (lt_n hx6) hlhx6, c11, p12, g9_1, g9_2, g9_4, g9_6, g9_7, og9_0, og9_1, og9_2, og9_3, IV, sts_cons, sts_nil, obs_cons, obs_nil]
        · replace h := inr_K h hy5
          obtain rfl := Option.some.inj h
          try simp only [go_sem, qa, qb, qc, qd, qe, qf, qg, qh, qi, qj, qk, reduceCtorEq, reduceIte, c2, c4, hx6, lt_t hx6, lt_p hx6, nat_in (lt_n hx6) hlhx6, c11, g9_1, g9_2, g9_4, g9_6, g9_7, og9_0, og9_1, og9_2, og9_3]
      · rintro row_7 ⟨sl, ob, n⟩ hI13 hW14 h
        simp only [IV, sts_cons, sts_nil, obs_cons, obs_nil, and_true, true_and, Nat.reduceAdd, str_len] at hI13
        obtain ⟨⟨g15_1, g15_2, g15_4, g15_6, g15_7⟩, og15_0, og15_1, og15_2, og15_3, hn⟩ := hI13
        subst hn
        obtain rfl := Option.some.inj h
        try simp only [go_sem, qa, qb, qc, qd, qe, qf, qg, qh, qi, qj, qk, reduceCtorEq, reduceIte, c2, c4, lt_f (p_0.args.length), g15_1, g15_2, g15_4, g15_6, g15_7, og15_0, og15_1, og15_2, og15_3]
    · obtain rfl := Option.some.inj h
      try simp only [go_sem, qa, qb, qc, qd, qe, qf, qg, qh, qi, qj, qk, reduceCtorEq, reduceIte, c2, c4]
  · obtain rfl := Option.some.inj h
    try simp only [go_sem, qa, qb, qc, qd, qe, qf, qg, qh, qi, qj, qk, reduceCtorEq, reduceIte, c2]
theorem i_condFits_ok {r_0 : RuleD} {k_1 : Int} {r : Bool} (h : i_condFits r_0 k_1 = some r) : Sound Tryz.prog J0 110 [(true, eRule r_0), (false, [.int .i64 k_1])] [(false, [(false, .bool r)])] := by
  refine fnk Tryz.func110 (by kernel_rfl) rfl (by kernel_rfl) (by kernel_rfl) ?_
  unfold i_condFits at h
  simp only [fnS, f110, argSt, go_sem, qa, qb, qc, qd, qe, qf, qg, qh, qi, qj, qk, reduceCtorEq, reduceIte]
  obtain ⟨x1, a1, a2, e3, h⟩ := at_K h
  try simp only [go_sem, qa, qb, qc, qd, qe, qf, qg, qh, qi, qj, qk, reduceCtorEq, reduceIte, a1, a2, e3]
  obtain ⟨v2, e4, h⟩ := bind_K h
  refine call_K (by first | exact i_BoundVars_ok e4 | simpa only [go_sem, qa, qb, qc, qd, qe, qf, qg, qh, qi, qj, qk, reduceCtorEq, reduceIte, a1, a2, e3] using i_BoundVars_ok e4) ?_
  try simp only [go_sem, qa, qb, qc, qd, qe, qf, qg, qh, qi, qj, qk, reduceCtorEq, reduceIte, a1, a2, e3]
  obtain ⟨v3, e5, h⟩ := bind_K h
  refine call_K (by first | exact i_CondVars_ok e5 | simpa only [go_sem, qa, qb, qc, qd, qe, qf, qg, qh, qi, qj, qk, reduceCtorEq, reduceIte, a1, a2, e3] using i_CondVars_ok e5) ?_
  try simp only [go_sem, qa, qb, qc, qd, qe, qf, qg, qh, qi, qj, qk, reduceCtorEq, reduceIte, a1, a2, e3]
  refine swp_for h (fun i _ st => IV [(1, .p false [.c (.int .i64 k_1)]), (2, .bp 0 0), (5, .bp 1 0), (6, .p false [.row 2]), (18, .p false [.row 3]), (19, .p false [.c (.int .i64 ((v3.length : Nat) : Int))]), (20, .p false [.c (.int .i64 ((i : Nat) : Int))])] [.box 52 [.c (.str r_0.name), .c (.int .i64 r_0.priority), .c (.sl 99 5 (List.map eCond r_0.cond)), .c (.sl 62 3 (List.map eAction r_0.thn))], .box 99 [.c (.int .i64 x1.kind), .c (.str x1.pattern.rel), .c (.sl 9 1 (List.map eStr x1.pattern.args)), .c (.str x1.left), .c (.str x1.right)], .row 9 1 (List.map eStr v2) 2, .row 9 1 (List.map eStr v3) 2] st) [] [0, 112, 176, 224] (by decide) ?_ ?_ ?_
  · simp only [go_sem, qa, qb, qc, qd, qe, qf, qg, qh, qi, qj, qk, reduceCtorEq, reduceIte, IV, sts_cons, sts_nil, obs_cons, obs_nil, a1, a2, e3]
  · rintro i11 x12 ⟨⟩ ⟨sl, ob, n⟩ y6 hx7 hI8 hW9 h hy6
    simp only [IV, sts_cons, sts_nil, obs_cons, obs_nil, and_true, true_and, Nat.reduceAdd, str_len] at hI8
    obtain ⟨⟨g10_1, g10_2, g10_5, g10_6, g10_18, g10_19, g10_20⟩, og10_0, og10_1, og10_2, og10_3, hn⟩ := hI8
    subst hn
    have hlhx7 := WF.rowL hW9 og10_3
    try simp only [go_sem, qa, qb, qc, qd, qe, qf, qg, qh, qi, qj, qk, reduceCtorEq, reduceIte, a1, a2, e3, hx7, lt_t hx7, lt_p hx7, nat_in (lt_n hx7) hlhx7, g10_1, g10_2, g10_5, g10_6, g10_18, g10_19, g10_20, og10_0, og10_1, og10_2, og10_3]
    refine ite_K h (fun c11 h => ?_) (fun c11 h => ?_)
    · try simp only [go_sem, qa, qb, qc, qd, qe, qf, qg, qh, qi, qj, qk, reduceCtorEq, reduceIte, a1, a2, e3, hx7, lt_t hx7, lt_p hx7, nat_in (lt_n hx7) hlhx7, c11, g10_1, g10_2, g10_5, g10_6, g10_18, g10_19, g10_20, og10_0, og10_1, og10_2, og10_3]
      refine ⟨_, [], [0, 1, 2, 3], (Option.some.inj h).symm, by decide, ?_⟩
      try simp only [go_sem, qa, qb, qc, qd, qe, qf, qg, qh, qi, qj, qk, reduceCtorEq, reduceIte, a1, a2, e3, hx7, lt_t hx7, lt_p hx7, nat_in (lt_n hx7) hlhx7, c11, g10_1, g10_2, g10_5, g10_6, g10_18, g10_19, g10_20, og10_0, og10_1, og10_2, og10_3, IV, sts_cons, sts_nil, obs_cons, obs_nil]
    · try simp only [go_sem, qa, qb, qc, qd, qe, qf, qg, qh, qi, qj, qk, reduceCtorEq, reduceIte, a1, a2, e3, hx7, lt_t hx7, lt_p hx7, nat_in (lt_n hx7) hlhx7, c11, g10_1, g10_2, g10_5, g10_6, g10_18, g10_19, g10_20, og10_0, og10_1, og10_2, og10_3]
      obtain ⟨v13, e12, h⟩ := bind_K h
      refine call_K (by first | exact i_hasText_ok e12 | simpa only [go_sem, qa, qb, qc, qd, qe, qf, qg, qh, qi, qj, qk, reduceCtorEq, reduceIte, a1, a2, e3, hx7, lt_t hx7, lt_p hx7, nat_in (lt_n hx7) hlhx7, c11, g10_1, g10_2, g10_5, g10_6, g10_18, g10_19, g10_20, og10_0, og10_1, og10_2, og10_3] using i_hasText_ok e12) ?_
      try simp only [go_sem, qa, qb, qc, qd, qe, qf, qg, qh, qi, qj, qk, reduceCtorEq, reduceIte, a1, a2, e3, hx7, lt_t hx7, lt_p hx7, nat_in (lt_n hx7) hlhx7, c11, g10_1, g10_2, g10_5, g10_6, g10_18, g10_19, g10_20, og10_0, og10_1, og10_2, og10_3]
      refine ite_K h (fun c13 h => ?_) (fun c13 h => ?_)
      · try simp only [go_sem, qa, qb, qc, qd, qe, qf, qg, qh, qi, qj, qk, reduceCtorEq, reduceIte, a1, a2, e3, hx7, lt_t hx7, lt_p hx7, nat_in (lt_n hx7) hlhx7, c11, c13, g10_1, g10_2, g10_5, g10_6, g10_18, g10_19, g10_20, og10_0, og10_1, og10_2, og10_3]
        refine ⟨_, [], [0, 1, 2, 3], (Option.some.inj h).symm, by decide, ?_⟩
        try simp only [go_sem, qa, qb, qc, qd, qe, qf, qg, qh, qi, qj, qk, reduceCtorEq, reduceIte, a1, a2, e3, hx7, lt_t hx7, lt_p hx7, nat_in (lt_n hx7) hlhx7, c11, c13, g10_1, g10_2, g10_5, g10_6, g10_18, g10_19, g10_20, og10_0, og10_1, og10_2, og10_3, IV, sts_cons, sts_nil, obs_cons, obs_nil]
      · try simp only [go_sem, qa, qb, qc, qd, qe, qf, qg, qh, qi, qj, qk, reduceCtorEq, reduceIte, a1, a2, e3, hx7, lt_t hx7, lt_p hx7, nat_in (lt_n hx7) hlhx7, c11, c13, g10_1, g10_2, g10_5, g10_6, g10_18, g10_19, g10_20, og10_0, og10_1, og10_2, og10_3]
        refine ite_K h (fun c14 h => ?_) (fun c14 h => ?_)
        · replace h := inr_K h hy6
          obtain rfl := Option.some.inj h
          try simp only [go_sem, qa, qb, qc, qd, qe, qf, qg, qh, qi, qj, qk, reduceCtorEq, reduceIte, a1, a2, e3, hx7, lt_t hx7, lt_p hx7, nat_in (lt_n hx7) hlhx7, c11, c13, c14, g10_1, g10_2, g10_5, g10_6, g10_18, g10_19, g10_20, og10_0, og10_1, og10_2, og10_3]
        · try simp only [go_sem, qa, qb, qc, qd, qe, qf, qg, qh, qi, qj, qk, reduceCtorEq, reduceIte, a1, a2, e3, hx7, lt_t hx7, lt_p hx7, nat_in (lt_n hx7) hlhx7, c11, c13, c14, g10_1, g10_2, g10_5, g10_6, g10_18, g10_19, g10_20, og10_0, og10_1, og10_2, og10_3]
          obtain ⟨v14, e15, h⟩ := bind_K h
          refine call_K (by first | exact i_occursElsewhere_ok e15 | simpa only [go_sem, qa, qb, qc, qd, qe, qf, qg, qh, qi, qj, qk, reduceCtorEq, reduceIte, a1, a2, e3, hx7, lt_t hx7, lt_p hx7, nat_in (lt_n hx7) hlhx7, c11, c13, c14, g10_1, g10_2, g10_5, g10_6, g10_18, g10_19, g10_20, og10_0, og10_1, og10_2, og10_3] using i_occursElsewhere_ok e15) ?_
          try simp only [go_sem, qa, qb, qc, qd, qe, qf, qg, qh, qi, qj, qk, reduceCtorEq, reduceIte, a1, a2, e3, hx7, lt_t hx7, lt_p hx7, nat_in (lt_n hx7) hlhx7, c11, c13, c14, g10_1, g10_2, g10_5, g10_6, g10_18, g10_19, g10_20, og10_0, og10_1, og10_2, og10_3]
          refine ite_K h (fun c16 h => ?_) (fun c16 h => ?_)
          · replace h := inr_K h hy6
            obtain rfl := Option.some.inj h
            try simp only [go_sem, qa, qb, qc, qd, qe, qf, qg, qh, qi, qj, qk, reduceCtorEq, reduceIte, a1, a2, e3, hx7, lt_t hx7, lt_p hx7, nat_in (lt_n hx7) hlhx7, c11, c13, c14, c16, g10_1, g10_2, g10_5, g10_6, g10_18, g10_19, g10_20, og10_0, og10_1, og10_2, og10_3]
          · try simp only [go_sem, qa, qb, qc, qd, qe, qf, qg, qh, qi, qj, qk, reduceCtorEq, reduceIte, a1, a2, e3, hx7, lt_t hx7, lt_p hx7, nat_in (lt_n hx7) hlhx7, c11, c13, c14, c16, g10_1, g10_2, g10_5, g10_6, g10_18, g10_19, g10_20, og10_0, og10_1, og10_2, og10_3]
            refine ⟨_, [], [0, 1, 2, 3], (Option.some.inj h).symm, by decide, ?_⟩
            try simp only [go_sem, qa, qb, qc, qd, qe, qf, qg, qh, qi, qj, qk, reduceCtorEq, reduceIte, a1, a2, e3, hx7, lt_t hx7, lt_p hx7, nat_in (lt_n hx7) hlhx7, c11, c13, c14, c16, g10_1, g10_2, g10_5, g10_6, g10_18, g10_19, g10_20, og10_0, og10_1, og10_2, og10_3, IV, sts_cons, sts_nil, obs_cons, obs_nil]
  · rintro ⟨⟩ ⟨sl, ob, n⟩ hI17 hW18 h
    simp only [IV, sts_cons, sts_nil, obs_cons, obs_nil, and_true, true_and, Nat.reduceAdd, str_len] at hI17
    obtain ⟨⟨g19_1, g19_2, g19_5, g19_6, g19_18, g19_19, g19_20⟩, og19_0, og19_1, og19_2, og19_3, hn⟩ := hI17
    subst hn
    obtain rfl := Option.some.inj h
    try simp only [go_sem, qa, qb, qc, qd, qe, qf, qg, qh, qi, qj, qk, reduceCtorEq, reduceIte, a1, a2, e3, lt_f (v3.length), g19_1, g19_2, g19_5, g19_6, g19_18, g19_19, g19_20, og19_0, og19_1, og19_2, og19_3]
theorem i_MatchingFacts_ok {p_0 : PatternD} {b_1 : (List PairD)} {facts_2 : (List FactD)} {r : (List FactD)} (h : i_MatchingFacts p_0 b_1 facts_2 = some r) : Sound Tryz.prog J0 137 [(true, ePattern p_0), (false, [.sl 119 2 (List.map ePair b_1)]), (false, [.sl 57 2 (List.map eFact facts_2)])] [(false, [(false, .sl 57 2 (List.map eFact r))])] := by
  refine fnk Tryz.func137 (by kernel_rfl) rfl (by kernel_rfl) (by kernel_rfl) ?_
  unfold i_MatchingFacts at h
  simp only [fnS, f137, argSt, go_sem, qa, qb, qc, qd, qe, qf, qg, qh, qi, qj, qk, reduceCtorEq, reduceIte]
  refine swp_for h (fun i row_7 st => IV [(1, .p false [.c (.sl 119 2 (List.map ePair b_1))]), (3, .bp 0 0), (7, .p false [.row 1]), (12, .p false [.c (.sl 57 2 (List.map eFact facts_2))]), (13, .p false [.c (.int .i64 ((facts_2.length : Nat) : Int))]), (14, .p false [.c (.int .i64 ((i : Nat) : Int))])] [.box 60 [.c (.str p_0.rel), .c (.sl 9 1 (List.map eStr p_0.args))], .row 57 2 (List.map eFact row_7) 2] st) [(false, 7, 0)] [0, 96] (by decide) ?_ ?_ ?_
  · simp only [go_sem, qa, qb, qc, qd, qe, qf, qg, qh, qi, qj, qk, reduceCtorEq, reduceIte, IV, sts_cons, sts_nil, obs_cons, obs_nil]
  · rintro i12 x13 row_7 ⟨sl, ob, n⟩ y1 hx2 hI3 hW4 h hy1
    simp only [IV, sts_cons, sts_nil, obs_cons, obs_nil, and_true, true_and, Nat.reduceAdd, str_len] at hI3
    obtain ⟨⟨g5_1, g5_3, g5_7, g5_12, g5_13, g5_14⟩, og5_0, og5_1, hn⟩ := hI3
    subst hn
    have hlhx2 := WF.slotL hW4 g5_12 (j := 0) rfl
    try simp only [go_sem, qa, qb, qc, qd, qe, qf, qg, qh, qi, qj, qk, reduceCtorEq, reduceIte, hx2, lt_t hx2, lt_p hx2, nat_in (lt_n hx2) hlhx2, g5_1, g5_3, g5_7, g5_12, g5_13, g5_14, og5_0, og5_1]
    obtain ⟨v14, e6, h⟩ := bind_K h
    refine call_K (by first | exact i_MatchFact_ok e6 | simpa only [go_sem, qa, qb, qc, qd, qe, qf, qg, qh, qi, qj, qk, reduceCtorEq, reduceIte, hx2, lt_t hx2, lt_p hx2, nat_in (lt_n hx2) hlhx2, g5_1, g5_3, g5_7, g5_12, g5_13, g5_14, og5_0, og5_1] using i_MatchFact_ok e6) ?_
    try simp only [go_sem, qa, qb, qc, qd, qe, qf, qg, qh, qi, qj, qk, reduceCtorEq, reduceIte, hx2, lt_t hx2, lt_p hx2, nat_in (lt_n hx2) hlhx2, g5_1, g5_3, g5_7, g5_12, g5_13, g5_14, og5_0, og5_1]
    refine ite_K h (fun c7 h => ?_) (fun c7 h => ?_)
    · try simp only [go_sem, qa, qb, qc, qd, qe, qf, qg, qh, qi, qj, qk, reduceCtorEq, reduceIte, hx2, lt_t hx2, lt_p hx2, nat_in (lt_n hx2) hlhx2, c7, g5_1, g5_3, g5_7, g5_12, g5_13, g5_14, og5_0, og5_1]
      obtain ⟨v15, e8, h⟩ := bind_K h
      refine call_K (by first | exact i_copyFact_ok e8 | simpa only [go_sem, qa, qb, qc, qd, qe, qf, qg, qh, qi, qj, qk, reduceCtorEq, reduceIte, hx2, lt_t hx2, lt_p hx2, nat_in (lt_n hx2) hlhx2, c7, g5_1, g5_3, g5_7, g5_12, g5_13, g5_14, og5_0, og5_1] using i_copyFact_ok e8) ?_
      obtain ⟨p9, h⟩ := chk_K h
      try simp only [Nat.reduceLeDiff] at p9
      try simp only [go_sem, qa, qb, qc, qd, qe, qf, qg, qh, qi, qj, qk, reduceCtorEq, reduceIte, hx2, lt_t hx2, lt_p hx2, nat_in (lt_n hx2) hlhx2, c7, p9, g5_1, g5_3, g5_7, g5_12, g5_13, g5_14, og5_0, og5_1]
      refine ⟨_, [], [0, 306], (Option.some.inj h).symm, by decide, ?_⟩
      try simp only [go_sem, qa, qb, qc, qd, qe, qf, qg, qh, qi, qj, qk, reduceCtorEq, reduceIte, hx2, lt_t hx2, lt_p hx2, nat_in (lt_n hx2) hlhx2, c7, p9, g5_1, g5_3, g5_7, g5_12, g5_13, g5_14, og5_0, og5_1, IV, sts_cons, sts_nil, obs_cons, obs_nil]
    · try simp only [go_sem, qa, qb, qc, qd, qe, qf, qg, qh, qi, qj, qk, reduceCtorEq, reduceIte, hx2, lt_t hx2, lt_p hx2, nat_in (lt_n hx2) hlhx2, c7, g5_1, g5_3, g5_7, g5_12, g5_13, g5_14, og5_0, og5_1]
      refine ⟨_, [], [0, 1], (Option.some.inj h).symm, by decide, ?_⟩
      try simp only [go_sem, qa, qb, qc, qd, qe, qf, qg, qh, qi, qj, qk, reduceCtorEq, reduceIte, hx2, lt_t hx2, lt_p hx2, nat_in (lt_n hx2) hlhx2, c7, g5_1, g5_3, g5_7, g5_12, g5_13, g5_14, og5_0, og5_1, IV, sts_cons, sts_nil, obs_cons, obs_nil]
  · rintro row_7 ⟨sl, ob, n⟩ hI10 hW11 h
    simp only [IV, sts_cons, sts_nil, obs_cons, obs_nil, and_true, true_and, Nat.reduceAdd, str_len] at hI10
    obtain ⟨⟨g12_1, g12_3, g12_7, g12_12, g12_13, g12_14⟩, og12_0, og12_1, hn⟩ := hI10
    subst hn
    obtain rfl := Option.some.inj h
    try simp only [go_sem, qa, qb, qc, qd, qe, qf, qg, qh, qi, qj, qk, reduceCtorEq, reduceIte, lt_f (facts_2.length), g12_1, g12_3, g12_7, g12_12, g12_13, g12_14, og12_0, og12_1]
theorem i_IsTest_ok {x_0 : CondD} {r : Bool} (h : i_IsTest x_0 = some r) : Sound Tryz.prog J0 155 [(true, eCond x_0)] [(false, [(false, .bool r)])] := by
  refine fnk Tryz.func155 (by kernel_rfl) rfl (by kernel_rfl) (by kernel_rfl) ?_
  unfold i_IsTest at h
  simp only [fnS, f155, argSt, go_sem, qa, qb, qc, qd, qe, qf, qg, qh, qi, qj, qk, reduceCtorEq, reduceIte]
  obtain ⟨v1, e1, h⟩ := bind_K h
  refine call_K (by first | exact i_IsCond_ok e1 | simpa only [go_sem, qa, qb, qc, qd, qe, qf, qg, qh, qi, qj, qk, reduceCtorEq, reduceIte] using i_IsCond_ok e1) ?_
  try simp only [go_sem, qa, qb, qc, qd, qe, qf, qg, qh, qi, qj, qk, reduceCtorEq, reduceIte]
  refine ite_K h (fun c2 h => ?_) (fun c2 h => ?_)
  · obtain rfl := Option.some.inj h
    try simp only [go_sem, qa, qb, qc, qd, qe, qf, qg, qh, qi, qj, qk, reduceCtorEq, reduceIte, c2]
  · obtain rfl := Option.some.inj h
    try simp only [go_sem, qa, qb, qc, qd, qe, qf, qg, qh, qi, qj, qk, reduceCtorEq, reduceIte, c2]
end Go.Proofs.YtlkgkkacnoaeaaaGreatDoor

namespace Go.Proofs.YtlkgkkacnoaeaaaGreatDoor
open Go.Proofs.Tryz
open Int renaming reduceLT → qa, reduceLE → qb, reduceBEq → qc, reduceBNe → qd
open Nat renaming reduceBNe → qe, reduceAdd → qf, reduceMul → qg, reduceEqDiff → qh, reduceLeDiff → qi, reduceLT → qj, reduceBEq → qk
set_option linter.unusedSimpArgs false
set_option linter.unusedVariables false
set_option maxRecDepth 1000000
set_option maxHeartbeats 4000000
theorem s_IsCond_ok {x_0 : CondD} {r : Bool} (h : s_IsCond x_0 = some r) : Sound Tryz.prog J0 96 [(true, eCond x_0)] [(false, [(false, .bool r)])] := by
  refine fnk Tryz.func96 (by kernel_rfl) rfl (by kernel_rfl) (by kernel_rfl) ?_
  unfold s_IsCond at h
  have ks0 : strOk ⟨#[]⟩ = true := by decide
  simp only [fnS, f96, argSt, go_sem, qa, qb, qc, qd, qe, qf, qg, qh, qi, qj, qk, reduceCtorEq, reduceIte, ks0]
  refine ite_K h (fun c1 h => ?_) (fun c1 h => ?_)
  · try simp only [go_sem, qa, qb, qc, qd, qe, qf, qg, qh, qi, qj, qk, reduceCtorEq, reduceIte, ks0, c1]
    obtain ⟨v1, e2, h⟩ := bind_K h
    refine call_K (by first | exact s_IsPattern_ok e2 | simpa only [go_sem, qa, qb, qc, qd, qe, qf, qg, qh, qi, qj, qk, reduceCtorEq, reduceIte, ks0, c1] using s_IsPattern_ok e2) ?_
    try simp only [go_sem, qa, qb, qc, qd, qe, qf, qg, qh, qi, qj, qk, reduceCtorEq, reduceIte, ks0, c1]
    refine ite_K h (fun c3 h => ?_) (fun c3 h => ?_)
    · try simp only [go_sem, qa, qb, qc, qd, qe, qf, qg, qh, qi, qj, qk, reduceCtorEq, reduceIte, ks0, c1, c3]
      refine ite_K h (fun c4 h => ?_) (fun c4 h => ?_)
      · obtain rfl := Option.some.inj h
        try simp only [go_sem, qa, qb, qc, qd, qe, qf, qg, qh, qi, qj, qk, reduceCtorEq, reduceIte, ks0, c1, c3, c4]
      · obtain rfl := Option.some.inj h
        try simp only [go_sem, qa, qb, qc, qd, qe, qf, qg, qh, qi, qj, qk, reduceCtorEq, reduceIte, ks0, c1, c3, c4]
    · obtain rfl := Option.some.inj h
      try simp only [go_sem, qa, qb, qc, qd, qe, qf, qg, qh, qi, qj, qk, reduceCtorEq, reduceIte, ks0, c1, c3]
  · try simp only [go_sem, qa, qb, qc, qd, qe, qf, qg, qh, qi, qj, qk, reduceCtorEq, reduceIte, ks0, c1]
    refine ite_K h (fun c5 h => ?_) (fun c5 h => ?_)
    · try simp only [go_sem, qa, qb, qc, qd, qe, qf, qg, qh, qi, qj, qk, reduceCtorEq, reduceIte, ks0, c1, c5]
      obtain ⟨v2, e6, h⟩ := bind_K h
      refine call_K (by first | exact s_IsPattern_ok e6 | simpa only [go_sem, qa, qb, qc, qd, qe, qf, qg, qh, qi, qj, qk, reduceCtorEq, reduceIte, ks0, c1, c5] using s_IsPattern_ok e6) ?_
      try simp only [go_sem, qa, qb, qc, qd, qe, qf, qg, qh, qi, qj, qk, reduceCtorEq, reduceIte, ks0, c1, c5]
      refine ite_K h (fun c7 h => ?_) (fun c7 h => ?_)
      · try simp only [go_sem, qa, qb, qc, qd, qe, qf, qg, qh, qi, qj, qk, reduceCtorEq, reduceIte, ks0, c1, c5, c7]
        refine ite_K h (fun c8 h => ?_) (fun c8 h => ?_)
        · obtain rfl := Option.some.inj h
          try simp only [go_sem, qa, qb, qc, qd, qe, qf, qg, qh, qi, qj, qk, reduceCtorEq, reduceIte, ks0, c1, c5, c7, c8]
        · obtain rfl := Option.some.inj h
          try simp only [go_sem, qa, qb, qc, qd, qe, qf, qg, qh, qi, qj, qk, reduceCtorEq, reduceIte, ks0, c1, c5, c7, c8]
      · obtain rfl := Option.some.inj h
        try simp only [go_sem, qa, qb, qc, qd, qe, qf, qg, qh, qi, qj, qk, reduceCtorEq, reduceIte, ks0, c1, c5, c7]
    · try simp only [go_sem, qa, qb, qc, qd, qe, qf, qg, qh, qi, qj, qk, reduceCtorEq, reduceIte, ks0, c1, c5]
      refine ite_K h (fun c9 h => ?_) (fun c9 h => ?_)
      · try simp only [go_sem, qa, qb, qc, qd, qe, qf, qg, qh, qi, qj, qk, reduceCtorEq, reduceIte, ks0, c1, c5, c9]
        refine ite_K h (fun c10 h => ?_) (fun c10 h => ?_)
        · try simp only [go_sem, qa, qb, qc, qd, qe, qf, qg, qh, qi, qj, qk, reduceCtorEq, reduceIte, ks0, c1, c5, c9, c10]
          refine ite_K h (fun c11 h => ?_) (fun c11 h => ?_)
          · try simp only [go_sem, qa, qb, qc, qd, qe, qf, qg, qh, qi, qj, qk, reduceCtorEq, reduceIte, ks0, c1, c5, c9, c10, c11]
            obtain ⟨v3, e12, h⟩ := bind_K h
            refine call_K (by first | exact s_IsTerm_ok e12 | simpa only [go_sem, qa, qb, qc, qd, qe, qf, qg, qh, qi, qj, qk, reduceCtorEq, reduceIte, ks0, c1, c5, c9, c10, c11] using s_IsTerm_ok e12) ?_
            try simp only [go_sem, qa, qb, qc, qd, qe, qf, qg, qh, qi, qj, qk, reduceCtorEq, reduceIte, ks0, c1, c5, c9, c10, c11]
            refine ite_K h (fun c13 h => ?_) (fun c13 h => ?_)
            · try simp only [go_sem, qa, qb, qc, qd, qe, qf, qg, qh, qi, qj, qk, reduceCtorEq, reduceIte, ks0, c1, c5, c9, c10, c11, c13]
              obtain ⟨v4, e14, h⟩ := bind_K h
              refine call_K (by first | exact s_IsTerm_ok e14 | simpa only [go_sem, qa, qb, qc, qd, qe, qf, qg, qh, qi, qj, qk, reduceCtorEq, reduceIte, ks0, c1, c5, c9, c10, c11, c13] using s_IsTerm_ok e14) ?_
              obtain rfl := Option.some.inj h
              try simp only [go_sem, qa, qb, qc, qd, qe, qf, qg, qh, qi, qj, qk, reduceCtorEq, reduceIte, ks0, c1, c5, c9, c10, c11, c13]
            · obtain rfl := Option.some.inj h
              try simp only [go_sem, qa, qb, qc, qd, qe, qf, qg, qh, qi, qj, qk, reduceCtorEq, reduceIte, ks0, c1, c5, c9, c10, c11, c13]
          · obtain rfl := Option.some.inj h
            try simp only [go_sem, qa, qb, qc, qd, qe, qf, qg, qh, qi, qj, qk, reduceCtorEq, reduceIte, ks0, c1, c5, c9, c10, c11]
        · obtain rfl := Option.some.inj h
          try simp only [go_sem, qa, qb, qc, qd, qe, qf, qg, qh, qi, qj, qk, reduceCtorEq, reduceIte, ks0, c1, c5, c9, c10]
      · try simp only [go_sem, qa, qb, qc, qd, qe, qf, qg, qh, qi, qj, qk, reduceCtorEq, reduceIte, ks0, c1, c5, c9]
        refine ite_K h (fun c15 h => ?_) (fun c15 h => ?_)
        · try simp only [go_sem, qa, qb, qc, qd, qe, qf, qg, qh, qi, qj, qk, reduceCtorEq, reduceIte, ks0, c1, c5, c9, c15]
          refine ite_K h (fun c16 h => ?_) (fun c16 h => ?_)
          · try simp only [go_sem, qa, qb, qc, qd, qe, qf, qg, qh, qi, qj, qk, reduceCtorEq, reduceIte, ks0, c1, c5, c9, c15, c16]
            refine ite_K h (fun c17 h => ?_) (fun c17 h => ?_)
            · try simp only [go_sem, qa, qb, qc, qd, qe, qf, qg, qh, qi, qj, qk, reduceCtorEq, reduceIte, ks0, c1, c5, c9, c15, c16, c17]
              obtain ⟨v5, e18, h⟩ := bind_K h
              refine call_K (by first | exact s_IsTerm_ok e18 | simpa only [go_sem, qa, qb, qc, qd, qe, qf, qg, qh, qi, qj, qk, reduceCtorEq, reduceIte, ks0, c1, c5, c9, c15, c16, c17] using s_IsTerm_ok e18) ?_
              try simp only [go_sem, qa, qb, qc, qd, qe, qf, qg, qh, qi, qj, qk, reduceCtorEq, reduceIte, ks0, c1, c5, c9, c15, c16, c17]
              refine ite_K h (fun c19 h => ?_) (fun c19 h => ?_)
              · try simp only [go_sem, qa, qb, qc, qd, qe, qf, qg, qh, qi, qj, qk, reduceCtorEq, reduceIte, ks0, c1, c5, c9, c15, c16, c17, c19]
                obtain ⟨v6, e20, h⟩ := bind_K h
                refine call_K (by first | exact s_IsTerm_ok e20 | simpa only [go_sem, qa, qb, qc, qd, qe, qf, qg, qh, qi, qj, qk, reduceCtorEq, reduceIte, ks0, c1, c5, c9, c15, c16, c17, c19] using s_IsTerm_ok e20) ?_
                obtain rfl := Option.some.inj h
                try simp only [go_sem, qa, qb, qc, qd, qe, qf, qg, qh, qi, qj, qk, reduceCtorEq, reduceIte, ks0, c1, c5, c9, c15, c16, c17, c19]
              · obtain rfl := Option.some.inj h
                try simp only [go_sem, qa, qb, qc, qd, qe, qf, qg, qh, qi, qj, qk, reduceCtorEq, reduceIte, ks0, c1, c5, c9, c15, c16, c17, c19]
            · obtain rfl := Option.some.inj h
              try simp only [go_sem, qa, qb, qc, qd, qe, qf, qg, qh, qi, qj, qk, reduceCtorEq, reduceIte, ks0, c1, c5, c9, c15, c16, c17]
          · obtain rfl := Option.some.inj h
            try simp only [go_sem, qa, qb, qc, qd, qe, qf, qg, qh, qi, qj, qk, reduceCtorEq, reduceIte, ks0, c1, c5, c9, c15, c16]
        · try simp only [go_sem, qa, qb, qc, qd, qe, qf, qg, qh, qi, qj, qk, reduceCtorEq, reduceIte, ks0, c1, c5, c9, c15]
          refine ite_K h (fun c21 h => ?_) (fun c21 h => ?_)
          · try simp only [go_sem, qa, qb, qc, qd, qe, qf, qg, qh, qi, qj, qk, reduceCtorEq, reduceIte, ks0, c1, c5, c9, c15, c21]
            refine ite_K h (fun c22 h => ?_) (fun c22 h => ?_)
            · try simp only [go_sem, qa, qb, qc, qd, qe, qf, qg, qh, qi, qj, qk, reduceCtorEq, reduceIte, ks0, c1, c5, c9, c15, c21, c22]
              refine ite_K h (fun c23 h => ?_) (fun c23 h => ?_)
              · try simp only [go_sem, qa, qb, qc, qd, qe, qf, qg, qh, qi, qj, qk, reduceCtorEq, reduceIte, ks0, c1, c5, c9, c15, c21, c22, c23]
                obtain ⟨v7, e24, h⟩ := bind_K h
                refine call_K (by first | exact s_IsTerm_ok e24 | simpa only [go_sem, qa, qb, qc, qd, qe, qf, qg, qh, qi, qj, qk, reduceCtorEq, reduceIte, ks0, c1, c5, c9, c15, c21, c22, c23] using s_IsTerm_ok e24) ?_
                try simp only [go_sem, qa, qb, qc, qd, qe, qf, qg, qh, qi, qj, qk, reduceCtorEq, reduceIte, ks0, c1, c5, c9, c15, c21, c22, c23]
                refine ite_K h (fun c25 h => ?_) (fun c25 h => ?_)
                · try simp only [go_sem, qa, qb, qc, qd, qe, qf, qg, qh, qi, qj, qk, reduceCtorEq, reduceIte, ks0, c1, c5, c9, c15, c21, c22, c23, c25]
                  obtain ⟨v8, e26, h⟩ := bind_K h
                  refine call_K (by first | exact s_IsTerm_ok e26 | simpa only [go_sem, qa, qb, qc, qd, qe, qf, qg, qh, qi, qj, qk, reduceCtorEq, reduceIte, ks0, c1, c5, c9, c15, c21, c22, c23, c25] using s_IsTerm_ok e26) ?_
                  obtain rfl := Option.some.inj h
                  try simp only [go_sem, qa, qb, qc, qd, qe, qf, qg, qh, qi, qj, qk, reduceCtorEq, reduceIte, ks0, c1, c5, c9, c15, c21, c22, c23, c25]
                · obtain rfl := Option.some.inj h
                  try simp only [go_sem, qa, qb, qc, qd, qe, qf, qg, qh, qi, qj, qk, reduceCtorEq, reduceIte, ks0, c1, c5, c9, c15, c21, c22, c23, c25]
              · obtain rfl := Option.some.inj h
                try simp only [go_sem, qa, qb, qc, qd, qe, qf, qg, qh, qi, qj, qk, reduceCtorEq, reduceIte, ks0, c1, c5, c9, c15, c21, c22, c23]
            · obtain rfl := Option.some.inj h
              try simp only [go_sem, qa, qb, qc, qd, qe, qf, qg, qh, qi, qj, qk, reduceCtorEq, reduceIte, ks0, c1, c5, c9, c15, c21, c22]
          · obtain rfl := Option.some.inj h
            try simp only [go_sem, qa, qb, qc, qd, qe, qf, qg, qh, qi, qj, qk, reduceCtorEq, reduceIte, ks0, c1, c5, c9, c15, c21]
theorem s_l5Elsewhere_ok {r_0 : RuleD} {i_1 : Int} {v_2 : ByteArray} {r : Bool} (h : s_l5Elsewhere r_0 i_1 v_2 = some r) : Sound Tryz.prog J0 100 [(true, eRule r_0), (false, [.int .i64 i_1]), (false, [.str v_2])] [(false, [(false, .bool r)])] := by
  refine fnk Tryz.func100 (by kernel_rfl) rfl (by kernel_rfl) (by kernel_rfl) ?_
  unfold s_l5Elsewhere at h
  simp only [fnS, f100, argSt, go_sem, qa, qb, qc, qd, qe, qf, qg, qh, qi, qj, qk, reduceCtorEq, reduceIte]
  refine swp_for h (fun i _ st => IV [(1, .p false [.c (.int .i64 i_1)]), (2, .p false [.c (.str v_2)]), (3, .bp 0 0), (7, .p false [.c (.int .i64 ((i : Nat) : Int))])] [.box 52 [.c (.str r_0.name), .c (.int .i64 r_0.priority), .c (.sl 99 5 (List.map eCond r_0.cond)), .c (.sl 62 3 (List.map eAction r_0.thn))]] st) [] [0] (by decide) ?_ ?_ ?_
  · simp only [go_sem, qa, qb, qc, qd, qe, qf, qg, qh, qi, qj, qk, reduceCtorEq, reduceIte, IV, sts_cons, sts_nil, obs_cons, obs_nil]
  · rintro i19 x20 ⟨⟩ ⟨sl, ob, n⟩ y1 hx2 hI3 hW4 h hy1
    simp only [IV, sts_cons, sts_nil, obs_cons, obs_nil, and_true, true_and, Nat.reduceAdd, str_len] at hI3
    obtain ⟨⟨g5_1, g5_2, g5_3, g5_7⟩, og5_0, hn⟩ := hI3
    subst hn
    have hlhx2 := WF.boxL hW4 og5_0 (j := 2) rfl
    try simp only [go_sem, qa, qb, qc, qd, qe, qf, qg, qh, qi, qj, qk, reduceCtorEq, reduceIte, hx2, lt_t hx2, lt_p hx2, nat_in (lt_n hx2) hlhx2, g5_1, g5_2, g5_3, g5_7, og5_0]
    refine ite_K h (fun c6 h => ?_) (fun c6 h => ?_)
    · try simp only [go_sem, qa, qb, qc, qd, qe, qf, qg, qh, qi, qj, qk, reduceCtorEq, reduceIte, hx2, lt_t hx2, lt_p hx2, nat_in (lt_n hx2) hlhx2, c6, g5_1, g5_2, g5_3, g5_7, og5_0]
      obtain ⟨v21, e7, h⟩ := bind_K h
      refine call_K (by first | exact s_CondVars_ok e7 | simpa only [go_sem, qa, qb, qc, qd, qe, qf, qg, qh, qi, qj, qk, reduceCtorEq, reduceIte, hx2, lt_t hx2, lt_p hx2, nat_in (lt_n hx2) hlhx2, c6, g5_1, g5_2, g5_3, g5_7, og5_0] using s_CondVars_ok e7) ?_
      try simp only [go_sem, qa, qb, qc, qd, qe, qf, qg, qh, qi, qj, qk, reduceCtorEq, reduceIte, hx2, lt_t hx2, lt_p hx2, nat_in (lt_n hx2) hlhx2, c6, g5_1, g5_2, g5_3, g5_7, og5_0]
      obtain ⟨v22, e8, h⟩ := bind_K h
      refine call_K (by first | exact s_l1HasText_ok e8 | simpa only [go_sem, qa, qb, qc, qd, qe, qf, qg, qh, qi, qj, qk, reduceCtorEq, reduceIte, hx2, lt_t hx2, lt_p hx2, nat_in (lt_n hx2) hlhx2, c6, g5_1, g5_2, g5_3, g5_7, og5_0] using s_l1HasText_ok e8) ?_
      try simp only [go_sem, qa, qb, qc, qd, qe, qf, qg, qh, qi, qj, qk, reduceCtorEq, reduceIte, hx2, lt_t hx2, lt_p hx2, nat_in (lt_n hx2) hlhx2, c6, g5_1, g5_2, g5_3, g5_7, og5_0]
      refine ite_K h (fun c9 h => ?_) (fun c9 h => ?_)
      · replace h := inr_K h hy1
        obtain rfl := Option.some.inj h
        try simp only [go_sem, qa, qb, qc, qd, qe, qf, qg, qh, qi, qj, qk, reduceCtorEq, reduceIte, hx2, lt_t hx2, lt_p hx2, nat_in (lt_n hx2) hlhx2, c6, c9, g5_1, g5_2, g5_3, g5_7, og5_0]
      · try simp only [go_sem, qa, qb, qc, qd, qe, qf, qg, qh, qi, qj, qk, reduceCtorEq, reduceIte, hx2, lt_t hx2, lt_p hx2, nat_in (lt_n hx2) hlhx2, c6, c9, g5_1, g5_2, g5_3, g5_7, og5_0]
        refine ⟨_, [], [0], (Option.some.inj h).symm, by decide, ?_⟩
        try simp only [go_sem, qa, qb, qc, qd, qe, qf, qg, qh, qi, qj, qk, reduceCtorEq, reduceIte, hx2, lt_t hx2, lt_p hx2, nat_in (lt_n hx2) hlhx2, c6, c9, g5_1, g5_2, g5_3, g5_7, og5_0, IV, sts_cons, sts_nil, obs_cons, obs_nil]
    · try simp only [go_sem, qa, qb, qc, qd, qe, qf, qg, qh, qi, qj, qk, reduceCtorEq, reduceIte, hx2, lt_t hx2, lt_p hx2, nat_in (lt_n hx2) hlhx2, c6, g5_1, g5_2, g5_3, g5_7, og5_0]
      refine ⟨_, [], [0], (Option.some.inj h).symm, by decide, ?_⟩
      try simp only [go_sem, qa, qb, qc, qd, qe, qf, qg, qh, qi, qj, qk, reduceCtorEq, reduceIte, hx2, lt_t hx2, lt_p hx2, nat_in (lt_n hx2) hlhx2, c6, g5_1, g5_2, g5_3, g5_7, og5_0, IV, sts_cons, sts_nil, obs_cons, obs_nil]
  · rintro ⟨⟩ ⟨sl, ob, n⟩ hI10 hW11 h
    simp only [IV, sts_cons, sts_nil, obs_cons, obs_nil, and_true, true_and, Nat.reduceAdd, str_len] at hI10
    obtain ⟨⟨g12_1, g12_2, g12_3, g12_7⟩, og12_0, hn⟩ := hI10
    subst hn
    try simp only [go_sem, qa, qb, qc, qd, qe, qf, qg, qh, qi, qj, qk, reduceCtorEq, reduceIte, lt_f (r_0.cond.length), g12_1, g12_2, g12_3, g12_7, og12_0]
    refine swp_for h (fun i _ st => IV [(2, .p false [.c (.str v_2)]), (3, .bp 0 0), (8, .p false [.c (.int .i64 ((i : Nat) : Int))])] [.box 52 [.c (.str r_0.name), .c (.int .i64 r_0.priority), .c (.sl 99 5 (List.map eCond r_0.cond)), .c (.sl 62 3 (List.map eAction r_0.thn))]] st) [] [0] (by decide) ?_ ?_ ?_
    · simp only [go_sem, qa, qb, qc, qd, qe, qf, qg, qh, qi, qj, qk, reduceCtorEq, reduceIte, IV, sts_cons, sts_nil, obs_cons, obs_nil, lt_f (r_0.cond.length), g12_1, g12_2, g12_3, g12_7, og12_0]
    · rintro i30 x31 ⟨⟩ ⟨sl, ob, n⟩ y13 hx14 hI15 hW16 h hy13
      simp only [IV, sts_cons, sts_nil, obs_cons, obs_nil, and_true, true_and, Nat.reduceAdd, str_len] at hI15
      obtain ⟨⟨g17_2, g17_3, g17_8⟩, og17_0, hn⟩ := hI15
      subst hn
      have hlhx14 := WF.boxL hW16 og17_0 (j := 3) rfl
      try simp only [go_sem, qa, qb, qc, qd, qe, qf, qg, qh, qi, qj, qk, reduceCtorEq, reduceIte, lt_f (r_0.cond.length), hx14, lt_t hx14, lt_p hx14, nat_in (lt_n hx14) hlhx14, g17_2, g17_3, g17_8, og17_0]
      obtain ⟨v32, e18, h⟩ := bind_K h
      refine call_K (by first | exact s_VarsOf_ok e18 | simpa only [go_sem, qa, qb, qc, qd, qe, qf, qg, qh, qi, qj, qk, reduceCtorEq, reduceIte, lt_f (r_0.cond.length), hx14, lt_t hx14, lt_p hx14, nat_in (lt_n hx14) hlhx14, g17_2, g17_3, g17_8, og17_0] using s_VarsOf_ok e18) ?_
      try simp only [go_sem, qa, qb, qc, qd, qe, qf, qg, qh, qi, qj, qk, reduceCtorEq, reduceIte, lt_f (r_0.cond.length), hx14, lt_t hx14, lt_p hx14, nat_in (lt_n hx14) hlhx14, g17_2, g17_3, g17_8, og17_0]
      obtain ⟨v33, e19, h⟩ := bind_K h
      refine call_K (by first | exact s_l1HasText_ok e19 | simpa only [go_sem, qa, qb, qc, qd, qe, qf, qg, qh, qi, qj, qk, reduceCtorEq, reduceIte, lt_f (r_0.cond.length), hx14, lt_t hx14, lt_p hx14, nat_in (lt_n hx14) hlhx14, g17_2, g17_3, g17_8, og17_0] using s_l1HasText_ok e19) ?_
      try simp only [go_sem, qa, qb, qc, qd, qe, qf, qg, qh, qi, qj, qk, reduceCtorEq, reduceIte, lt_f (r_0.cond.length), hx14, lt_t hx14, lt_p hx14, nat_in (lt_n hx14) hlhx14, g17_2, g17_3, g17_8, og17_0]
      refine ite_K h (fun c20 h => ?_) (fun c20 h => ?_)
      · replace h := inr_K h hy13
        obtain rfl := Option.some.inj h
        try simp only [go_sem, qa, qb, qc, qd, qe, qf, qg, qh, qi, qj, qk, reduceCtorEq, reduceIte, lt_f (r_0.cond.length), hx14, lt_t hx14, lt_p hx14, nat_in (lt_n hx14) hlhx14, c20, g17_2, g17_3, g17_8, og17_0]
      · try simp only [go_sem, qa, qb, qc, qd, qe, qf, qg, qh, qi, qj, qk, reduceCtorEq, reduceIte, lt_f (r_0.cond.length), hx14, lt_t hx14, lt_p hx14, nat_in (lt_n hx14) hlhx14, c20, g17_2, g17_3, g17_8, og17_0]
        refine ⟨_, [], [0], (Option.some.inj h).symm, by decide, ?_⟩
        try simp only [go_sem, qa, qb, qc, qd, qe, qf, qg, qh, qi, qj, qk, reduceCtorEq, reduceIte, lt_f (r_0.cond.length), hx14, lt_t hx14, lt_p hx14, nat_in (lt_n hx14) hlhx14, c20, g17_2, g17_3, g17_8, og17_0, IV, sts_cons, sts_nil, obs_cons, obs_nil]
    · rintro ⟨⟩ ⟨sl, ob, n⟩ hI21 hW22 h
      simp only [IV, sts_cons, sts_nil, obs_cons, obs_nil, and_true, true_and, Nat.reduceAdd, str_len] at hI21
      obtain ⟨⟨g23_2, g23_3, g23_8⟩, og23_0, hn⟩ := hI21
      subst hn
      obtain rfl := Option.some.inj h
      try simp only [go_sem, qa, qb, qc, qd, qe, qf, qg, qh, qi, qj, qk, reduceCtorEq, reduceIte, lt_f (r_0.cond.length), lt_f (r_0.thn.length), g23_2, g23_3, g23_8, og23_0]
theorem s_IsAction_ok {a_0 : ActionD} {r : Bool} (h : s_IsAction a_0 = some r) : Sound Tryz.prog J0 101 [(true, eAction a_0)] [(false, [(false, .bool r)])] := by
  refine fnk Tryz.func101 (by kernel_rfl) rfl (by kernel_rfl) (by kernel_rfl) ?_
  unfold s_IsAction at h
  have ks0 : strOk ⟨#[]⟩ = true := by decide
  simp only [fnS, f101, argSt, go_sem, qa, qb, qc, qd, qe, qf, qg, qh, qi, qj, qk, reduceCtorEq, reduceIte, ks0]
  refine ite_K h (fun c1 h => ?_) (fun c1 h => ?_)
  · try simp only [go_sem, qa, qb, qc, qd, qe, qf, qg, qh, qi, qj, qk, reduceCtorEq, reduceIte, ks0, c1]
    obtain ⟨v1, e2, h⟩ := bind_K h
    refine call_K (by first | exact s_IsPattern_ok e2 | simpa only [go_sem, qa, qb, qc, qd, qe, qf, qg, qh, qi, qj, qk, reduceCtorEq, reduceIte, ks0, c1] using s_IsPattern_ok e2) ?_
    obtain rfl := Option.some.inj h
    try simp only [go_sem, qa, qb, qc, qd, qe, qf, qg, qh, qi, qj, qk, reduceCtorEq, reduceIte, ks0, c1]
  · try simp only [go_sem, qa, qb, qc, qd, qe, qf, qg, qh, qi, qj, qk, reduceCtorEq, reduceIte, ks0, c1]
    refine ite_K h (fun c3 h => ?_) (fun c3 h => ?_)
    · try simp only [go_sem, qa, qb, qc, qd, qe, qf, qg, qh, qi, qj, qk, reduceCtorEq, reduceIte, ks0, c1, c3]
      obtain ⟨v2, e4, h⟩ := bind_K h
      refine call_K (by first | exact s_IsPattern_ok e4 | simpa only [go_sem, qa, qb, qc, qd, qe, qf, qg, qh, qi, qj, qk, reduceCtorEq, reduceIte, ks0, c1, c3] using s_IsPattern_ok e4) ?_
      obtain rfl := Option.some.inj h
      try simp only [go_sem, qa, qb, qc, qd, qe, qf, qg, qh, qi, qj, qk, reduceCtorEq, reduceIte, ks0, c1, c3]
    · try simp only [go_sem, qa, qb, qc, qd, qe, qf, qg, qh, qi, qj, qk, reduceCtorEq, reduceIte, ks0, c1, c3]
      refine ite_K h (fun c5 h => ?_) (fun c5 h => ?_)
      · try simp only [go_sem, qa, qb, qc, qd, qe, qf, qg, qh, qi, qj, qk, reduceCtorEq, reduceIte, ks0, c1, c3, c5]
        refine ite_K h (fun c6 h => ?_) (fun c6 h => ?_)
        · obtain rfl := Option.some.inj h
          try simp only [go_sem, qa, qb, qc, qd, qe, qf, qg, qh, qi, qj, qk, reduceCtorEq, reduceIte, ks0, c1, c3, c5, c6]
        · obtain rfl := Option.some.inj h
          try simp only [go_sem, qa, qb, qc, qd, qe, qf, qg, qh, qi, qj, qk, reduceCtorEq, reduceIte, ks0, c1, c3, c5, c6]
      · obtain rfl := Option.some.inj h
        try simp only [go_sem, qa, qb, qc, qd, qe, qf, qg, qh, qi, qj, qk, reduceCtorEq, reduceIte, ks0, c1, c3, c5]
theorem s_RuleVars_ok {r_0 : RuleD} {r : (List ByteArray)} (h : s_RuleVars r_0 = some r) : Sound Tryz.prog J0 103 [(true, eRule r_0)] [(false, [(false, .sl 9 1 (List.map eStr r))])] := by
  refine fnk Tryz.func103 (by kernel_rfl) rfl (by kernel_rfl) (by kernel_rfl) ?_
  unfold s_RuleVars at h
  simp only [fnS, f103, argSt, go_sem, qa, qb, qc, qd, qe, qf, qg, qh, qi, qj, qk, reduceCtorEq, reduceIte]
  refine swp_for h (fun i row_12 st => IV [(1, .bp 0 0), (3, .p false [.row 1]), (4, .p false [.c (.int .i64 ((i : Nat) : Int))])] [.box 52 [.c (.str r_0.name), .c (.int .i64 r_0.priority), .c (.sl 99 5 (List.map eCond r_0.cond)), .c (.sl 62 3 (List.map eAction r_0.thn))], .row 9 1 (List.map eStr row_12) 2] st) [] [0, 32] (by decide) ?_ ?_ ?_
  · simp only [go_sem, qa, qb, qc, qd, qe, qf, qg, qh, qi, qj, qk, reduceCtorEq, reduceIte, IV, sts_cons, sts_nil, obs_cons, obs_nil]
  · rintro i61 x62 row_12 ⟨sl, ob, n⟩ y1 hx2 hI3 hW4 h hy1
    simp only [IV, sts_cons, sts_nil, obs_cons, obs_nil, and_true, true_and, Nat.reduceAdd, str_len] at hI3
    obtain ⟨⟨g5_1, g5_3, g5_4⟩, og5_0, og5_1, hn⟩ := hI3
    subst hn
    have hlhx2 := WF.boxL hW4 og5_0 (j := 2) rfl
    try simp only [go_sem, qa, qb, qc, qd, qe, qf, qg, qh, qi, qj, qk, reduceCtorEq, reduceIte, hx2, lt_t hx2, lt_p hx2, nat_in (lt_n hx2) hlhx2, g5_1, g5_3, g5_4, og5_0, og5_1]
    obtain ⟨v63, e6, h⟩ := bind_K h
    refine call_K (by first | exact s_CondVars_ok e6 | simpa only [go_sem, qa, qb, qc, qd, qe, qf, qg, qh, qi, qj, qk, reduceCtorEq, reduceIte, hx2, lt_t hx2, lt_p hx2, nat_in (lt_n hx2) hlhx2, g5_1, g5_3, g5_4, og5_0, og5_1] using s_CondVars_ok e6) ?_
    try simp only [go_sem, qa, qb, qc, qd, qe, qf, qg, qh, qi, qj, qk, reduceCtorEq, reduceIte, hx2, lt_t hx2, lt_p hx2, nat_in (lt_n hx2) hlhx2, g5_1, g5_3, g5_4, og5_0, og5_1]
    refine swp_for h (fun i row_66 st => IV [(1, .bp 0 0), (3, .p false [.row 1]), (4, .p false [.c (.int .i64 ((i61 : Nat) : Int))]), (5, .p false [.row 2]), (6, .p false [.c (.int .i64 ((i : Nat) : Int))])] [.box 52 [.c (.str r_0.name), .c (.int .i64 r_0.priority), .c (.sl 99 5 (List.map eCond r_0.cond)), .c (.sl 62 3 (List.map eAction r_0.thn))], .row 9 1 (List.map eStr row_66) 2, .row 9 1 (List.map eStr v63) 2] st) [] [0, 1, 162] (by decide) ?_ ?_ ?_
    · simp only [go_sem, qa, qb, qc, qd, qe, qf, qg, qh, qi, qj, qk, reduceCtorEq, reduceIte, IV, sts_cons, sts_nil, obs_cons, obs_nil, hx2, lt_t hx2, lt_p hx2, nat_in (lt_n hx2) hlhx2, g5_1, g5_3, g5_4, og5_0, og5_1]
    · rintro i70 x71 row_66 ⟨sl, ob, n⟩ y7 hx8 hI9 hW10 h hy7
      simp only [IV, sts_cons, sts_nil, obs_cons, obs_nil, and_true, true_and, Nat.reduceAdd, str_len] at hI9
      obtain ⟨⟨g11_1, g11_3, g11_4, g11_5, g11_6⟩, og11_0, og11_1, og11_2, hn⟩ := hI9
      subst hn
      have hlhx8 := WF.rowL hW10 og11_2
      try simp only [go_sem, qa, qb, qc, qd, qe, qf, qg, qh, qi, qj, qk, reduceCtorEq, reduceIte, hx2, lt_t hx2, lt_p hx2, nat_in (lt_n hx2) hlhx2, hx8, lt_t hx8, lt_p hx8, nat_in (lt_n hx8) hlhx8, g11_1, g11_3, g11_4, g11_5, g11_6, og11_0, og11_1, og11_2]
      obtain ⟨v72, e12, h⟩ := bind_K h
      refine call_K (by first | exact s_l1Put_ok e12 | simpa only [go_sem, qa, qb, qc, qd, qe, qf, qg, qh, qi, qj, qk, reduceCtorEq, reduceIte, hx2, lt_t hx2, lt_p hx2, nat_in (lt_n hx2) hlhx2, hx8, lt_t hx8, lt_p hx8, nat_in (lt_n hx8) hlhx8, g11_1, g11_3, g11_4, g11_5, g11_6, og11_0, og11_1, og11_2] using s_l1Put_ok e12) ?_
      try simp only [go_sem, qa, qb, qc, qd, qe, qf, qg, qh, qi, qj, qk, reduceCtorEq, reduceIte, hx2, lt_t hx2, lt_p hx2, nat_in (lt_n hx2) hlhx2, hx8, lt_t hx8, lt_p hx8, nat_in (lt_n hx8) hlhx8, g11_1, g11_3, g11_4, g11_5, g11_6, og11_0, og11_1, og11_2]
      refine ⟨_, [], [0, 147, 2], (Option.some.inj h).symm, by decide, ?_⟩
      try simp only [go_sem, qa, qb, qc, qd, qe, qf, qg, qh, qi, qj, qk, reduceCtorEq, reduceIte, hx2, lt_t hx2, lt_p hx2, nat_in (lt_n hx2) hlhx2, hx8, lt_t hx8, lt_p hx8, nat_in (lt_n hx8) hlhx8, g11_1, g11_3, g11_4, g11_5, g11_6, og11_0, og11_1, og11_2, IV, sts_cons, sts_nil, obs_cons, obs_nil]
    · rintro row_66 ⟨sl, ob, n⟩ hI13 hW14 h
      simp only [IV, sts_cons, sts_nil, obs_cons, obs_nil, and_true, true_and, Nat.reduceAdd, str_len] at hI13
      obtain ⟨⟨g15_1, g15_3, g15_4, g15_5, g15_6⟩, og15_0, og15_1, og15_2, hn⟩ := hI13
      subst hn
      try simp only [go_sem, qa, qb, qc, qd, qe, qf, qg, qh, qi, qj, qk, reduceCtorEq, reduceIte, hx2, lt_t hx2, lt_p hx2, nat_in (lt_n hx2) hlhx2, lt_f (v63.length), g15_1, g15_3, g15_4, g15_5, g15_6, og15_0, og15_1, og15_2]
      refine ⟨_, [], [0, 1], (Option.some.inj h).symm, by decide, ?_⟩
      try simp only [go_sem, qa, qb, qc, qd, qe, qf, qg, qh, qi, qj, qk, reduceCtorEq, reduceIte, hx2, lt_t hx2, lt_p hx2, nat_in (lt_n hx2) hlhx2, lt_f (v63.length), g15_1, g15_3, g15_4, g15_5, g15_6, og15_0, og15_1, og15_2, IV, sts_cons, sts_nil, obs_cons, obs_nil]
  · rintro row_12 ⟨sl, ob, n⟩ hI16 hW17 h
    simp only [IV, sts_cons, sts_nil, obs_cons, obs_nil, and_true, true_and, Nat.reduceAdd, str_len] at hI16
    obtain ⟨⟨g18_1, g18_3, g18_4⟩, og18_0, og18_1, hn⟩ := hI16
    subst hn
    try simp only [go_sem, qa, qb, qc, qd, qe, qf, qg, qh, qi, qj, qk, reduceCtorEq, reduceIte, lt_f (r_0.cond.length), g18_1, g18_3, g18_4, og18_0, og18_1]
    refine swp_for h (fun i row_84 st => IV [(1, .bp 0 0), (3, .p false [.row 1]), (7, .p false [.c (.int .i64 ((i : Nat) : Int))])] [.box 52 [.c (.str r_0.name), .c (.int .i64 r_0.priority), .c (.sl 99 5 (List.map eCond r_0.cond)), .c (.sl 62 3 (List.map eAction r_0.thn))], .row 9 1 (List.map eStr row_84) 2] st) [] [0, 1] (by decide) ?_ ?_ ?_
    · simp only [go_sem, qa, qb, qc, qd, qe, qf, qg, qh, qi, qj, qk, reduceCtorEq, reduceIte, IV, sts_cons, sts_nil, obs_cons, obs_nil, lt_f (r_0.cond.length), g18_1, g18_3, g18_4, og18_0, og18_1]
    · rintro i97 x98 row_84 ⟨sl, ob, n⟩ y19 hx20 hI21 hW22 h hy19
      simp only [IV, sts_cons, sts_nil, obs_cons, obs_nil, and_true, true_and, Nat.reduceAdd, str_len] at hI21
      obtain ⟨⟨g23_1, g23_3, g23_7⟩, og23_0, og23_1, hn⟩ := hI21
      subst hn
      have hlhx20 := WF.boxL hW22 og23_0 (j := 3) rfl
      try simp only [go_sem, qa, qb, qc, qd, qe, qf, qg, qh, qi, qj, qk, reduceCtorEq, reduceIte, lt_f (r_0.cond.length), hx20, lt_t hx20, lt_p hx20, nat_in (lt_n hx20) hlhx20, g23_1, g23_3, g23_7, og23_0, og23_1]
      obtain ⟨v99, e24, h⟩ := bind_K h
      refine call_K (by first | exact s_VarsOf_ok e24 | simpa only [go_sem, qa, qb, qc, qd, qe, qf, qg, qh, qi, qj, qk, reduceCtorEq, reduceIte, lt_f (r_0.cond.length), hx20, lt_t hx20, lt_p hx20, nat_in (lt_n hx20) hlhx20, g23_1, g23_3, g23_7, og23_0, og23_1] using s_VarsOf_ok e24) ?_
      try simp only [go_sem, qa, qb, qc, qd, qe, qf, qg, qh, qi, qj, qk, reduceCtorEq, reduceIte, lt_f (r_0.cond.length), hx20, lt_t hx20, lt_p hx20, nat_in (lt_n hx20) hlhx20, g23_1, g23_3, g23_7, og23_0, og23_1]
      refine swp_for h (fun i row_102 st => IV [(1, .bp 0 0), (3, .p false [.row 1]), (7, .p false [.c (.int .i64 ((i97 : Nat) : Int))]), (8, .p false [.row 2]), (9, .p false [.c (.int .i64 ((i : Nat) : Int))])] [.box 52 [.c (.str r_0.name), .c (.int .i64 r_0.priority), .c (.sl 99 5 (List.map eCond r_0.cond)), .c (.sl 62 3 (List.map eAction r_0.thn))], .row 9 1 (List.map eStr row_102) 2, .row 9 1 (List.map eStr v99) 2] st) [] [0, 1, 178] (by decide) ?_ ?_ ?_
      · simp only [go_sem, qa, qb, qc, qd, qe, qf, qg, qh, qi, qj, qk, reduceCtorEq, reduceIte, IV, sts_cons, sts_nil, obs_cons, obs_nil, lt_f (r_0.cond.length), hx20, lt_t hx20, lt_p hx20, nat_in (lt_n hx20) hlhx20, g23_1, g23_3, g23_7, og23_0, og23_1]
      · rintro i106 x107 row_102 ⟨sl, ob, n⟩ y25 hx26 hI27 hW28 h hy25
        simp only [IV, sts_cons, sts_nil, obs_cons, obs_nil, and_true, true_and, Nat.reduceAdd, str_len] at hI27
        obtain ⟨⟨g29_1, g29_3, g29_7, g29_8, g29_9⟩, og29_0, og29_1, og29_2, hn⟩ := hI27
        subst hn
        have hlhx26 := WF.rowL hW28 og29_2
        try simp only [go_sem, qa, qb, qc, qd, qe, qf, qg, qh, qi, qj, qk, reduceCtorEq, reduceIte, lt_f (r_0.cond.length), hx20, lt_t hx20, lt_p hx20, nat_in (lt_n hx20) hlhx20, hx26, lt_t hx26, lt_p hx26, nat_in (lt_n hx26) hlhx26, g29_1, g29_3, g29_7, g29_8, g29_9, og29_0, og29_1, og29_2]
        obtain ⟨v108, e30, h⟩ := bind_K h
        refine call_K (by first | exact s_l1Put_ok e30 | simpa only [go_sem, qa, qb, qc, qd, qe, qf, qg, qh, qi, qj, qk, reduceCtorEq, reduceIte, lt_f (r_0.cond.length), hx20, lt_t hx20, lt_p hx20, nat_in (lt_n hx20) hlhx20, hx26, lt_t hx26, lt_p hx26, nat_in (lt_n hx26) hlhx26, g29_1, g29_3, g29_7, g29_8, g29_9, og29_0, og29_1, og29_2] using s_l1Put_ok e30) ?_
        try simp only [go_sem, qa, qb, qc, qd, qe, qf, qg, qh, qi, qj, qk, reduceCtorEq, reduceIte, lt_f (r_0.cond.length), hx20, lt_t hx20, lt_p hx20, nat_in (lt_n hx20) hlhx20, hx26, lt_t hx26, lt_p hx26, nat_in (lt_n hx26) hlhx26, g29_1, g29_3, g29_7, g29_8, g29_9, og29_0, og29_1, og29_2]
        refine ⟨_, [], [0, 147, 2], (Option.some.inj h).symm, by decide, ?_⟩
        try simp only [go_sem, qa, qb, qc, qd, qe, qf, qg, qh, qi, qj, qk, reduceCtorEq, reduceIte, lt_f (r_0.cond.length), hx20, lt_t hx20, lt_p hx20, nat_in (lt_n hx20) hlhx20, hx26, lt_t hx26, lt_p hx26, nat_in (lt_n hx26) hlhx26, g29_1, g29_3, g29_7, g29_8, g29_9, og29_0, og29_1, og29_2, IV, sts_cons, sts_nil, obs_cons, obs_nil]
      · rintro row_102 ⟨sl, ob, n⟩ hI31 hW32 h
        simp only [IV, sts_cons, sts_nil, obs_cons, obs_nil, and_true, true_and, Nat.reduceAdd, str_len] at hI31
        obtain ⟨⟨g33_1, g33_3, g33_7, g33_8, g33_9⟩, og33_0, og33_1, og33_2, hn⟩ := hI31
        subst hn
        try simp only [go_sem, qa, qb, qc, qd, qe, qf, qg, qh, qi, qj, qk, reduceCtorEq, reduceIte, lt_f (r_0.cond.length), hx20, lt_t hx20, lt_p hx20, nat_in (lt_n hx20) hlhx20, lt_f (v99.length), g33_1, g33_3, g33_7, g33_8, g33_9, og33_0, og33_1, og33_2]
        refine ⟨_, [], [0, 1], (Option.some.inj h).symm, by decide, ?_⟩
        try simp only [go_sem, qa, qb, qc, qd, qe, qf, qg, qh, qi, qj, qk, reduceCtorEq, reduceIte, lt_f (r_0.cond.length), hx20, lt_t hx20, lt_p hx20, nat_in (lt_n hx20) hlhx20, lt_f (v99.length), g33_1, g33_3, g33_7, g33_8, g33_9, og33_0, og33_1, og33_2, IV, sts_cons, sts_nil, obs_cons, obs_nil]
    · rintro row_84 ⟨sl, ob, n⟩ hI34 hW35 h
      simp only [IV, sts_cons, sts_nil, obs_cons, obs_nil, and_true, true_and, Nat.reduceAdd, str_len] at hI34
      obtain ⟨⟨g36_1, g36_3, g36_7⟩, og36_0, og36_1, hn⟩ := hI34
      subst hn
      obtain rfl := Option.some.inj h
      try simp only [go_sem, qa, qb, qc, qd, qe, qf, qg, qh, qi, qj, qk, reduceCtorEq, reduceIte, lt_f (r_0.cond.length), lt_f (r_0.thn.length), g36_1, g36_3, g36_7, og36_0, og36_1]
end Go.Proofs.YtlkgkkacnoaeaaaGreatDoor

namespace Go.Proofs.YtlkgkkacnoaeaaaGreatDoor
open Go.Proofs.Tryz
open Int renaming reduceLT → qa, reduceLE → qb, reduceBEq → qc, reduceBNe → qd
open Nat renaming reduceBNe → qe, reduceAdd → qf, reduceMul → qg, reduceEqDiff → qh, reduceLeDiff → qi, reduceLT → qj, reduceBEq → qk
set_option linter.unusedSimpArgs false
set_option linter.unusedVariables false
set_option maxRecDepth 1000000
set_option maxHeartbeats 4000000
theorem s_IsTest_ok {x_0 : CondD} {r : Bool} (h : s_IsTest x_0 = some r) : Sound Tryz.prog J0 99 [(true, eCond x_0)] [(false, [(false, .bool r)])] := by
  refine fnk Tryz.func99 (by kernel_rfl) rfl (by kernel_rfl) (by kernel_rfl) ?_
  unfold s_IsTest at h
  simp only [fnS, f99, argSt, go_sem, qa, qb, qc, qd, qe, qf, qg, qh, qi, qj, qk, reduceCtorEq, reduceIte]
  obtain ⟨v1, e1, h⟩ := bind_K h
  refine call_K (by first | exact s_IsCond_ok e1 | simpa only [go_sem, qa, qb, qc, qd, qe, qf, qg, qh, qi, qj, qk, reduceCtorEq, reduceIte] using s_IsCond_ok e1) ?_
  try simp only [go_sem, qa, qb, qc, qd, qe, qf, qg, qh, qi, qj, qk, reduceCtorEq, reduceIte]
  refine ite_K h (fun c2 h => ?_) (fun c2 h => ?_)
  · obtain rfl := Option.some.inj h
    try simp only [go_sem, qa, qb, qc, qd, qe, qf, qg, qh, qi, qj, qk, reduceCtorEq, reduceIte, c2]
  · obtain rfl := Option.some.inj h
    try simp only [go_sem, qa, qb, qc, qd, qe, qf, qg, qh, qi, qj, qk, reduceCtorEq, reduceIte, c2]
theorem s_MatchingFacts_ok {p_0 : PatternD} {b_1 : (List PairD)} {facts_2 : (List FactD)} {r : (List FactD)} (h : s_MatchingFacts p_0 b_1 facts_2 = some r) : Sound Tryz.prog J0 150 [(true, ePattern p_0), (false, [.sl 119 2 (List.map ePair b_1)]), (false, [.sl 57 2 (List.map eFact facts_2)])] [(false, [(false, .sl 57 2 (List.map eFact r))])] := by
  refine fnk Tryz.func150 (by kernel_rfl) rfl (by kernel_rfl) (by kernel_rfl) ?_
  unfold s_MatchingFacts at h
  simp only [fnS, f150, argSt, go_sem, qa, qb, qc, qd, qe, qf, qg, qh, qi, qj, qk, reduceCtorEq, reduceIte]
  refine swp_for h (fun i row_4 st => IV [(1, .p false [.c (.sl 119 2 (List.map ePair b_1))]), (2, .p false [.c (.sl 57 2 (List.map eFact facts_2))]), (3, .bp 0 0), (7, .p false [.row 1]), (8, .p false [.c (.int .i64 ((i : Nat) : Int))])] [.box 60 [.c (.str p_0.rel), .c (.sl 9 1 (List.map eStr p_0.args))], .row 57 2 (List.map eFact row_4) 2] st) [] [0, 32] (by decide) ?_ ?_ ?_
  · simp only [go_sem, qa, qb, qc, qd, qe, qf, qg, qh, qi, qj, qk, reduceCtorEq, reduceIte, IV, sts_cons, sts_nil, obs_cons, obs_nil]
  · rintro i9 x10 row_4 ⟨sl, ob, n⟩ y1 hx2 hI3 hW4 h hy1
    simp only [IV, sts_cons, sts_nil, obs_cons, obs_nil, and_true, true_and, Nat.reduceAdd, str_len] at hI3
    obtain ⟨⟨g5_1, g5_2, g5_3, g5_7, g5_8⟩, og5_0, og5_1, hn⟩ := hI3
    subst hn
    have hlhx2 := WF.slotL hW4 g5_2 (j := 0) rfl
    try simp only [go_sem, qa, qb, qc, qd, qe, qf, qg, qh, qi, qj, qk, reduceCtorEq, reduceIte, hx2, lt_t hx2, lt_p hx2, nat_in (lt_n hx2) hlhx2, g5_1, g5_2, g5_3, g5_7, g5_8, og5_0, og5_1]
    obtain ⟨v11, e6, h⟩ := bind_K h
    refine call_K (by first | exact s_MatchFact_ok e6 | simpa only [go_sem, qa, qb, qc, qd, qe, qf, qg, qh, qi, qj, qk, reduceCtorEq, reduceIte, hx2, lt_t hx2, lt_p hx2, nat_in (lt_n hx2) hlhx2, g5_1, g5_2, g5_3, g5_7, g5_8, og5_0, og5_1] using s_MatchFact_ok e6) ?_
    try simp only [go_sem, qa, qb, qc, qd, qe, qf, qg, qh, qi, qj, qk, reduceCtorEq, reduceIte, hx2, lt_t hx2, lt_p hx2, nat_in (lt_n hx2) hlhx2, g5_1, g5_2, g5_3, g5_7, g5_8, og5_0, og5_1]
    refine ite_K h (fun c7 h => ?_) (fun c7 h => ?_)
    · try simp only [go_sem, qa, qb, qc, qd, qe, qf, qg, qh, qi, qj, qk, reduceCtorEq, reduceIte, hx2, lt_t hx2, lt_p hx2, nat_in (lt_n hx2) hlhx2, c7, g5_1, g5_2, g5_3, g5_7, g5_8, og5_0, og5_1]
      obtain ⟨v12, e8, h⟩ := bind_K h
      refine call_K (by first | exact s_l2Copy_ok e8 | simpa only [go_sem, qa, qb, qc, qd, qe, qf, qg, qh, qi, qj, qk, reduceCtorEq, reduceIte, hx2, lt_t hx2, lt_p hx2, nat_in (lt_n hx2) hlhx2, c7, g5_1, g5_2, g5_3, g5_7, g5_8, og5_0, og5_1] using s_l2Copy_ok e8) ?_
      obtain ⟨p9, h⟩ := chk_K h
      try simp only [Nat.reduceLeDiff] at p9
      try simp only [go_sem, qa, qb, qc, qd, qe, qf, qg, qh, qi, qj, qk, reduceCtorEq, reduceIte, hx2, lt_t hx2, lt_p hx2, nat_in (lt_n hx2) hlhx2, c7, p9, g5_1, g5_2, g5_3, g5_7, g5_8, og5_0, og5_1]
      refine ⟨_, [], [0, 386], (Option.some.inj h).symm, by decide, ?_⟩
      try simp only [go_sem, qa, qb, qc, qd, qe, qf, qg, qh, qi, qj, qk, reduceCtorEq, reduceIte, hx2, lt_t hx2, lt_p hx2, nat_in (lt_n hx2) hlhx2, c7, p9, g5_1, g5_2, g5_3, g5_7, g5_8, og5_0, og5_1, IV, sts_cons, sts_nil, obs_cons, obs_nil]
    · try simp only [go_sem, qa, qb, qc, qd, qe, qf, qg, qh, qi, qj, qk, reduceCtorEq, reduceIte, hx2, lt_t hx2, lt_p hx2, nat_in (lt_n hx2) hlhx2, c7, g5_1, g5_2, g5_3, g5_7, g5_8, og5_0, og5_1]
      refine ⟨_, [], [0, 1], (Option.some.inj h).symm, by decide, ?_⟩
      try simp only [go_sem, qa, qb, qc, qd, qe, qf, qg, qh, qi, qj, qk, reduceCtorEq, reduceIte, hx2, lt_t hx2, lt_p hx2, nat_in (lt_n hx2) hlhx2, c7, g5_1, g5_2, g5_3, g5_7, g5_8, og5_0, og5_1, IV, sts_cons, sts_nil, obs_cons, obs_nil]
  · rintro row_4 ⟨sl, ob, n⟩ hI10 hW11 h
    simp only [IV, sts_cons, sts_nil, obs_cons, obs_nil, and_true, true_and, Nat.reduceAdd, str_len] at hI10
    obtain ⟨⟨g12_1, g12_2, g12_3, g12_7, g12_8⟩, og12_0, og12_1, hn⟩ := hI10
    subst hn
    obtain rfl := Option.some.inj h
    try simp only [go_sem, qa, qb, qc, qd, qe, qf, qg, qh, qi, qj, qk, reduceCtorEq, reduceIte, lt_f (facts_2.length), g12_1, g12_2, g12_3, g12_7, g12_8, og12_0, og12_1]
theorem i_IsRule_ok {append_0 : RuleD} {r : Bool} (h : i_IsRule append_0 = some r) : Sound Tryz.prog J0 64 [(true, eRule append_0)] [(false, [(false, .bool r)])] := by
  refine fnk Tryz.func64 (by kernel_rfl) rfl (by kernel_rfl) (by kernel_rfl) ?_
  unfold i_IsRule at h
  simp only [fnS, f64, argSt, go_sem, qa, qb, qc, qd, qe, qf, qg, qh, qi, qj, qk, reduceCtorEq, reduceIte]
  obtain ⟨v1, e1, h⟩ := bind_K h
  refine call_K (by first | exact i_IsName_ok e1 | simpa only [go_sem, qa, qb, qc, qd, qe, qf, qg, qh, qi, qj, qk, reduceCtorEq, reduceIte] using i_IsName_ok e1) ?_
  try simp only [go_sem, qa, qb, qc, qd, qe, qf, qg, qh, qi, qj, qk, reduceCtorEq, reduceIte]
  refine ite_K h (fun c2 h => ?_) (fun c2 h => ?_)
  · try simp only [go_sem, qa, qb, qc, qd, qe, qf, qg, qh, qi, qj, qk, reduceCtorEq, reduceIte, c2]
    refine ite_K h (fun c3 h => ?_) (fun c3 h => ?_)
    · obtain rfl := Option.some.inj h
      try simp only [go_sem, qa, qb, qc, qd, qe, qf, qg, qh, qi, qj, qk, reduceCtorEq, reduceIte, c2, c3]
    · try simp only [go_sem, qa, qb, qc, qd, qe, qf, qg, qh, qi, qj, qk, reduceCtorEq, reduceIte, c2, c3]
      refine ite_K h (fun c4 h => ?_) (fun c4 h => ?_)
      · obtain rfl := Option.some.inj h
        try simp only [go_sem, qa, qb, qc, qd, qe, qf, qg, qh, qi, qj, qk, reduceCtorEq, reduceIte, c2, c3, c4]
      · try simp only [go_sem, qa, qb, qc, qd, qe, qf, qg, qh, qi, qj, qk, reduceCtorEq, reduceIte, c2, c3, c4]
        refine ite_K h (fun c5 h => ?_) (fun c5 h => ?_)
        · obtain rfl := Option.some.inj h
          try simp only [go_sem, qa, qb, qc, qd, qe, qf, qg, qh, qi, qj, qk, reduceCtorEq, reduceIte, c2, c3, c4, c5]
        · try simp only [go_sem, qa, qb, qc, qd, qe, qf, qg, qh, qi, qj, qk, reduceCtorEq, reduceIte, c2, c3, c4, c5]
          refine ite_K h (fun c6 h => ?_) (fun c6 h => ?_)
          · obtain rfl := Option.some.inj h
            try simp only [go_sem, qa, qb, qc, qd, qe, qf, qg, qh, qi, qj, qk, reduceCtorEq, reduceIte, c2, c3, c4, c5, c6]
          · try simp only [go_sem, qa, qb, qc, qd, qe, qf, qg, qh, qi, qj, qk, reduceCtorEq, reduceIte, c2, c3, c4, c5, c6]
            refine ite_K h (fun c7 h => ?_) (fun c7 h => ?_)
            · obtain rfl := Option.some.inj h
              try simp only [go_sem, qa, qb, qc, qd, qe, qf, qg, qh, qi, qj, qk, reduceCtorEq, reduceIte, c2, c3, c4, c5, c6, c7]
            · try simp only [go_sem, qa, qb, qc, qd, qe, qf, qg, qh, qi, qj, qk, reduceCtorEq, reduceIte, c2, c3, c4, c5, c6, c7]
              refine ite_K h (fun c8 h => ?_) (fun c8 h => ?_)
              · obtain rfl := Option.some.inj h
                try simp only [go_sem, qa, qb, qc, qd, qe, qf, qg, qh, qi, qj, qk, reduceCtorEq, reduceIte, c2, c3, c4, c5, c6, c7, c8]
              · try simp only [go_sem, qa, qb, qc, qd, qe, qf, qg, qh, qi, qj, qk, reduceCtorEq, reduceIte, c2, c3, c4, c5, c6, c7, c8]
                refine swp_for h (fun i _ st => IV [(1, .bp 0 0), (49, .p false [.c (.sl 99 5 (List.map eCond append_0.cond))]), (50, .p false [.c (.int .i64 ((append_0.cond.length : Nat) : Int))]), (51, .p false [.c (.int .i64 ((i : Nat) : Int))])] [.box 52 [.c (.str append_0.name), .c (.int .i64 append_0.priority), .c (.sl 99 5 (List.map eCond append_0.cond)), .c (.sl 62 3 (List.map eAction append_0.thn))]] st) [] [0] (by decide) ?_ ?_ ?_
                · simp only [go_sem, qa, qb, qc, qd, qe, qf, qg, qh, qi, qj, qk, reduceCtorEq, reduceIte, IV, sts_cons, sts_nil, obs_cons, obs_nil, c2, c3, c4, c5, c6, c7, c8]
                · rintro i50 x51 ⟨⟩ ⟨sl, ob, n⟩ y9 hx10 hI11 hW12 h hy9
                  simp only [IV, sts_cons, sts_nil, obs_cons, obs_nil, and_true, true_and, Nat.reduceAdd, str_len] at hI11
                  obtain ⟨⟨g13_1, g13_49, g13_50, g13_51⟩, og13_0, hn⟩ := hI11
                  subst hn
                  have hlhx10 := WF.slotL hW12 g13_49 (j := 0) rfl
                  try simp only [go_sem, qa, qb, qc, qd, qe, qf, qg, qh, qi, qj, qk, reduceCtorEq, reduceIte, c2, c3, c4, c5, c6, c7, c8, hx10, lt_t hx10, lt_p hx10, nat_in (lt_n hx10) hlhx10, g13_1, g13_49, g13_50, g13_51, og13_0]
                  obtain ⟨v52, e14, h⟩ := bind_K h
                  refine call_K (by first | exact i_IsCond_ok e14 | simpa only [go_sem, qa, qb, qc, qd, qe, qf, qg, qh, qi, qj, qk, reduceCtorEq, reduceIte, c2, c3, c4, c5, c6, c7, c8, hx10, lt_t hx10, lt_p hx10, nat_in (lt_n hx10) hlhx10, g13_1, g13_49, g13_50, g13_51, og13_0] using i_IsCond_ok e14) ?_
                  try simp only [go_sem, qa, qb, qc, qd, qe, qf, qg, qh, qi, qj, qk, reduceCtorEq, reduceIte, c2, c3, c4, c5, c6, c7, c8, hx10, lt_t hx10, lt_p hx10, nat_in (lt_n hx10) hlhx10, g13_1, g13_49, g13_50, g13_51, og13_0]
                  refine ite_K h (fun c15 h => ?_) (fun c15 h => ?_)
                  · try simp only [go_sem, qa, qb, qc, qd, qe, qf, qg, qh, qi, qj, qk, reduceCtorEq, reduceIte, c2, c3, c4, c5, c6, c7, c8, hx10, lt_t hx10, lt_p hx10, nat_in (lt_n hx10) hlhx10, c15, g13_1, g13_49, g13_50, g13_51, og13_0]
                    refine ite_K h (fun c16 h => ?_) (fun c16 h => ?_)
                    · try simp only [go_sem, qa, qb, qc, qd, qe, qf, qg, qh, qi, qj, qk, reduceCtorEq, reduceIte, c2, c3, c4, c5, c6, c7, c8, hx10, lt_t hx10, lt_p hx10, nat_in (lt_n hx10) hlhx10, c15, c16, g13_1, g13_49, g13_50, g13_51, og13_0]
                      refine ite_K h (fun c17 h => ?_) (fun c17 h => ?_)
                      · replace h := inr_K h hy9
                        obtain rfl := Option.some.inj h
                        try simp only [go_sem, qa, qb, qc, qd, qe, qf, qg, qh, qi, qj, qk, reduceCtorEq, reduceIte, c2, c3, c4, c5, c6, c7, c8, hx10, lt_t hx10, lt_p hx10, nat_in (lt_n hx10) hlhx10, c15, c16, c17, g13_1, g13_49, g13_50, g13_51, og13_0]
                      · try simp only [go_sem, qa, qb, qc, qd, qe, qf, qg, qh, qi, qj, qk, reduceCtorEq, reduceIte, c2, c3, c4, c5, c6, c7, c8, hx10, lt_t hx10, lt_p hx10, nat_in (lt_n hx10) hlhx10, c15, c16, c17, g13_1, g13_49, g13_50, g13_51, og13_0]
                        obtain ⟨v53, e18, h⟩ := bind_K h
                        refine call_K (by first | exact i_condFits_ok e18 | simpa only [go_sem, qa, qb, qc, qd, qe, qf, qg, qh, qi, qj, qk, reduceCtorEq, reduceIte, c2, c3, c4, c5, c6, c7, c8, hx10, lt_t hx10, lt_p hx10, nat_in (lt_n hx10) hlhx10, c15, c16, c17, g13_1, g13_49, g13_50, g13_51, og13_0] using i_condFits_ok e18) ?_
                        try simp only [go_sem, qa, qb, qc, qd, qe, qf, qg, qh, qi, qj, qk, reduceCtorEq, reduceIte, c2, c3, c4, c5, c6, c7, c8, hx10, lt_t hx10, lt_p hx10, nat_in (lt_n hx10) hlhx10, c15, c16, c17, g13_1, g13_49, g13_50, g13_51, og13_0]
                        refine ite_K h (fun c19 h => ?_) (fun c19 h => ?_)
                        · try simp only [go_sem, qa, qb, qc, qd, qe, qf, qg, qh, qi, qj, qk, reduceCtorEq, reduceIte, c2, c3, c4, c5, c6, c7, c8, hx10, lt_t hx10, lt_p hx10, nat_in (lt_n hx10) hlhx10, c15, c16, c17, c19, g13_1, g13_49, g13_50, g13_51, og13_0]
                          refine ⟨_, [], [0], (Option.some.inj h).symm, by decide, ?_⟩
                          try simp only [go_sem, qa, qb, qc, qd, qe, qf, qg, qh, qi, qj, qk, reduceCtorEq, reduceIte, c2, c3, c4, c5, c6, c7, c8, hx10, lt_t hx10, lt_p hx10, nat_in (lt_n hx10) hlhx10, c15, c16, c17, c19, g13_1, g13_49, g13_50, g13_51, og13_0, IV, sts_cons, sts_nil, obs_cons, obs_nil]
                        · replace h := inr_K h hy9
                          obtain rfl := Option.some.inj h
                          try simp only [go_sem, qa, qb, qc, qd, qe, qf, qg, qh, qi, qj, qk, reduceCtorEq, reduceIte, c2, c3, c4, c5, c6, c7, c8, hx10, lt_t hx10, lt_p hx10, nat_in (lt_n hx10) hlhx10, c15, c16, c17, c19, g13_1, g13_49, g13_50, g13_51, og13_0]
                    · try simp only [go_sem, qa, qb, qc, qd, qe, qf, qg, qh, qi, qj, qk, reduceCtorEq, reduceIte, c2, c3, c4, c5, c6, c7, c8, hx10, lt_t hx10, lt_p hx10, nat_in (lt_n hx10) hlhx10, c15, c16, g13_1, g13_49, g13_50, g13_51, og13_0]
                      obtain ⟨v54, e20, h⟩ := bind_K h
                      refine call_K (by first | exact i_condFits_ok e20 | simpa only [go_sem, qa, qb, qc, qd, qe, qf, qg, qh, qi, qj, qk, reduceCtorEq, reduceIte, c2, c3, c4, c5, c6, c7, c8, hx10, lt_t hx10, lt_p hx10, nat_in (lt_n hx10) hlhx10, c15, c16, g13_1, g13_49, g13_50, g13_51, og13_0] using i_condFits_ok e20) ?_
                      try simp only [go_sem, qa, qb, qc, qd, qe, qf, qg, qh, qi, qj, qk, reduceCtorEq, reduceIte, c2, c3, c4, c5, c6, c7, c8, hx10, lt_t hx10, lt_p hx10, nat_in (lt_n hx10) hlhx10, c15, c16, g13_1, g13_49, g13_50, g13_51, og13_0]
                      refine ite_K h (fun c21 h => ?_) (fun c21 h => ?_)
                      · try simp only [go_sem, qa, qb, qc, qd, qe, qf, qg, qh, qi, qj, qk, reduceCtorEq, reduceIte, c2, c3, c4, c5, c6, c7, c8, hx10, lt_t hx10, lt_p hx10, nat_in (lt_n hx10) hlhx10, c15, c16, c21, g13_1, g13_49, g13_50, g13_51, og13_0]
                        refine ⟨_, [], [0], (Option.some.inj h).symm, by decide, ?_⟩
                        try simp only [go_sem, qa, qb, qc, qd, qe, qf, qg, qh, qi, qj, qk, reduceCtorEq, reduceIte, c2, c3, c4, c5, c6, c7, c8, hx10, lt_t hx10, lt_p hx10, nat_in (lt_n hx10) hlhx10, c15, c16, c21, g13_1, g13_49, g13_50, g13_51, og13_0, IV, sts_cons, sts_nil, obs_cons, obs_nil]
                      · replace h := inr_K h hy9
                        obtain rfl := Option.some.inj h
                        try simp only [go_sem, qa, qb, qc, qd, qe, qf, qg, qh, qi, qj, qk, reduceCtorEq, reduceIte, c2, c3, c4, c5, c6, c7, c8, hx10, lt_t hx10, lt_p hx10, nat_in (lt_n hx10) hlhx10, c15, c16, c21, g13_1, g13_49, g13_50, g13_51, og13_0]
                  · replace h := inr_K h hy9
                    obtain rfl := Option.some.inj h
                    try simp only [go_sem, qa, qb, qc, qd, qe, qf, qg, qh, qi, qj, qk, reduceCtorEq, reduceIte, c2, c3, c4, c5, c6, c7, c8, hx10, lt_t hx10, lt_p hx10, nat_in (lt_n hx10) hlhx10, c15, g13_1, g13_49, g13_50, g13_51, og13_0]
                · rintro ⟨⟩ ⟨sl, ob, n⟩ hI22 hW23 h
                  simp only [IV, sts_cons, sts_nil, obs_cons, obs_nil, and_true, true_and, Nat.reduceAdd, str_len] at hI22
                  obtain ⟨⟨g24_1, g24_49, g24_50, g24_51⟩, og24_0, hn⟩ := hI22
                  subst hn
                  try simp only [go_sem, qa, qb, qc, qd, qe, qf, qg, qh, qi, qj, qk, reduceCtorEq, reduceIte, c2, c3, c4, c5, c6, c7, c8, lt_f (append_0.cond.length), g24_1, g24_49, g24_50, g24_51, og24_0]
                  obtain ⟨v55, e25, h⟩ := bind_K h
                  refine call_K (by first | exact i_BoundVars_ok e25 | simpa only [go_sem, qa, qb, qc, qd, qe, qf, qg, qh, qi, qj, qk, reduceCtorEq, reduceIte, c2, c3, c4, c5, c6, c7, c8, lt_f (append_0.cond.length), g24_1, g24_49, g24_50, g24_51, og24_0] using i_BoundVars_ok e25) ?_
                  try simp only [go_sem, qa, qb, qc, qd, qe, qf, qg, qh, qi, qj, qk, reduceCtorEq, reduceIte, c2, c3, c4, c5, c6, c7, c8, lt_f (append_0.cond.length), g24_1, g24_49, g24_50, g24_51, og24_0]
                  refine swp_for h (fun i _ st => IV [(1, .bp 0 0), (5, .p false [.row 1]), (81, .p false [.c (.sl 62 3 (List.map eAction append_0.thn))]), (82, .p false [.c (.int .i64 ((append_0.thn.length : Nat) : Int))]), (83, .p false [.c (.int .i64 ((i : Nat) : Int))])] [.box 52 [.c (.str append_0.name), .c (.int .i64 append_0.priority), .c (.sl 99 5 (List.map eCond append_0.cond)), .c (.sl 62 3 (List.map eAction append_0.thn))], .row 9 1 (List.map eStr v55) 2] st) [] [0, 81] (by decide) ?_ ?_ ?_
                  · simp only [go_sem, qa, qb, qc, qd, qe, qf, qg, qh, qi, qj, qk, reduceCtorEq, reduceIte, IV, sts_cons, sts_nil, obs_cons, obs_nil, c2, c3, c4, c5, c6, c7, c8, lt_f (append_0.cond.length), g24_1, g24_49, g24_50, g24_51, og24_0]
                  · rintro i81 x82 ⟨⟩ ⟨sl, ob, n⟩ y26 hx27 hI28 hW29 h hy26
                    simp only [IV, sts_cons, sts_nil, obs_cons, obs_nil, and_true, true_and, Nat.reduceAdd, str_len] at hI28
                    obtain ⟨⟨g30_1, g30_5, g30_81, g30_82, g30_83⟩, og30_0, og30_1, hn⟩ := hI28
                    subst hn
                    have hlhx27 := WF.slotL hW29 g30_81 (j := 0) rfl
                    try simp only [go_sem, qa, qb, qc, qd, qe, qf, qg, qh, qi, qj, qk, reduceCtorEq, reduceIte, c2, c3, c4, c5, c6, c7, c8, lt_f (append_0.cond.length), hx27, lt_t hx27, lt_p hx27, nat_in (lt_n hx27) hlhx27, g30_1, g30_5, g30_81, g30_82, g30_83, og30_0, og30_1]
                    obtain ⟨v83, e31, h⟩ := bind_K h
                    refine call_K (by first | exact i_IsAction_ok e31 | simpa only [go_sem, qa, qb, qc, qd, qe, qf, qg, qh, qi, qj, qk, reduceCtorEq, reduceIte, c2, c3, c4, c5, c6, c7, c8, lt_f (append_0.cond.length), hx27, lt_t hx27, lt_p hx27, nat_in (lt_n hx27) hlhx27, g30_1, g30_5, g30_81, g30_82, g30_83, og30_0, og30_1] using i_IsAction_ok e31) ?_
                    try simp only [go_sem, qa, qb, qc, qd, qe, qf, qg, qh, qi, qj, qk, reduceCtorEq, reduceIte, c2, c3, c4, c5, c6, c7, c8, lt_f (append_0.cond.length), hx27, lt_t hx27, lt_p hx27, nat_in (lt_n hx27) hlhx27, g30_1, g30_5, g30_81, g30_82, g30_83, og30_0, og30_1]
                    refine ite_K h (fun c32 h => ?_) (fun c32 h => ?_)
                    · try simp only [go_sem, qa, qb, qc, qd, qe, qf, qg, qh, qi, qj, qk, reduceCtorEq, reduceIte, c2, c3, c4, c5, c6, c7, c8, lt_f (append_0.cond.length), hx27, lt_t hx27, lt_p hx27, nat_in (lt_n hx27) hlhx27, c32, g30_1, g30_5, g30_81, g30_82, g30_83, og30_0, og30_1]
                      obtain ⟨v84, e33, h⟩ := bind_K h
                      refine call_K (by first | exact i_varsAmong_ok e33 | simpa only [go_sem, qa, qb, qc, qd, qe, qf, qg, qh, qi, qj, qk, reduceCtorEq, reduceIte, c2, c3, c4, c5, c6, c7, c8, lt_f (append_0.cond.length), hx27, lt_t hx27, lt_p hx27, nat_in (lt_n hx27) hlhx27, c32, g30_1, g30_5, g30_81, g30_82, g30_83, og30_0, og30_1] using i_varsAmong_ok e33) ?_
                      try simp only [go_sem, qa, qb, qc, qd, qe, qf, qg, qh, qi, qj, qk, reduceCtorEq, reduceIte, c2, c3, c4, c5, c6, c7, c8, lt_f (append_0.cond.length), hx27, lt_t hx27, lt_p hx27, nat_in (lt_n hx27) hlhx27, c32, g30_1, g30_5, g30_81, g30_82, g30_83, og30_0, og30_1]
                      refine swp_for h (fun i _ st => IV [(1, .bp 0 0), (5, .p false [.row 1]), (81, .p false [.c (.sl 62 3 (List.map eAction append_0.thn))]), (82, .p false [.c (.int .i64 ((append_0.thn.length : Nat) : Int))]), (83, .p false [.c (.int .i64 ((i81 : Nat) : Int))]), (93, .p false [.row 2]), (94, .p false [.c (.int .i64 ((v84.length : Nat) : Int))]), (95, .p false [.c (.int .i64 ((i : Nat) : Int))])] [.box 52 [.c (.str append_0.name), .c (.int .i64 append_0.priority), .c (.sl 99 5 (List.map eCond append_0.cond)), .c (.sl 62 3 (List.map eAction append_0.thn))], .row 9 1 (List.map eStr v55) 2, .row 9 1 (List.map eStr v84) 2] st) [] [0, 1, 178] (by decide) ?_ ?_ ?_
                      · simp only [go_sem, qa, qb, qc, qd, qe, qf, qg, qh, qi, qj, qk, reduceCtorEq, reduceIte, IV, sts_cons, sts_nil, obs_cons, obs_nil, c2, c3, c4, c5, c6, c7, c8, lt_f (append_0.cond.length), hx27, lt_t hx27, lt_p hx27, nat_in (lt_n hx27) hlhx27, c32, g30_1, g30_5, g30_81, g30_82, g30_83, og30_0, og30_1]
                      · rintro i90 x91 ⟨⟩ ⟨sl, ob, n⟩ y34 hx35 hI36 hW37 h hy34
                        simp only [IV, sts_cons, sts_nil, obs_cons, obs_nil, and_true, true_and, Nat.reduceAdd, str_len] at hI36
                        obtain ⟨⟨g38_1, g38_5, g38_81, g38_82, g38_83, g38_93, g38_94, g38_95⟩, og38_0, og38_1, og38_2, hn⟩ := hI36
                        subst hn
                        have hlhx35 := WF.rowL hW37 og38_2
                        try simp only [go_sem, qa, qb, qc, qd, qe, qf, qg, qh, qi, qj, qk, reduceCtorEq, reduceIte, c2, c3, c4, c5, c6, c7, c8, lt_f (append_0.cond.length), hx27, lt_t hx27, lt_p hx27, nat_in (lt_n hx27) hlhx27, c32, hx35, lt_t hx35, lt_p hx35, nat_in (lt_n hx35) hlhx35, g38_1, g38_5, g38_81, g38_82, g38_83, g38_93, g38_94, g38_95, og38_0, og38_1, og38_2]
                        obtain ⟨v92, e39, h⟩ := bind_K h
                        refine call_K (by first | exact i_hasText_ok e39 | simpa only [go_sem, qa, qb, qc, qd, qe, qf, qg, qh, qi, qj, qk, reduceCtorEq, reduceIte, c2, c3, c4, c5, c6, c7, c8, lt_f (append_0.cond.length), hx27, lt_t hx27, lt_p hx27, nat_in (lt_n hx27) hlhx27, c32, hx35, lt_t hx35, lt_p hx35, nat_in (lt_n hx35) hlhx35, g38_1, g38_5, g38_81, g38_82, g38_83, g38_93, g38_94, g38_95, og38_0, og38_1, og38_2] using i_hasText_ok e39) ?_
                        try simp only [go_sem, qa, qb, qc, qd, qe, qf, qg, qh, qi, qj, qk, reduceCtorEq, reduceIte, c2, c3, c4, c5, c6, c7, c8, lt_f (append_0.cond.length), hx27, lt_t hx27, lt_p hx27, nat_in (lt_n hx27) hlhx27, c32, hx35, lt_t hx35, lt_p hx35, nat_in (lt_n hx35) hlhx35, g38_1, g38_5, g38_81, g38_82, g38_83, g38_93, g38_94, g38_95, og38_0, og38_1, og38_2]
                        refine ite_K h (fun c40 h => ?_) (fun c40 h => ?_)
                        · try simp only [go_sem, qa, qb, qc, qd, qe, qf, qg, qh, qi, qj, qk, reduceCtorEq, reduceIte, c2, c3, c4, c5, c6, c7, c8, lt_f (append_0.cond.length), hx27, lt_t hx27, lt_p hx27, nat_in (lt_n hx27) hlhx27, c32, hx35, lt_t hx35, lt_p hx35, nat_in (lt_n hx35) hlhx35, c40, g38_1, g38_5, g38_81, g38_82, g38_83, g38_93, g38_94, g38_95, og38_0, og38_1, og38_2]
                          refine ⟨_, [], [0, 1, 2], (Option.some.inj h).symm, by decide, ?_⟩
                          try simp only [go_sem, qa, qb, qc, qd, qe, qf, qg, qh, qi, qj, qk, reduceCtorEq, reduceIte, c2, c3, c4, c5, c6, c7, c8, lt_f (append_0.cond.length), hx27, lt_t hx27, lt_p hx27, nat_in (lt_n hx27) hlhx27, c32, hx35, lt_t hx35, lt_p hx35, nat_in (lt_n hx35) hlhx35, c40, g38_1, g38_5, g38_81, g38_82, g38_83, g38_93, g38_94, g38_95, og38_0, og38_1, og38_2, IV, sts_cons, sts_nil, obs_cons, obs_nil]
                        · replace h := inr_K h hy34
                          replace h := inr_K h hy26
                          obtain rfl := Option.some.inj h
                          try simp only [go_sem, qa, qb, qc, qd, qe, qf, qg, qh, qi, qj, qk, reduceCtorEq, reduceIte, c2, c3, c4, c5, c6, c7, c8, lt_f (append_0.cond.length), hx27, lt_t hx27, lt_p hx27, nat_in (lt_n hx27) hlhx27, c32, hx35, lt_t hx35, lt_p hx35, nat_in (lt_n hx35) hlhx35, c40, g38_1, g38_5, g38_81, g38_82, g38_83, g38_93, g38_94, g38_95, og38_0, og38_1, og38_2]
                      · rintro ⟨⟩ ⟨sl, ob, n⟩ hI41 hW42 h
                        simp only [IV, sts_cons, sts_nil, obs_cons, obs_nil, and_true, true_and, Nat.reduceAdd, str_len] at hI41
                        obtain ⟨⟨g43_1, g43_5, g43_81, g43_82, g43_83, g43_93, g43_94, g43_95⟩, og43_0, og43_1, og43_2, hn⟩ := hI41
                        subst hn
                        try simp only [go_sem, qa, qb, qc, qd, qe, qf, qg, qh, qi, qj, qk, reduceCtorEq, reduceIte, c2, c3, c4, c5, c6, c7, c8, lt_f (append_0.cond.length), hx27, lt_t hx27, lt_p hx27, nat_in (lt_n hx27) hlhx27, c32, lt_f (v84.length), g43_1, g43_5, g43_81, g43_82, g43_83, g43_93, g43_94, g43_95, og43_0, og43_1, og43_2]
                        refine ⟨_, [], [0, 1], (Option.some.inj h).symm, by decide, ?_⟩
                        try simp only [go_sem, qa, qb, qc, qd, qe, qf, qg, qh, qi, qj, qk, reduceCtorEq, reduceIte, c2, c3, c4, c5, c6, c7, c8, lt_f (append_0.cond.length), hx27, lt_t hx27, lt_p hx27, nat_in (lt_n hx27) hlhx27, c32, lt_f (v84.length), g43_1, g43_5, g43_81, g43_82, g43_83, g43_93, g43_94, g43_95, og43_0, og43_1, og43_2, IV, sts_cons, sts_nil, obs_cons, obs_nil]
                    · replace h := inr_K h hy26
                      obtain rfl := Option.some.inj h
                      try simp only [go_sem, qa, qb, qc, qd, qe, qf, qg, qh, qi, qj, qk, reduceCtorEq, reduceIte, c2, c3, c4, c5, c6, c7, c8, lt_f (append_0.cond.length), hx27, lt_t hx27, lt_p hx27, nat_in (lt_n hx27) hlhx27, c32, g30_1, g30_5, g30_81, g30_82, g30_83, og30_0, og30_1]
                  · rintro ⟨⟩ ⟨sl, ob, n⟩ hI44 hW45 h
                    simp only [IV, sts_cons, sts_nil, obs_cons, obs_nil, and_true, true_and, Nat.reduceAdd, str_len] at hI44
                    obtain ⟨⟨g46_1, g46_5, g46_81, g46_82, g46_83⟩, og46_0, og46_1, hn⟩ := hI44
                    subst hn
                    try simp only [go_sem, qa, qb, qc, qd, qe, qf, qg, qh, qi, qj, qk, reduceCtorEq, reduceIte, c2, c3, c4, c5, c6, c7, c8, lt_f (append_0.cond.length), lt_f (append_0.thn.length), g46_1, g46_5, g46_81, g46_82, g46_83, og46_0, og46_1]
                    obtain ⟨v93, e47, h⟩ := bind_K h
                    refine call_K (by first | exact i_condVarsOf_ok e47 | simpa only [go_sem, qa, qb, qc, qd, qe, qf, qg, qh, qi, qj, qk, reduceCtorEq, reduceIte, c2, c3, c4, c5, c6, c7, c8, lt_f (append_0.cond.length), lt_f (append_0.thn.length), g46_1, g46_5, g46_81, g46_82, g46_83, og46_0, og46_1] using i_condVarsOf_ok e47) ?_
                    try simp only [go_sem, qa, qb, qc, qd, qe, qf, qg, qh, qi, qj, qk, reduceCtorEq, reduceIte, c2, c3, c4, c5, c6, c7, c8, lt_f (append_0.cond.length), lt_f (append_0.thn.length), g46_1, g46_5, g46_81, g46_82, g46_83, og46_0, og46_1]
                    obtain ⟨v94, e48, h⟩ := bind_K h
                    refine call_K (by first | exact i_SortedTexts_ok e48 | simpa only [go_sem, qa, qb, qc, qd, qe, qf, qg, qh, qi, qj, qk, reduceCtorEq, reduceIte, c2, c3, c4, c5, c6, c7, c8, lt_f (append_0.cond.length), lt_f (append_0.thn.length), g46_1, g46_5, g46_81, g46_82, g46_83, og46_0, og46_1] using i_SortedTexts_ok e48) ?_
                    obtain rfl := Option.some.inj h
                    try simp only [go_sem, qa, qb, qc, qd, qe, qf, qg, qh, qi, qj, qk, reduceCtorEq, reduceIte, c2, c3, c4, c5, c6, c7, c8, lt_f (append_0.cond.length), lt_f (append_0.thn.length), g46_1, g46_5, g46_81, g46_82, g46_83, og46_0, og46_1]
  · obtain rfl := Option.some.inj h
    try simp only [go_sem, qa, qb, qc, qd, qe, qf, qg, qh, qi, qj, qk, reduceCtorEq, reduceIte, c2]
theorem i_HoldsTest_ok {append_0 : CondD} {String_1 : (List PairD)} {r : Bool} (h : i_HoldsTest append_0 String_1 = some r) : Sound Tryz.prog J0 138 [(true, eCond append_0), (false, [.sl 119 2 (List.map ePair String_1)])] [(false, [(false, .bool r)])] := by
  refine fnk Tryz.func138 (by kernel_rfl) rfl (by kernel_rfl) (by kernel_rfl) ?_
  unfold i_HoldsTest at h
  simp only [fnS, f138, argSt, go_sem, qa, qb, qc, qd, qe, qf, qg, qh, qi, qj, qk, reduceCtorEq, reduceIte]
  obtain ⟨v1, e1, h⟩ := bind_K h
  refine call_K (by first | exact i_IsTest_ok e1 | simpa only [go_sem, qa, qb, qc, qd, qe, qf, qg, qh, qi, qj, qk, reduceCtorEq, reduceIte] using i_IsTest_ok e1) ?_
  try simp only [go_sem, qa, qb, qc, qd, qe, qf, qg, qh, qi, qj, qk, reduceCtorEq, reduceIte]
  refine ite_K h (fun c2 h => ?_) (fun c2 h => ?_)
  · try simp only [go_sem, qa, qb, qc, qd, qe, qf, qg, qh, qi, qj, qk, reduceCtorEq, reduceIte, c2]
    obtain ⟨v2, e3, h⟩ := bind_K h
    refine call_K (by first | exact i_IsBinding_ok e3 | simpa only [go_sem, qa, qb, qc, qd, qe, qf, qg, qh, qi, qj, qk, reduceCtorEq, reduceIte, c2] using i_IsBinding_ok e3) ?_
    try simp only [go_sem, qa, qb, qc, qd, qe, qf, qg, qh, qi, qj, qk, reduceCtorEq, reduceIte, c2]
    refine ite_K h (fun c4 h => ?_) (fun c4 h => ?_)
    · try simp only [go_sem, qa, qb, qc, qd, qe, qf, qg, qh, qi, qj, qk, reduceCtorEq, reduceIte, c2, c4]
      obtain ⟨v3, e5, h⟩ := bind_K h
      refine call_K (by first | exact i_ValueOf_ok e5 | simpa only [go_sem, qa, qb, qc, qd, qe, qf, qg, qh, qi, qj, qk, reduceCtorEq, reduceIte, c2, c4] using i_ValueOf_ok e5) ?_
      try simp only [go_sem, qa, qb, qc, qd, qe, qf, qg, qh, qi, qj, qk, reduceCtorEq, reduceIte, c2, c4]
      obtain ⟨v4, e6, h⟩ := bind_K h
      refine call_K (by first | exact i_ValueOf_ok e6 | simpa only [go_sem, qa, qb, qc, qd, qe, qf, qg, qh, qi, qj, qk, reduceCtorEq, reduceIte, c2, c4] using i_ValueOf_ok e6) ?_
      try simp only [go_sem, qa, qb, qc, qd, qe, qf, qg, qh, qi, qj, qk, reduceCtorEq, reduceIte, c2, c4]
      refine ite_K h (fun c7 h => ?_) (fun c7 h => ?_)
      · try simp only [go_sem, qa, qb, qc, qd, qe, qf, qg, qh, qi, qj, qk, reduceCtorEq, reduceIte, c2, c4, c7]
        refine ite_K h (fun c8 h => ?_) (fun c8 h => ?_)
        · try simp only [go_sem, qa, qb, qc, qd, qe, qf, qg, qh, qi, qj, qk, reduceCtorEq, reduceIte, c2, c4, c7, c8]
          refine ite_K h (fun c9 h => ?_) (fun c9 h => ?_)
          · obtain rfl := Option.some.inj h
            try simp only [go_sem, qa, qb, qc, qd, qe, qf, qg, qh, qi, qj, qk, reduceCtorEq, reduceIte, c2, c4, c7, c8, c9]
          · try simp only [go_sem, qa, qb, qc, qd, qe, qf, qg, qh, qi, qj, qk, reduceCtorEq, reduceIte, c2, c4, c7, c8, c9]
            refine ite_K h (fun c10 h => ?_) (fun c10 h => ?_)
            · obtain rfl := Option.some.inj h
              try simp only [go_sem, qa, qb, qc, qd, qe, qf, qg, qh, qi, qj, qk, reduceCtorEq, reduceIte, c2, c4, c7, c8, c9, c10]
            · try simp only [go_sem, qa, qb, qc, qd, qe, qf, qg, qh, qi, qj, qk, reduceCtorEq, reduceIte, c2, c4, c7, c8, c9, c10]
              obtain ⟨v5, e11, h⟩ := bind_K h
              refine call_K (by first | exact i_ParseInt_ok e11 | simpa only [go_sem, qa, qb, qc, qd, qe, qf, qg, qh, qi, qj, qk, reduceCtorEq, reduceIte, c2, c4, c7, c8, c9, c10] using i_ParseInt_ok e11) ?_
              try simp only [go_sem, qa, qb, qc, qd, qe, qf, qg, qh, qi, qj, qk, reduceCtorEq, reduceIte, c2, c4, c7, c8, c9, c10]
              obtain ⟨v6, e12, h⟩ := bind_K h
              refine call_K (by first | exact i_ParseInt_ok e12 | simpa only [go_sem, qa, qb, qc, qd, qe, qf, qg, qh, qi, qj, qk, reduceCtorEq, reduceIte, c2, c4, c7, c8, c9, c10] using i_ParseInt_ok e12) ?_
              try simp only [go_sem, qa, qb, qc, qd, qe, qf, qg, qh, qi, qj, qk, reduceCtorEq, reduceIte, c2, c4, c7, c8, c9, c10]
              refine ite_K h (fun c13 h => ?_) (fun c13 h => ?_)
              · try simp only [go_sem, qa, qb, qc, qd, qe, qf, qg, qh, qi, qj, qk, reduceCtorEq, reduceIte, c2, c4, c7, c8, c9, c10, c13]
                refine ite_K h (fun c14 h => ?_) (fun c14 h => ?_)
                · obtain rfl := Option.some.inj h
                  try simp only [go_sem, qa, qb, qc, qd, qe, qf, qg, qh, qi, qj, qk, reduceCtorEq, reduceIte, c2, c4, c7, c8, c9, c10, c13, c14]
                · obtain rfl := Option.some.inj h
                  try simp only [go_sem, qa, qb, qc, qd, qe, qf, qg, qh, qi, qj, qk, reduceCtorEq, reduceIte, c2, c4, c7, c8, c9, c10, c13, c14]
              · obtain rfl := Option.some.inj h
                try simp only [go_sem, qa, qb, qc, qd, qe, qf, qg, qh, qi, qj, qk, reduceCtorEq, reduceIte, c2, c4, c7, c8, c9, c10, c13]
        · obtain rfl := Option.some.inj h
          try simp only [go_sem, qa, qb, qc, qd, qe, qf, qg, qh, qi, qj, qk, reduceCtorEq, reduceIte, c2, c4, c7, c8]
      · obtain rfl := Option.some.inj h
        try simp only [go_sem, qa, qb, qc, qd, qe, qf, qg, qh, qi, qj, qk, reduceCtorEq, reduceIte, c2, c4, c7]
    · obtain rfl := Option.some.inj h
      try simp only [go_sem, qa, qb, qc, qd, qe, qf, qg, qh, qi, qj, qk, reduceCtorEq, reduceIte, c2, c4]
  · obtain rfl := Option.some.inj h
    try simp only [go_sem, qa, qb, qc, qd, qe, qf, qg, qh, qi, qj, qk, reduceCtorEq, reduceIte, c2]
end Go.Proofs.YtlkgkkacnoaeaaaGreatDoor

namespace Go.Proofs.YtlkgkkacnoaeaaaGreatDoor
open Go.Proofs.Tryz
open Int renaming reduceLT → qa, reduceLE → qb, reduceBEq → qc, reduceBNe → qd
open Nat renaming reduceBNe → qe, reduceAdd → qf, reduceMul → qg, reduceEqDiff → qh, reduceLeDiff → qi, reduceLT → qj, reduceBEq → qk
set_option linter.unusedSimpArgs false
set_option linter.unusedVariables false
set_option maxRecDepth 1000000
set_option maxHeartbeats 4000000
theorem s_HoldsTest_ok {x_0 : CondD} {b_1 : (List PairD)} {r : Bool} (h : s_HoldsTest x_0 b_1 = some r) : Sound Tryz.prog J0 151 [(true, eCond x_0), (false, [.sl 119 2 (List.map ePair b_1)])] [(false, [(false, .bool r)])] := by
  refine fnk Tryz.func151 (by kernel_rfl) rfl (by kernel_rfl) (by kernel_rfl) ?_
  unfold s_HoldsTest at h
  simp only [fnS, f151, argSt, go_sem, qa, qb, qc, qd, qe, qf, qg, qh, qi, qj, qk, reduceCtorEq, reduceIte]
  obtain ⟨v1, e1, h⟩ := bind_K h
  refine call_K (by first | exact s_IsTest_ok e1 | simpa only [go_sem, qa, qb, qc, qd, qe, qf, qg, qh, qi, qj, qk, reduceCtorEq, reduceIte] using s_IsTest_ok e1) ?_
  try simp only [go_sem, qa, qb, qc, qd, qe, qf, qg, qh, qi, qj, qk, reduceCtorEq, reduceIte]
  refine ite_K h (fun c2 h => ?_) (fun c2 h => ?_)
  · try simp only [go_sem, qa, qb, qc, qd, qe, qf, qg, qh, qi, qj, qk, reduceCtorEq, reduceIte, c2]
    obtain ⟨v2, e3, h⟩ := bind_K h
    refine call_K (by first | exact s_IsBinding_ok e3 | simpa only [go_sem, qa, qb, qc, qd, qe, qf, qg, qh, qi, qj, qk, reduceCtorEq, reduceIte, c2] using s_IsBinding_ok e3) ?_
    try simp only [go_sem, qa, qb, qc, qd, qe, qf, qg, qh, qi, qj, qk, reduceCtorEq, reduceIte, c2]
    refine ite_K h (fun c4 h => ?_) (fun c4 h => ?_)
    · try simp only [go_sem, qa, qb, qc, qd, qe, qf, qg, qh, qi, qj, qk, reduceCtorEq, reduceIte, c2, c4]
      obtain ⟨v3, e5, h⟩ := bind_K h
      refine call_K (by first | exact s_ValueOf_ok e5 | simpa only [go_sem, qa, qb, qc, qd, qe, qf, qg, qh, qi, qj, qk, reduceCtorEq, reduceIte, c2, c4] using s_ValueOf_ok e5) ?_
      try simp only [go_sem, qa, qb, qc, qd, qe, qf, qg, qh, qi, qj, qk, reduceCtorEq, reduceIte, c2, c4]
      obtain ⟨v4, e6, h⟩ := bind_K h
      refine call_K (by first | exact s_ValueOf_ok e6 | simpa only [go_sem, qa, qb, qc, qd, qe, qf, qg, qh, qi, qj, qk, reduceCtorEq, reduceIte, c2, c4] using s_ValueOf_ok e6) ?_
      try simp only [go_sem, qa, qb, qc, qd, qe, qf, qg, qh, qi, qj, qk, reduceCtorEq, reduceIte, c2, c4]
      refine ite_K h (fun c7 h => ?_) (fun c7 h => ?_)
      · try simp only [go_sem, qa, qb, qc, qd, qe, qf, qg, qh, qi, qj, qk, reduceCtorEq, reduceIte, c2, c4, c7]
        refine ite_K h (fun c8 h => ?_) (fun c8 h => ?_)
        · try simp only [go_sem, qa, qb, qc, qd, qe, qf, qg, qh, qi, qj, qk, reduceCtorEq, reduceIte, c2, c4, c7, c8]
          refine ite_K h (fun c9 h => ?_) (fun c9 h => ?_)
          · obtain rfl := Option.some.inj h
            try simp only [go_sem, qa, qb, qc, qd, qe, qf, qg, qh, qi, qj, qk, reduceCtorEq, reduceIte, c2, c4, c7, c8, c9]
          · try simp only [go_sem, qa, qb, qc, qd, qe, qf, qg, qh, qi, qj, qk, reduceCtorEq, reduceIte, c2, c4, c7, c8, c9]
            refine ite_K h (fun c10 h => ?_) (fun c10 h => ?_)
            · obtain rfl := Option.some.inj h
              try simp only [go_sem, qa, qb, qc, qd, qe, qf, qg, qh, qi, qj, qk, reduceCtorEq, reduceIte, c2, c4, c7, c8, c9, c10]
            · try simp only [go_sem, qa, qb, qc, qd, qe, qf, qg, qh, qi, qj, qk, reduceCtorEq, reduceIte, c2, c4, c7, c8, c9, c10]
              obtain ⟨v5, e11, h⟩ := bind_K h
              refine call_K (by first | exact s_IsNumber_ok e11 | simpa only [go_sem, qa, qb, qc, qd, qe, qf, qg, qh, qi, qj, qk, reduceCtorEq, reduceIte, c2, c4, c7, c8, c9, c10] using s_IsNumber_ok e11) ?_
              try simp only [go_sem, qa, qb, qc, qd, qe, qf, qg, qh, qi, qj, qk, reduceCtorEq, reduceIte, c2, c4, c7, c8, c9, c10]
              refine ite_K h (fun c12 h => ?_) (fun c12 h => ?_)
              · try simp only [go_sem, qa, qb, qc, qd, qe, qf, qg, qh, qi, qj, qk, reduceCtorEq, reduceIte, c2, c4, c7, c8, c9, c10, c12]
                obtain ⟨v6, e13, h⟩ := bind_K h
                refine call_K (by first | exact s_IsNumber_ok e13 | simpa only [go_sem, qa, qb, qc, qd, qe, qf, qg, qh, qi, qj, qk, reduceCtorEq, reduceIte, c2, c4, c7, c8, c9, c10, c12] using s_IsNumber_ok e13) ?_
                try simp only [go_sem, qa, qb, qc, qd, qe, qf, qg, qh, qi, qj, qk, reduceCtorEq, reduceIte, c2, c4, c7, c8, c9, c10, c12]
                refine ite_K h (fun c14 h => ?_) (fun c14 h => ?_)
                · try simp only [go_sem, qa, qb, qc, qd, qe, qf, qg, qh, qi, qj, qk, reduceCtorEq, reduceIte, c2, c4, c7, c8, c9, c10, c12, c14]
                  obtain ⟨v7, e15, h⟩ := bind_K h
                  refine call_K (by first | exact s_CompareAtoms_ok e15 | simpa only [go_sem, qa, qb, qc, qd, qe, qf, qg, qh, qi, qj, qk, reduceCtorEq, reduceIte, c2, c4, c7, c8, c9, c10, c12, c14] using s_CompareAtoms_ok e15) ?_
                  obtain rfl := Option.some.inj h
                  try simp only [go_sem, qa, qb, qc, qd, qe, qf, qg, qh, qi, qj, qk, reduceCtorEq, reduceIte, c2, c4, c7, c8, c9, c10, c12, c14]
                · obtain rfl := Option.some.inj h
                  try simp only [go_sem, qa, qb, qc, qd, qe, qf, qg, qh, qi, qj, qk, reduceCtorEq, reduceIte, c2, c4, c7, c8, c9, c10, c12, c14]
              · obtain rfl := Option.some.inj h
                try simp only [go_sem, qa, qb, qc, qd, qe, qf, qg, qh, qi, qj, qk, reduceCtorEq, reduceIte, c2, c4, c7, c8, c9, c10, c12]
        · obtain rfl := Option.some.inj h
          try simp only [go_sem, qa, qb, qc, qd, qe, qf, qg, qh, qi, qj, qk, reduceCtorEq, reduceIte, c2, c4, c7, c8]
      · obtain rfl := Option.some.inj h
        try simp only [go_sem, qa, qb, qc, qd, qe, qf, qg, qh, qi, qj, qk, reduceCtorEq, reduceIte, c2, c4, c7]
    · obtain rfl := Option.some.inj h
      try simp only [go_sem, qa, qb, qc, qd, qe, qf, qg, qh, qi, qj, qk, reduceCtorEq, reduceIte, c2, c4]
  · obtain rfl := Option.some.inj h
    try simp only [go_sem, qa, qb, qc, qd, qe, qf, qg, qh, qi, qj, qk, reduceCtorEq, reduceIte, c2]
theorem i_AreRules_ok {l_0 : (List RuleD)} {r : Bool} (h : i_AreRules l_0 = some r) : Sound Tryz.prog J0 28 [(false, [.sl 52 4 (List.map eRule l_0)])] [(false, [(false, .bool r)])] := by
  refine fnk Tryz.func28 (by kernel_rfl) rfl (by kernel_rfl) (by kernel_rfl) ?_
  unfold i_AreRules at h
  simp only [fnS, f28, argSt, go_sem, qa, qb, qc, qd, qe, qf, qg, qh, qi, qj, qk, reduceCtorEq, reduceIte]
  refine ite_K h (fun c1 h => ?_) (fun c1 h => ?_)
  · obtain rfl := Option.some.inj h
    try simp only [go_sem, qa, qb, qc, qd, qe, qf, qg, qh, qi, qj, qk, reduceCtorEq, reduceIte, c1]
  · try simp only [go_sem, qa, qb, qc, qd, qe, qf, qg, qh, qi, qj, qk, reduceCtorEq, reduceIte, c1]
    refine swp_for h (fun i _ st => IV [(0, .p false [.c (.sl 52 4 (List.map eRule l_0))]), (8, .p false [.c (.sl 52 4 (List.map eRule l_0))]), (9, .p false [.c (.int .i64 ((l_0.length : Nat) : Int))]), (10, .p false [.c (.int .i64 ((i : Nat) : Int))])] [] st) [] [] (by decide) ?_ ?_ ?_
    · simp only [go_sem, qa, qb, qc, qd, qe, qf, qg, qh, qi, qj, qk, reduceCtorEq, reduceIte, IV, sts_cons, sts_nil, obs_cons, obs_nil, c1]
    · rintro i8 x9 ⟨⟩ ⟨sl, ob, n⟩ y2 hx3 hI4 hW5 h hy2
      simp only [IV, sts_cons, sts_nil, obs_cons, obs_nil, and_true, true_and, Nat.reduceAdd, str_len] at hI4
      obtain ⟨⟨g6_0, g6_8, g6_9, g6_10⟩, hn⟩ := hI4
      subst hn
      have hlhx3 := WF.slotL hW5 g6_0 (j := 0) rfl
      try simp only [go_sem, qa, qb, qc, qd, qe, qf, qg, qh, qi, qj, qk, reduceCtorEq, reduceIte, c1, hx3, lt_t hx3, lt_p hx3, nat_in (lt_n hx3) hlhx3, g6_0, g6_8, g6_9, g6_10]
      obtain ⟨v10, e7, h⟩ := bind_K h
      refine call_K (by first | exact i_IsRule_ok e7 | simpa only [go_sem, qa, qb, qc, qd, qe, qf, qg, qh, qi, qj, qk, reduceCtorEq, reduceIte, c1, hx3, lt_t hx3, lt_p hx3, nat_in (lt_n hx3) hlhx3, g6_0, g6_8, g6_9, g6_10] using i_IsRule_ok e7) ?_
      try simp only [go_sem, qa, qb, qc, qd, qe, qf, qg, qh, qi, qj, qk, reduceCtorEq, reduceIte, c1, hx3, lt_t hx3, lt_p hx3, nat_in (lt_n hx3) hlhx3, g6_0, g6_8, g6_9, g6_10]
      refine ite_K h (fun c8 h => ?_) (fun c8 h => ?_)
      · try simp only [go_sem, qa, qb, qc, qd, qe, qf, qg, qh, qi, qj, qk, reduceCtorEq, reduceIte, c1, hx3, lt_t hx3, lt_p hx3, nat_in (lt_n hx3) hlhx3, c8, g6_0, g6_8, g6_9, g6_10]
        obtain ⟨v11, e9, h⟩ := bind_K h
        refine call_K (by first | exact i_FindRule_ok e9 | simpa only [go_sem, qa, qb, qc, qd, qe, qf, qg, qh, qi, qj, qk, reduceCtorEq, reduceIte, c1, hx3, lt_t hx3, lt_p hx3, nat_in (lt_n hx3) hlhx3, c8, g6_0, g6_8, g6_9, g6_10] using i_FindRule_ok e9) ?_
        try simp only [go_sem, qa, qb, qc, qd, qe, qf, qg, qh, qi, qj, qk, reduceCtorEq, reduceIte, c1, hx3, lt_t hx3, lt_p hx3, nat_in (lt_n hx3) hlhx3, c8, g6_0, g6_8, g6_9, g6_10]
        refine ite_K h (fun c10 h => ?_) (fun c10 h => ?_)
        · replace h := inr_K h hy2
          obtain rfl := Option.some.inj h
          try simp only [go_sem, qa, qb, qc, qd, qe, qf, qg, qh, qi, qj, qk, reduceCtorEq, reduceIte, c1, hx3, lt_t hx3, lt_p hx3, nat_in (lt_n hx3) hlhx3, c8, c10, g6_0, g6_8, g6_9, g6_10]
        · try simp only [go_sem, qa, qb, qc, qd, qe, qf, qg, qh, qi, qj, qk, reduceCtorEq, reduceIte, c1, hx3, lt_t hx3, lt_p hx3, nat_in (lt_n hx3) hlhx3, c8, c10, g6_0, g6_8, g6_9, g6_10]
          refine ⟨_, [], [], (Option.some.inj h).symm, by decide, ?_⟩
          try simp only [go_sem, qa, qb, qc, qd, qe, qf, qg, qh, qi, qj, qk, reduceCtorEq, reduceIte, c1, hx3, lt_t hx3, lt_p hx3, nat_in (lt_n hx3) hlhx3, c8, c10, g6_0, g6_8, g6_9, g6_10, IV, sts_cons, sts_nil, obs_cons, obs_nil]
      · replace h := inr_K h hy2
        obtain rfl := Option.some.inj h
        try simp only [go_sem, qa, qb, qc, qd, qe, qf, qg, qh, qi, qj, qk, reduceCtorEq, reduceIte, c1, hx3, lt_t hx3, lt_p hx3, nat_in (lt_n hx3) hlhx3, c8, g6_0, g6_8, g6_9, g6_10]
    · rintro ⟨⟩ ⟨sl, ob, n⟩ hI11 hW12 h
      simp only [IV, sts_cons, sts_nil, obs_cons, obs_nil, and_true, true_and, Nat.reduceAdd, str_len] at hI11
      obtain ⟨⟨g13_0, g13_8, g13_9, g13_10⟩, hn⟩ := hI11
      subst hn
      obtain rfl := Option.some.inj h
      try simp only [go_sem, qa, qb, qc, qd, qe, qf, qg, qh, qi, qj, qk, reduceCtorEq, reduceIte, c1, lt_f (l_0.length), g13_0, g13_8, g13_9, g13_10]
theorem i_HoldsCond_ok {x_0 : CondD} {b_1 : (List PairD)} {facts_2 : (List FactD)} {r : Bool} (h : i_HoldsCond x_0 b_1 facts_2 = some r) : Sound Tryz.prog J0 84 [(true, eCond x_0), (false, [.sl 119 2 (List.map ePair b_1)]), (false, [.sl 57 2 (List.map eFact facts_2)])] [(false, [(false, .bool r)])] := by
  refine fnk Tryz.func84 (by kernel_rfl) rfl (by kernel_rfl) (by kernel_rfl) ?_
  unfold i_HoldsCond at h
  simp only [fnS, f84, argSt, go_sem, qa, qb, qc, qd, qe, qf, qg, qh, qi, qj, qk, reduceCtorEq, reduceIte]
  obtain ⟨v1, e1, h⟩ := bind_K h
  refine call_K (by first | exact i_IsCond_ok e1 | simpa only [go_sem, qa, qb, qc, qd, qe, qf, qg, qh, qi, qj, qk, reduceCtorEq, reduceIte] using i_IsCond_ok e1) ?_
  try simp only [go_sem, qa, qb, qc, qd, qe, qf, qg, qh, qi, qj, qk, reduceCtorEq, reduceIte]
  refine ite_K h (fun c2 h => ?_) (fun c2 h => ?_)
  · try simp only [go_sem, qa, qb, qc, qd, qe, qf, qg, qh, qi, qj, qk, reduceCtorEq, reduceIte, c2]
    obtain ⟨v2, e3, h⟩ := bind_K h
    refine call_K (by first | exact i_IsBinding_ok e3 | simpa only [go_sem, qa, qb, qc, qd, qe, qf, qg, qh, qi, qj, qk, reduceCtorEq, reduceIte, c2] using i_IsBinding_ok e3) ?_
    try simp only [go_sem, qa, qb, qc, qd, qe, qf, qg, qh, qi, qj, qk, reduceCtorEq, reduceIte, c2]
    refine ite_K h (fun c4 h => ?_) (fun c4 h => ?_)
    · try simp only [go_sem, qa, qb, qc, qd, qe, qf, qg, qh, qi, qj, qk, reduceCtorEq, reduceIte, c2, c4]
      refine ite_K h (fun c5 h => ?_) (fun c5 h => ?_)
      · try simp only [go_sem, qa, qb, qc, qd, qe, qf, qg, qh, qi, qj, qk, reduceCtorEq, reduceIte, c2, c4, c5]
        obtain ⟨v3, e6, h⟩ := bind_K h
        refine call_K (by first | exact i_MatchingFacts_ok e6 | simpa only [go_sem, qa, qb, qc, qd, qe, qf, qg, qh, qi, qj, qk, reduceCtorEq, reduceIte, c2, c4, c5] using i_MatchingFacts_ok e6) ?_
        obtain rfl := Option.some.inj h
        try simp only [go_sem, qa, qb, qc, qd, qe, qf, qg, qh, qi, qj, qk, reduceCtorEq, reduceIte, c2, c4, c5]
      · try simp only [go_sem, qa, qb, qc, qd, qe, qf, qg, qh, qi, qj, qk, reduceCtorEq, reduceIte, c2, c4, c5]
        refine ite_K h (fun c7 h => ?_) (fun c7 h => ?_)
        · try simp only [go_sem, qa, qb, qc, qd, qe, qf, qg, qh, qi, qj, qk, reduceCtorEq, reduceIte, c2, c4, c5, c7]
          obtain ⟨v4, e8, h⟩ := bind_K h
          refine call_K (by first | exact i_MatchingFacts_ok e8 | simpa only [go_sem, qa, qb, qc, qd, qe, qf, qg, qh, qi, qj, qk, reduceCtorEq, reduceIte, c2, c4, c5, c7] using i_MatchingFacts_ok e8) ?_
          obtain rfl := Option.some.inj h
          try simp only [go_sem, qa, qb, qc, qd, qe, qf, qg, qh, qi, qj, qk, reduceCtorEq, reduceIte, c2, c4, c5, c7]
        · try simp only [go_sem, qa, qb, qc, qd, qe, qf, qg, qh, qi, qj, qk, reduceCtorEq, reduceIte, c2, c4, c5, c7]
          obtain ⟨v5, e9, h⟩ := bind_K h
          refine call_K (by first | exact i_HoldsTest_ok e9 | simpa only [go_sem, qa, qb, qc, qd, qe, qf, qg, qh, qi, qj, qk, reduceCtorEq, reduceIte, c2, c4, c5, c7] using i_HoldsTest_ok e9) ?_
          obtain rfl := Option.some.inj h
          try simp only [go_sem, qa, qb, qc, qd, qe, qf, qg, qh, qi, qj, qk, reduceCtorEq, reduceIte, c2, c4, c5, c7]
    · obtain rfl := Option.some.inj h
      try simp only [go_sem, qa, qb, qc, qd, qe, qf, qg, qh, qi, qj, qk, reduceCtorEq, reduceIte, c2, c4]
  · obtain rfl := Option.some.inj h
    try simp only [go_sem, qa, qb, qc, qd, qe, qf, qg, qh, qi, qj, qk, reduceCtorEq, reduceIte, c2]
end Go.Proofs.YtlkgkkacnoaeaaaGreatDoor

namespace Go.Proofs.YtlkgkkacnoaeaaaGreatDoor
open Go.Proofs.Tryz
open Int renaming reduceLT → qa, reduceLE → qb, reduceBEq → qc, reduceBNe → qd
open Nat renaming reduceBNe → qe, reduceAdd → qf, reduceMul → qg, reduceEqDiff → qh, reduceLeDiff → qi, reduceLT → qj, reduceBEq → qk
set_option linter.unusedSimpArgs false
set_option linter.unusedVariables false
set_option maxRecDepth 1000000
set_option maxHeartbeats 4000000
theorem s_IsRule_ok {append_0 : RuleD} {r : Bool} (h : s_IsRule append_0 = some r) : Sound Tryz.prog J0 58 [(true, eRule append_0)] [(false, [(false, .bool r)])] := by
  refine fnk Tryz.func58 (by kernel_rfl) rfl (by kernel_rfl) (by kernel_rfl) ?_
  unfold s_IsRule at h
  simp only [fnS, f58, argSt, go_sem, qa, qb, qc, qd, qe, qf, qg, qh, qi, qj, qk, reduceCtorEq, reduceIte]
  obtain ⟨v1, e1, h⟩ := bind_K h
  refine call_K (by first | exact s_IsName_ok e1 | simpa only [go_sem, qa, qb, qc, qd, qe, qf, qg, qh, qi, qj, qk, reduceCtorEq, reduceIte] using s_IsName_ok e1) ?_
  try simp only [go_sem, qa, qb, qc, qd, qe, qf, qg, qh, qi, qj, qk, reduceCtorEq, reduceIte]
  refine ite_K h (fun c2 h => ?_) (fun c2 h => ?_)
  · try simp only [go_sem, qa, qb, qc, qd, qe, qf, qg, qh, qi, qj, qk, reduceCtorEq, reduceIte, c2]
    obtain ⟨v2, e3, h⟩ := bind_K h
    refine call_K (by first | exact s_l1In_ok e3 | simpa only [go_sem, qa, qb, qc, qd, qe, qf, qg, qh, qi, qj, qk, reduceCtorEq, reduceIte, c2] using s_l1In_ok e3) ?_
    try simp only [go_sem, qa, qb, qc, qd, qe, qf, qg, qh, qi, qj, qk, reduceCtorEq, reduceIte, c2]
    refine ite_K h (fun c4 h => ?_) (fun c4 h => ?_)
    · try simp only [go_sem, qa, qb, qc, qd, qe, qf, qg, qh, qi, qj, qk, reduceCtorEq, reduceIte, c2, c4]
      obtain ⟨v3, e5, h⟩ := bind_K h
      refine call_K (by first | exact s_l1In_ok e5 | simpa only [go_sem, qa, qb, qc, qd, qe, qf, qg, qh, qi, qj, qk, reduceCtorEq, reduceIte, c2, c4] using s_l1In_ok e5) ?_
      try simp only [go_sem, qa, qb, qc, qd, qe, qf, qg, qh, qi, qj, qk, reduceCtorEq, reduceIte, c2, c4]
      refine ite_K h (fun c6 h => ?_) (fun c6 h => ?_)
      · try simp only [go_sem, qa, qb, qc, qd, qe, qf, qg, qh, qi, qj, qk, reduceCtorEq, reduceIte, c2, c4, c6]
        obtain ⟨v4, e7, h⟩ := bind_K h
        refine call_K (by first | exact s_l1In_ok e7 | simpa only [go_sem, qa, qb, qc, qd, qe, qf, qg, qh, qi, qj, qk, reduceCtorEq, reduceIte, c2, c4, c6] using s_l1In_ok e7) ?_
        try simp only [go_sem, qa, qb, qc, qd, qe, qf, qg, qh, qi, qj, qk, reduceCtorEq, reduceIte, c2, c4, c6]
        refine ite_K h (fun c8 h => ?_) (fun c8 h => ?_)
        · try simp only [go_sem, qa, qb, qc, qd, qe, qf, qg, qh, qi, qj, qk, reduceCtorEq, reduceIte, c2, c4, c6, c8]
          obtain ⟨v5, e9, h⟩ := bind_K h
          refine call_K (by first | exact s_BoundVars_ok e9 | simpa only [go_sem, qa, qb, qc, qd, qe, qf, qg, qh, qi, qj, qk, reduceCtorEq, reduceIte, c2, c4, c6, c8] using s_BoundVars_ok e9) ?_
          try simp only [go_sem, qa, qb, qc, qd, qe, qf, qg, qh, qi, qj, qk, reduceCtorEq, reduceIte, c2, c4, c6, c8]
          refine swp_for h (fun i _ st => IV [(1, .bp 0 0), (3, .p false [.row 1]), (4, .p false [.c (.int .i64 ((i : Nat) : Int))])] [.box 52 [.c (.str append_0.name), .c (.int .i64 append_0.priority), .c (.sl 99 5 (List.map eCond append_0.cond)), .c (.sl 62 3 (List.map eAction append_0.thn))], .row 9 1 (List.map eStr v5) 2] st) [] [0, 480] (by decide) ?_ ?_ ?_
          · simp only [go_sem, qa, qb, qc, qd, qe, qf, qg, qh, qi, qj, qk, reduceCtorEq, reduceIte, IV, sts_cons, sts_nil, obs_cons, obs_nil, c2, c4, c6, c8]
          · rintro i96 x97 ⟨⟩ ⟨sl, ob, n⟩ y10 hx11 hI12 hW13 h hy10
            simp only [IV, sts_cons, sts_nil, obs_cons, obs_nil, and_true, true_and, Nat.reduceAdd, str_len] at hI12
            obtain ⟨⟨g14_1, g14_3, g14_4⟩, og14_0, og14_1, hn⟩ := hI12
            subst hn
            have hlhx11 := WF.boxL hW13 og14_0 (j := 2) rfl
            try simp only [go_sem, qa, qb, qc, qd, qe, qf, qg, qh, qi, qj, qk, reduceCtorEq, reduceIte, c2, c4, c6, c8, hx11, lt_t hx11, lt_p hx11, nat_in (lt_n hx11) hlhx11, g14_1, g14_3, g14_4, og14_0, og14_1]
            obtain ⟨v98, e15, h⟩ := bind_K h
            refine call_K (by first | exact s_IsCond_ok e15 | simpa only [go_sem, qa, qb, qc, qd, qe, qf, qg, qh, qi, qj, qk, reduceCtorEq, reduceIte, c2, c4, c6, c8, hx11, lt_t hx11, lt_p hx11, nat_in (lt_n hx11) hlhx11, g14_1, g14_3, g14_4, og14_0, og14_1] using s_IsCond_ok e15) ?_
            try simp only [go_sem, qa, qb, qc, qd, qe, qf, qg, qh, qi, qj, qk, reduceCtorEq, reduceIte, c2, c4, c6, c8, hx11, lt_t hx11, lt_p hx11, nat_in (lt_n hx11) hlhx11, g14_1, g14_3, g14_4, og14_0, og14_1]
            refine ite_K h (fun c16 h => ?_) (fun c16 h => ?_)
            · try simp only [go_sem, qa, qb, qc, qd, qe, qf, qg, qh, qi, qj, qk, reduceCtorEq, reduceIte, c2, c4, c6, c8, hx11, lt_t hx11, lt_p hx11, nat_in (lt_n hx11) hlhx11, c16, g14_1, g14_3, g14_4, og14_0, og14_1]
              refine ite_K h (fun c17 h => ?_) (fun c17 h => ?_)
              · try simp only [go_sem, qa, qb, qc, qd, qe, qf, qg, qh, qi, qj, qk, reduceCtorEq, reduceIte, c2, c4, c6, c8, hx11, lt_t hx11, lt_p hx11, nat_in (lt_n hx11) hlhx11, c16, c17, g14_1, g14_3, g14_4, og14_0, og14_1]
                refine ite_K h (fun c18 h => ?_) (fun c18 h => ?_)
                · replace h := inr_K h hy10
                  obtain rfl := Option.some.inj h
                  try simp only [go_sem, qa, qb, qc, qd, qe, qf, qg, qh, qi, qj, qk, reduceCtorEq, reduceIte, c2, c4, c6, c8, hx11, lt_t hx11, lt_p hx11, nat_in (lt_n hx11) hlhx11, c16, c17, c18, g14_1, g14_3, g14_4, og14_0, og14_1]
                · try simp only [go_sem, qa, qb, qc, qd, qe, qf, qg, qh, qi, qj, qk, reduceCtorEq, reduceIte, c2, c4, c6, c8, hx11, lt_t hx11, lt_p hx11, nat_in (lt_n hx11) hlhx11, c16, c17, c18, g14_1, g14_3, g14_4, og14_0, og14_1]
                  obtain ⟨v99, e19, h⟩ := bind_K h
                  refine call_K (by first | exact s_BoundVars_ok e19 | simpa only [go_sem, qa, qb, qc, qd, qe, qf, qg, qh, qi, qj, qk, reduceCtorEq, reduceIte, c2, c4, c6, c8, hx11, lt_t hx11, lt_p hx11, nat_in (lt_n hx11) hlhx11, c16, c17, c18, g14_1, g14_3, g14_4, og14_0, og14_1] using s_BoundVars_ok e19) ?_
                  try simp only [go_sem, qa, qb, qc, qd, qe, qf, qg, qh, qi, qj, qk, reduceCtorEq, reduceIte, c2, c4, c6, c8, hx11, lt_t hx11, lt_p hx11, nat_in (lt_n hx11) hlhx11, c16, c17, c18, g14_1, g14_3, g14_4, og14_0, og14_1]
                  obtain ⟨v100, e20, h⟩ := bind_K h
                  refine call_K (by first | exact s_CondVars_ok e20 | simpa only [go_sem, qa, qb, qc, qd, qe, qf, qg, qh, qi, qj, qk, reduceCtorEq, reduceIte, c2, c4, c6, c8, hx11, lt_t hx11, lt_p hx11, nat_in (lt_n hx11) hlhx11, c16, c17, c18, g14_1, g14_3, g14_4, og14_0, og14_1] using s_CondVars_ok e20) ?_
                  try simp only [go_sem, qa, qb, qc, qd, qe, qf, qg, qh, qi, qj, qk, reduceCtorEq, reduceIte, c2, c4, c6, c8, hx11, lt_t hx11, lt_p hx11, nat_in (lt_n hx11) hlhx11, c16, c17, c18, g14_1, g14_3, g14_4, og14_0, og14_1]
                  refine swp_for h (fun i _ st => IV [(1, .bp 0 0), (3, .p false [.row 1]), (4, .p false [.c (.int .i64 ((i96 : Nat) : Int))]), (5, .bp 2 0), (6, .p false [.row 3]), (7, .p false [.row 4]), (8, .p false [.c (.int .i64 ((i : Nat) : Int))]), (58, .p false [.c (.int .i64 ((i96 : Nat) : Int))]), (59, .p false [.c (.bool (((i96 : Nat) : Int) == 0))]), (60, .p false [.c (.bool (((i96 : Nat) : Int) == 0))]), (61, .bp 2 0), (62, .p false [.c (.int .i64 x97.kind)]), (63, .p false [.c (.bool (x97.kind != 1))]), (64, .p false [.c (.bool (x97.kind != 1))])] [.box 52 [.c (.str append_0.name), .c (.int .i64 append_0.priority), .c (.sl 99 5 (List.map eCond append_0.cond)), .c (.sl 62 3 (List.map eAction append_0.thn))], .row 9 1 (List.map eStr v5) 2, .box 99 [.c (.int .i64 x97.kind), .c (.str x97.pattern.rel), .c (.sl 9 1 (List.map eStr x97.pattern.args)), .c (.str x97.left), .c (.str x97.right)], .row 9 1 (List.map eStr v99) 2, .row 9 1 (List.map eStr v100) 2] st) [] [0, 1, 162, 418, 466] (by decide) ?_ ?_ ?_
                  · simp only [go_sem, qa, qb, qc, qd, qe, qf, qg, qh, qi, qj, qk, reduceCtorEq, reduceIte, IV, sts_cons, sts_nil, obs_cons, obs_nil, c2, c4, c6, c8, hx11, lt_t hx11, lt_p hx11, nat_in (lt_n hx11) hlhx11, c16, c17, c18, g14_1, g14_3, g14_4, og14_0, og14_1]
                  · rintro i110 x111 ⟨⟩ ⟨sl, ob, n⟩ y21 hx22 hI23 hW24 h hy21
                    simp only [IV, sts_cons, sts_nil, obs_cons, obs_nil, and_true, true_and, Nat.reduceAdd, str_len] at hI23
                    obtain ⟨⟨g25_1, g25_3, g25_4, g25_5, g25_6, g25_7, g25_8, g25_58, g25_59, g25_60, g25_61, g25_62, g25_63, g25_64⟩, og25_0, og25_1, og25_2, og25_3, og25_4, hn⟩ := hI23
                    subst hn
                    have hlhx22 := WF.rowL hW24 og25_4
                    try simp only [go_sem, qa, qb, qc, qd, qe, qf, qg, qh, qi, qj, qk, reduceCtorEq, reduceIte, c2, c4, c6, c8, hx11, lt_t hx11, lt_p hx11, nat_in (lt_n hx11) hlhx11, c16, c17, c18, hx22, lt_t hx22, lt_p hx22, nat_in (lt_n hx22) hlhx22, g25_1, g25_3, g25_4, g25_5, g25_6, g25_7, g25_8, g25_58, g25_59, g25_60, g25_61, g25_62, g25_63, g25_64, og25_0, og25_1, og25_2, og25_3, og25_4]
                    obtain ⟨v112, e26, h⟩ := bind_K h
                    refine call_K (by first | exact s_l1HasText_ok e26 | simpa only [go_sem, qa, qb, qc, qd, qe, qf, qg, qh, qi, qj, qk, reduceCtorEq, reduceIte, c2, c4, c6, c8, hx11, lt_t hx11, lt_p hx11, nat_in (lt_n hx11) hlhx11, c16, c17, c18, hx22, lt_t hx22, lt_p hx22, nat_in (lt_n hx22) hlhx22, g25_1, g25_3, g25_4, g25_5, g25_6, g25_7, g25_8, g25_58, g25_59, g25_60, g25_61, g25_62, g25_63, g25_64, og25_0, og25_1, og25_2, og25_3, og25_4] using s_l1HasText_ok e26) ?_
                    try simp only [go_sem, qa, qb, qc, qd, qe, qf, qg, qh, qi, qj, qk, reduceCtorEq, reduceIte, c2, c4, c6, c8, hx11, lt_t hx11, lt_p hx11, nat_in (lt_n hx11) hlhx11, c16, c17, c18, hx22, lt_t hx22, lt_p hx22, nat_in (lt_n hx22) hlhx22, g25_1, g25_3, g25_4, g25_5, g25_6, g25_7, g25_8, g25_58, g25_59, g25_60, g25_61, g25_62, g25_63, g25_64, og25_0, og25_1, og25_2, og25_3, og25_4]
                    obtain ⟨v113, e27, h⟩ := bind_K h
                    refine call_K (by first | exact s_IsTest_ok e27 | simpa only [go_sem, qa, qb, qc, qd, qe, qf, qg, qh, qi, qj, qk, reduceCtorEq, reduceIte, c2, c4, c6, c8, hx11, lt_t hx11, lt_p hx11, nat_in (lt_n hx11) hlhx11, c16, c17, c18, hx22, lt_t hx22, lt_p hx22, nat_in (lt_n hx22) hlhx22, g25_1, g25_3, g25_4, g25_5, g25_6, g25_7, g25_8, g25_58, g25_59, g25_60, g25_61, g25_62, g25_63, g25_64, og25_0, og25_1, og25_2, og25_3, og25_4] using s_IsTest_ok e27) ?_
                    try simp only [go_sem, qa, qb, qc, qd, qe, qf, qg, qh, qi, qj, qk, reduceCtorEq, reduceIte, c2, c4, c6, c8, hx11, lt_t hx11, lt_p hx11, nat_in (lt_n hx11) hlhx11, c16, c17, c18, hx22, lt_t hx22, lt_p hx22, nat_in (lt_n hx22) hlhx22, g25_1, g25_3, g25_4, g25_5, g25_6, g25_7, g25_8, g25_58, g25_59, g25_60, g25_61, g25_62, g25_63, g25_64, og25_0, og25_1, og25_2, og25_3, og25_4]
                    refine ite_K h (fun c28 h => ?_) (fun c28 h => ?_)
                    · try simp only [go_sem, qa, qb, qc, qd, qe, qf, qg, qh, qi, qj, qk, reduceCtorEq, reduceIte, c2, c4, c6, c8, hx11, lt_t hx11, lt_p hx11, nat_in (lt_n hx11) hlhx11, c16, c17, c18, hx22, lt_t hx22, lt_p hx22, nat_in (lt_n hx22) hlhx22, c28, g25_1, g25_3, g25_4, g25_5, g25_6, g25_7, g25_8, g25_58, g25_59, g25_60, g25_61, g25_62, g25_63, g25_64, og25_0, og25_1, og25_2, og25_3, og25_4]
                      refine ite_K h (fun c29 h => ?_) (fun c29 h => ?_)
                      · try simp only [go_sem, qa, qb, qc, qd, qe, qf, qg, qh, qi, qj, qk, reduceCtorEq, reduceIte, c2, c4, c6, c8, hx11, lt_t hx11, lt_p hx11, nat_in (lt_n hx11) hlhx11, c16, c17, c18, hx22, lt_t hx22, lt_p hx22, nat_in (lt_n hx22) hlhx22, c28, c29, g25_1, g25_3, g25_4, g25_5, g25_6, g25_7, g25_8, g25_58, g25_59, g25_60, g25_61, g25_62, g25_63, g25_64, og25_0, og25_1, og25_2, og25_3, og25_4]
                        refine ite_K h (fun c30 h => ?_) (fun c30 h => ?_)
                        · try simp only [go_sem, qa, qb, qc, qd, qe, qf, qg, qh, qi, qj, qk, reduceCtorEq, reduceIte, c2, c4, c6, c8, hx11, lt_t hx11, lt_p hx11, nat_in (lt_n hx11) hlhx11, c16, c17, c18, hx22, lt_t hx22, lt_p hx22, nat_in (lt_n hx22) hlhx22, c28, c29, c30, g25_1, g25_3, g25_4, g25_5, g25_6, g25_7, g25_8, g25_58, g25_59, g25_60, g25_61, g25_62, g25_63, g25_64, og25_0, og25_1, og25_2, og25_3, og25_4]
                          refine ⟨_, [], [0, 1, 2, 3, 4], (Option.some.inj h).symm, by decide, ?_⟩
                          try simp only [go_sem, qa, qb, qc, qd, qe, qf, qg, qh, qi, qj, qk, reduceCtorEq, reduceIte, c2, c4, c6, c8, hx11, lt_t hx11, lt_p hx11, nat_in (lt_n hx11) hlhx11, c16, c17, c18, hx22, lt_t hx22, lt_p hx22, nat_in (lt_n hx22) hlhx22, c28, c29, c30, g25_1, g25_3, g25_4, g25_5, g25_6, g25_7, g25_8, g25_58, g25_59, g25_60, g25_61, g25_62, g25_63, g25_64, og25_0, og25_1, og25_2, og25_3, og25_4, IV, sts_cons, sts_nil, obs_cons, obs_nil]
                        · try simp only [go_sem, qa, qb, qc, qd, qe, qf, qg, qh, qi, qj, qk, reduceCtorEq, reduceIte, c2, c4, c6, c8, hx11, lt_t hx11, lt_p hx11, nat_in (lt_n hx11) hlhx11, c16, c17, c18, hx22, lt_t hx22, lt_p hx22, nat_in (lt_n hx22) hlhx22, c28, c29, c30, g25_1, g25_3, g25_4, g25_5, g25_6, g25_7, g25_8, g25_58, g25_59, g25_60, g25_61, g25_62, g25_63, g25_64, og25_0, og25_1, og25_2, og25_3, og25_4]
                          refine ⟨_, [], [0, 1, 2, 3, 4], (Option.some.inj h).symm, by decide, ?_⟩
                          try simp only [go_sem, qa, qb, qc, qd, qe, qf, qg, qh, qi, qj, qk, reduceCtorEq, reduceIte, c2, c4, c6, c8, hx11, lt_t hx11, lt_p hx11, nat_in (lt_n hx11) hlhx11, c16, c17, c18, hx22, lt_t hx22, lt_p hx22, nat_in (lt_n hx22) hlhx22, c28, c29, c30, g25_1, g25_3, g25_4, g25_5, g25_6, g25_7, g25_8, g25_58, g25_59, g25_60, g25_61, g25_62, g25_63, g25_64, og25_0, og25_1, og25_2, og25_3, og25_4, IV, sts_cons, sts_nil, obs_cons, obs_nil]
                      · replace h := inr_K h hy21
                        replace h := inr_K h hy10
                        obtain rfl := Option.some.inj h
                        try simp only [go_sem, qa, qb, qc, qd, qe, qf, qg, qh, qi, qj, qk, reduceCtorEq, reduceIte, c2, c4, c6, c8, hx11, lt_t hx11, lt_p hx11, nat_in (lt_n hx11) hlhx11, c16, c17, c18, hx22, lt_t hx22, lt_p hx22, nat_in (lt_n hx22) hlhx22, c28, c29, g25_1, g25_3, g25_4, g25_5, g25_6, g25_7, g25_8, g25_58, g25_59, g25_60, g25_61, g25_62, g25_63, g25_64, og25_0, og25_1, og25_2, og25_3, og25_4]
                    · try simp only [go_sem, qa, qb, qc, qd, qe, qf, qg, qh, qi, qj, qk, reduceCtorEq, reduceIte, c2, c4, c6, c8, hx11, lt_t hx11, lt_p hx11, nat_in (lt_n hx11) hlhx11, c16, c17, c18, hx22, lt_t hx22, lt_p hx22, nat_in (lt_n hx22) hlhx22, c28, g25_1, g25_3, g25_4, g25_5, g25_6, g25_7, g25_8, g25_58, g25_59, g25_60, g25_61, g25_62, g25_63, g25_64, og25_0, og25_1, og25_2, og25_3, og25_4]
                      refine ite_K h (fun c31 h => ?_) (fun c31 h => ?_)
                      · try simp only [go_sem, qa, qb, qc, qd, qe, qf, qg, qh, qi, qj, qk, reduceCtorEq, reduceIte, c2, c4, c6, c8, hx11, lt_t hx11, lt_p hx11, nat_in (lt_n hx11) hlhx11, c16, c17, c18, hx22, lt_t hx22, lt_p hx22, nat_in (lt_n hx22) hlhx22, c28, c31, g25_1, g25_3, g25_4, g25_5, g25_6, g25_7, g25_8, g25_58, g25_59, g25_60, g25_61, g25_62, g25_63, g25_64, og25_0, og25_1, og25_2, og25_3, og25_4]
                        refine ite_K h (fun c32 h => ?_) (fun c32 h => ?_)
                        · try simp only [go_sem, qa, qb, qc, qd, qe, qf, qg, qh, qi, qj, qk, reduceCtorEq, reduceIte, c2, c4, c6, c8, hx11, lt_t hx11, lt_p hx11, nat_in (lt_n hx11) hlhx11, c16, c17, c18, hx22, lt_t hx22, lt_p hx22, nat_in (lt_n hx22) hlhx22, c28, c31, c32, g25_1, g25_3, g25_4, g25_5, g25_6, g25_7, g25_8, g25_58, g25_59, g25_60, g25_61, g25_62, g25_63, g25_64, og25_0, og25_1, og25_2, og25_3, og25_4]
                          refine ⟨_, [], [0, 1, 2, 3, 4], (Option.some.inj h).symm, by decide, ?_⟩
                          try simp only [go_sem, qa, qb, qc, qd, qe, qf, qg, qh, qi, qj, qk, reduceCtorEq, reduceIte, c2, c4, c6, c8, hx11, lt_t hx11, lt_p hx11, nat_in (lt_n hx11) hlhx11, c16, c17, c18, hx22, lt_t hx22, lt_p hx22, nat_in (lt_n hx22) hlhx22, c28, c31, c32, g25_1, g25_3, g25_4, g25_5, g25_6, g25_7, g25_8, g25_58, g25_59, g25_60, g25_61, g25_62, g25_63, g25_64, og25_0, og25_1, og25_2, og25_3, og25_4, IV, sts_cons, sts_nil, obs_cons, obs_nil]
                        · try simp only [go_sem, qa, qb, qc, qd, qe, qf, qg, qh, qi, qj, qk, reduceCtorEq, reduceIte, c2, c4, c6, c8, hx11, lt_t hx11, lt_p hx11, nat_in (lt_n hx11) hlhx11, c16, c17, c18, hx22, lt_t hx22, lt_p hx22, nat_in (lt_n hx22) hlhx22, c28, c31, c32, g25_1, g25_3, g25_4, g25_5, g25_6, g25_7, g25_8, g25_58, g25_59, g25_60, g25_61, g25_62, g25_63, g25_64, og25_0, og25_1, og25_2, og25_3, og25_4]
                          obtain ⟨v114, e33, h⟩ := bind_K h
                          refine call_K (by first | exact s_l5Elsewhere_ok e33 | simpa only [go_sem, qa, qb, qc, qd, qe, qf, qg, qh, qi, qj, qk, reduceCtorEq, reduceIte, c2, c4, c6, c8, hx11, lt_t hx11, lt_p hx11, nat_in (lt_n hx11) hlhx11, c16, c17, c18, hx22, lt_t hx22, lt_p hx22, nat_in (lt_n hx22) hlhx22, c28, c31, c32, g25_1, g25_3, g25_4, g25_5, g25_6, g25_7, g25_8, g25_58, g25_59, g25_60, g25_61, g25_62, g25_63, g25_64, og25_0, og25_1, og25_2, og25_3, og25_4] using s_l5Elsewhere_ok e33) ?_
                          try simp only [go_sem, qa, qb, qc, qd, qe, qf, qg, qh, qi, qj, qk, reduceCtorEq, reduceIte, c2, c4, c6, c8, hx11, lt_t hx11, lt_p hx11, nat_in (lt_n hx11) hlhx11, c16, c17, c18, hx22, lt_t hx22, lt_p hx22, nat_in (lt_n hx22) hlhx22, c28, c31, c32, g25_1, g25_3, g25_4, g25_5, g25_6, g25_7, g25_8, g25_58, g25_59, g25_60, g25_61, g25_62, g25_63, g25_64, og25_0, og25_1, og25_2, og25_3, og25_4]
                          refine ite_K h (fun c34 h => ?_) (fun c34 h => ?_)
                          · replace h := inr_K h hy21
                            replace h := inr_K h hy10
                            obtain rfl := Option.some.inj h
                            try simp only [go_sem, qa, qb, qc, qd, qe, qf, qg, qh, qi, qj, qk, reduceCtorEq, reduceIte, c2, c4, c6, c8, hx11, lt_t hx11, lt_p hx11, nat_in (lt_n hx11) hlhx11, c16, c17, c18, hx22, lt_t hx22, lt_p hx22, nat_in (lt_n hx22) hlhx22, c28, c31, c32, c34, g25_1, g25_3, g25_4, g25_5, g25_6, g25_7, g25_8, g25_58, g25_59, g25_60, g25_61, g25_62, g25_63, g25_64, og25_0, og25_1, og25_2, og25_3, og25_4]
                          · try simp only [go_sem, qa, qb, qc, qd, qe, qf, qg, qh, qi, qj, qk, reduceCtorEq, reduceIte, c2, c4, c6, c8, hx11, lt_t hx11, lt_p hx11, nat_in (lt_n hx11) hlhx11, c16, c17, c18, hx22, lt_t hx22, lt_p hx22, nat_in (lt_n hx22) hlhx22, c28, c31, c32, c34, g25_1, g25_3, g25_4, g25_5, g25_6, g25_7, g25_8, g25_58, g25_59, g25_60, g25_61, g25_62, g25_63, g25_64, og25_0, og25_1, og25_2, og25_3, og25_4]
                            refine ⟨_, [], [0, 1, 2, 3, 4], (Option.some.inj h).symm, by decide, ?_⟩
                            try simp only [go_sem, qa, qb, qc, qd, qe, qf, qg, qh, qi, qj, qk, reduceCtorEq, reduceIte, c2, c4, c6, c8, hx11, lt_t hx11, lt_p hx11, nat_in (lt_n hx11) hlhx11, c16, c17, c18, hx22, lt_t hx22, lt_p hx22, nat_in (lt_n hx22) hlhx22, c28, c31, c32, c34, g25_1, g25_3, g25_4, g25_5, g25_6, g25_7, g25_8, g25_58, g25_59, g25_60, g25_61, g25_62, g25_63, g25_64, og25_0, og25_1, og25_2, og25_3, og25_4, IV, sts_cons, sts_nil, obs_cons, obs_nil]
                      · try simp only [go_sem, qa, qb, qc, qd, qe, qf, qg, qh, qi, qj, qk, reduceCtorEq, reduceIte, c2, c4, c6, c8, hx11, lt_t hx11, lt_p hx11, nat_in (lt_n hx11) hlhx11, c16, c17, c18, hx22, lt_t hx22, lt_p hx22, nat_in (lt_n hx22) hlhx22, c28, c31, g25_1, g25_3, g25_4, g25_5, g25_6, g25_7, g25_8, g25_58, g25_59, g25_60, g25_61, g25_62, g25_63, g25_64, og25_0, og25_1, og25_2, og25_3, og25_4]
                        refine ⟨_, [], [0, 1, 2, 3, 4], (Option.some.inj h).symm, by decide, ?_⟩
                        try simp only [go_sem, qa, qb, qc, qd, qe, qf, qg, qh, qi, qj, qk, reduceCtorEq, reduceIte, c2, c4, c6, c8, hx11, lt_t hx11, lt_p hx11, nat_in (lt_n hx11) hlhx11, c16, c17, c18, hx22, lt_t hx22, lt_p hx22, nat_in (lt_n hx22) hlhx22, c28, c31, g25_1, g25_3, g25_4, g25_5, g25_6, g25_7, g25_8, g25_58, g25_59, g25_60, g25_61, g25_62, g25_63, g25_64, og25_0, og25_1, og25_2, og25_3, og25_4, IV, sts_cons, sts_nil, obs_cons, obs_nil]
                  · rintro ⟨⟩ ⟨sl, ob, n⟩ hI35 hW36 h
                    simp only [IV, sts_cons, sts_nil, obs_cons, obs_nil, and_true, true_and, Nat.reduceAdd, str_len] at hI35
                    obtain ⟨⟨g37_1, g37_3, g37_4, g37_5, g37_6, g37_7, g37_8, g37_58, g37_59, g37_60, g37_61, g37_62, g37_63, g37_64⟩, og37_0, og37_1, og37_2, og37_3, og37_4, hn⟩ := hI35
                    subst hn
                    try simp only [go_sem, qa, qb, qc, qd, qe, qf, qg, qh, qi, qj, qk, reduceCtorEq, reduceIte, c2, c4, c6, c8, hx11, lt_t hx11, lt_p hx11, nat_in (lt_n hx11) hlhx11, c16, c17, c18, lt_f (v100.length), g37_1, g37_3, g37_4, g37_5, g37_6, g37_7, g37_8, g37_58, g37_59, g37_60, g37_61, g37_62, g37_63, g37_64, og37_0, og37_1, og37_2, og37_3, og37_4]
                    refine ⟨_, [], [0, 1], (Option.some.inj h).symm, by decide, ?_⟩
                    try simp only [go_sem, qa, qb, qc, qd, qe, qf, qg, qh, qi, qj, qk, reduceCtorEq, reduceIte, c2, c4, c6, c8, hx11, lt_t hx11, lt_p hx11, nat_in (lt_n hx11) hlhx11, c16, c17, c18, lt_f (v100.length), g37_1, g37_3, g37_4, g37_5, g37_6, g37_7, g37_8, g37_58, g37_59, g37_60, g37_61, g37_62, g37_63, g37_64, og37_0, og37_1, og37_2, og37_3, og37_4, IV, sts_cons, sts_nil, obs_cons, obs_nil]
              · try simp only [go_sem, qa, qb, qc, qd, qe, qf, qg, qh, qi, qj, qk, reduceCtorEq, reduceIte, c2, c4, c6, c8, hx11, lt_t hx11, lt_p hx11, nat_in (lt_n hx11) hlhx11, c16, c17, g14_1, g14_3, g14_4, og14_0, og14_1]
                obtain ⟨v115, e38, h⟩ := bind_K h
                refine call_K (by first | exact s_BoundVars_ok e38 | simpa only [go_sem, qa, qb, qc, qd, qe, qf, qg, qh, qi, qj, qk, reduceCtorEq, reduceIte, c2, c4, c6, c8, hx11, lt_t hx11, lt_p hx11, nat_in (lt_n hx11) hlhx11, c16, c17, g14_1, g14_3, g14_4, og14_0, og14_1] using s_BoundVars_ok e38) ?_
                try simp only [go_sem, qa, qb, qc, qd, qe, qf, qg, qh, qi, qj, qk, reduceCtorEq, reduceIte, c2, c4, c6, c8, hx11, lt_t hx11, lt_p hx11, nat_in (lt_n hx11) hlhx11, c16, c17, g14_1, g14_3, g14_4, og14_0, og14_1]
                obtain ⟨v116, e39, h⟩ := bind_K h
                refine call_K (by first | exact s_CondVars_ok e39 | simpa only [go_sem, qa, qb, qc, qd, qe, qf, qg, qh, qi, qj, qk, reduceCtorEq, reduceIte, c2, c4, c6, c8, hx11, lt_t hx11, lt_p hx11, nat_in (lt_n hx11) hlhx11, c16, c17, g14_1, g14_3, g14_4, og14_0, og14_1] using s_CondVars_ok e39) ?_
                try simp only [go_sem, qa, qb, qc, qd, qe, qf, qg, qh, qi, qj, qk, reduceCtorEq, reduceIte, c2, c4, c6, c8, hx11, lt_t hx11, lt_p hx11, nat_in (lt_n hx11) hlhx11, c16, c17, g14_1, g14_3, g14_4, og14_0, og14_1]
                refine swp_for h (fun i _ st => IV [(1, .bp 0 0), (3, .p false [.row 1]), (4, .p false [.c (.int .i64 ((i96 : Nat) : Int))]), (5, .bp 2 0), (6, .p false [.row 3]), (7, .p false [.row 4]), (8, .p false [.c (.int .i64 ((i : Nat) : Int))]), (58, .p false [.c (.int .i64 ((i96 : Nat) : Int))]), (59, .p false [.c (.bool (((i96 : Nat) : Int) == 0))]), (60, .p false [.c (.bool (((i96 : Nat) : Int) == 0))]), (64, .p false [.c (.bool false)])] [.box 52 [.c (.str append_0.name), .c (.int .i64 append_0.priority), .c (.sl 99 5 (List.map eCond append_0.cond)), .c (.sl 62 3 (List.map eAction append_0.thn))], .row 9 1 (List.map eStr v5) 2, .box 99 [.c (.int .i64 x97.kind), .c (.str x97.pattern.rel), .c (.sl 9 1 (List.map eStr x97.pattern.args)), .c (.str x97.left), .c (.str x97.right)], .row 9 1 (List.map eStr v115) 2, .row 9 1 (List.map eStr v116) 2] st) [] [0, 1, 162, 418, 466] (by decide) ?_ ?_ ?_
                · simp only [go_sem, qa, qb, qc, qd, qe, qf, qg, qh, qi, qj, qk, reduceCtorEq, reduceIte, IV, sts_cons, sts_nil, obs_cons, obs_nil, c2, c4, c6, c8, hx11, lt_t hx11, lt_p hx11, nat_in (lt_n hx11) hlhx11, c16, c17, g14_1, g14_3, g14_4, og14_0, og14_1]
                · rintro i126 x127 ⟨⟩ ⟨sl, ob, n⟩ y40 hx41 hI42 hW43 h hy40
                  simp only [IV, sts_cons, sts_nil, obs_cons, obs_nil, and_true, true_and, Nat.reduceAdd, str_len] at hI42
                  obtain ⟨⟨g44_1, g44_3, g44_4, g44_5, g44_6, g44_7, g44_8, g44_58, g44_59, g44_60, g44_64⟩, og44_0, og44_1, og44_2, og44_3, og44_4, hn⟩ := hI42
                  subst hn
                  have hlhx41 := WF.rowL hW43 og44_4
                  try simp only [go_sem, qa, qb, qc, qd, qe, qf, qg, qh, qi, qj, qk, reduceCtorEq, reduceIte, c2, c4, c6, c8, hx11, lt_t hx11, lt_p hx11, nat_in (lt_n hx11) hlhx11, c16, c17, hx41, lt_t hx41, lt_p hx41, nat_in (lt_n hx41) hlhx41, g44_1, g44_3, g44_4, g44_5, g44_6, g44_7, g44_8, g44_58, g44_59, g44_60, g44_64, og44_0, og44_1, og44_2, og44_3, og44_4]
                  obtain ⟨v128, e45, h⟩ := bind_K h
                  refine call_K (by first | exact s_l1HasText_ok e45 | simpa only [go_sem, qa, qb, qc, qd, qe, qf, qg, qh, qi, qj, qk, reduceCtorEq, reduceIte, c2, c4, c6, c8, hx11, lt_t hx11, lt_p hx11, nat_in (lt_n hx11) hlhx11, c16, c17, hx41, lt_t hx41, lt_p hx41, nat_in (lt_n hx41) hlhx41, g44_1, g44_3, g44_4, g44_5, g44_6, g44_7, g44_8, g44_58, g44_59, g44_60, g44_64, og44_0, og44_1, og44_2, og44_3, og44_4] using s_l1HasText_ok e45) ?_
                  try simp only [go_sem, qa, qb, qc, qd, qe, qf, qg, qh, qi, qj, qk, reduceCtorEq, reduceIte, c2, c4, c6, c8, hx11, lt_t hx11, lt_p hx11, nat_in (lt_n hx11) hlhx11, c16, c17, hx41, lt_t hx41, lt_p hx41, nat_in (lt_n hx41) hlhx41, g44_1, g44_3, g44_4, g44_5, g44_6, g44_7, g44_8, g44_58, g44_59, g44_60, g44_64, og44_0, og44_1, og44_2, og44_3, og44_4]
                  obtain ⟨v129, e46, h⟩ := bind_K h
                  refine call_K (by first | exact s_IsTest_ok e46 | simpa only [go_sem, qa, qb, qc, qd, qe, qf, qg, qh, qi, qj, qk, reduceCtorEq, reduceIte, c2, c4, c6, c8, hx11, lt_t hx11, lt_p hx11, nat_in (lt_n hx11) hlhx11, c16, c17, hx41, lt_t hx41, lt_p hx41, nat_in (lt_n hx41) hlhx41, g44_1, g44_3, g44_4, g44_5, g44_6, g44_7, g44_8, g44_58, g44_59, g44_60, g44_64, og44_0, og44_1, og44_2, og44_3, og44_4] using s_IsTest_ok e46) ?_
                  try simp only [go_sem, qa, qb, qc, qd, qe, qf, qg, qh, qi, qj, qk, reduceCtorEq, reduceIte, c2, c4, c6, c8, hx11, lt_t hx11, lt_p hx11, nat_in (lt_n hx11) hlhx11, c16, c17, hx41, lt_t hx41, lt_p hx41, nat_in (lt_n hx41) hlhx41, g44_1, g44_3, g44_4, g44_5, g44_6, g44_7, g44_8, g44_58, g44_59, g44_60, g44_64, og44_0, og44_1, og44_2, og44_3, og44_4]
                  refine ite_K h (fun c47 h => ?_) (fun c47 h => ?_)
                  · try simp only [go_sem, qa, qb, qc, qd, qe, qf, qg, qh, qi, qj, qk, reduceCtorEq, reduceIte, c2, c4, c6, c8, hx11, lt_t hx11, lt_p hx11, nat_in (lt_n hx11) hlhx11, c16, c17, hx41, lt_t hx41, lt_p hx41, nat_in (lt_n hx41) hlhx41, c47, g44_1, g44_3, g44_4, g44_5, g44_6, g44_7, g44_8, g44_58, g44_59, g44_60, g44_64, og44_0, og44_1, og44_2, og44_3, og44_4]
                    refine ite_K h (fun c48 h => ?_) (fun c48 h => ?_)
                    · try simp only [go_sem, qa, qb, qc, qd, qe, qf, qg, qh, qi, qj, qk, reduceCtorEq, reduceIte, c2, c4, c6, c8, hx11, lt_t hx11, lt_p hx11, nat_in (lt_n hx11) hlhx11, c16, c17, hx41, lt_t hx41, lt_p hx41, nat_in (lt_n hx41) hlhx41, c47, c48, g44_1, g44_3, g44_4, g44_5, g44_6, g44_7, g44_8, g44_58, g44_59, g44_60, g44_64, og44_0, og44_1, og44_2, og44_3, og44_4]
                      refine ite_K h (fun c49 h => ?_) (fun c49 h => ?_)
                      · try simp only [go_sem, qa, qb, qc, qd, qe, qf, qg, qh, qi, qj, qk, reduceCtorEq, reduceIte, c2, c4, c6, c8, hx11, lt_t hx11, lt_p hx11, nat_in (lt_n hx11) hlhx11, c16, c17, hx41, lt_t hx41, lt_p hx41, nat_in (lt_n hx41) hlhx41, c47, c48, c49, g44_1, g44_3, g44_4, g44_5, g44_6, g44_7, g44_8, g44_58, g44_59, g44_60, g44_64, og44_0, og44_1, og44_2, og44_3, og44_4]
                        refine ⟨_, [], [0, 1, 2, 3, 4], (Option.some.inj h).symm, by decide, ?_⟩
                        try simp only [go_sem, qa, qb, qc, qd, qe, qf, qg, qh, qi, qj, qk, reduceCtorEq, reduceIte, c2, c4, c6, c8, hx11, lt_t hx11, lt_p hx11, nat_in (lt_n hx11) hlhx11, c16, c17, hx41, lt_t hx41, lt_p hx41, nat_in (lt_n hx41) hlhx41, c47, c48, c49, g44_1, g44_3, g44_4, g44_5, g44_6, g44_7, g44_8, g44_58, g44_59, g44_60, g44_64, og44_0, og44_1, og44_2, og44_3, og44_4, IV, sts_cons, sts_nil, obs_cons, obs_nil]
                      · try simp only [go_sem, qa, qb, qc, qd, qe, qf, qg, qh, qi, qj, qk, reduceCtorEq, reduceIte, c2, c4, c6, c8, hx11, lt_t hx11, lt_p hx11, nat_in (lt_n hx11) hlhx11, c16, c17, hx41, lt_t hx41, lt_p hx41, nat_in (lt_n hx41) hlhx41, c47, c48, c49, g44_1, g44_3, g44_4, g44_5, g44_6, g44_7, g44_8, g44_58, g44_59, g44_60, g44_64, og44_0, og44_1, og44_2, og44_3, og44_4]
                        refine ⟨_, [], [0, 1, 2, 3, 4], (Option.some.inj h).symm, by decide, ?_⟩
                        try simp only [go_sem, qa, qb, qc, qd, qe, qf, qg, qh, qi, qj, qk, reduceCtorEq, reduceIte, c2, c4, c6, c8, hx11, lt_t hx11, lt_p hx11, nat_in (lt_n hx11) hlhx11, c16, c17, hx41, lt_t hx41, lt_p hx41, nat_in (lt_n hx41) hlhx41, c47, c48, c49, g44_1, g44_3, g44_4, g44_5, g44_6, g44_7, g44_8, g44_58, g44_59, g44_60, g44_64, og44_0, og44_1, og44_2, og44_3, og44_4, IV, sts_cons, sts_nil, obs_cons, obs_nil]
                    · replace h := inr_K h hy40
                      replace h := inr_K h hy10
                      obtain rfl := Option.some.inj h
                      try simp only [go_sem, qa, qb, qc, qd, qe, qf, qg, qh, qi, qj, qk, reduceCtorEq, reduceIte, c2, c4, c6, c8, hx11, lt_t hx11, lt_p hx11, nat_in (lt_n hx11) hlhx11, c16, c17, hx41, lt_t hx41, lt_p hx41, nat_in (lt_n hx41) hlhx41, c47, c48, g44_1, g44_3, g44_4, g44_5, g44_6, g44_7, g44_8, g44_58, g44_59, g44_60, g44_64, og44_0, og44_1, og44_2, og44_3, og44_4]
                  · try simp only [go_sem, qa, qb, qc, qd, qe, qf, qg, qh, qi, qj, qk, reduceCtorEq, reduceIte, c2, c4, c6, c8, hx11, lt_t hx11, lt_p hx11, nat_in (lt_n hx11) hlhx11, c16, c17, hx41, lt_t hx41, lt_p hx41, nat_in (lt_n hx41) hlhx41, c47, g44_1, g44_3, g44_4, g44_5, g44_6, g44_7, g44_8, g44_58, g44_59, g44_60, g44_64, og44_0, og44_1, og44_2, og44_3, og44_4]
                    refine ite_K h (fun c50 h => ?_) (fun c50 h => ?_)
                    · try simp only [go_sem, qa, qb, qc, qd, qe, qf, qg, qh, qi, qj, qk, reduceCtorEq, reduceIte, c2, c4, c6, c8, hx11, lt_t hx11, lt_p hx11, nat_in (lt_n hx11) hlhx11, c16, c17, hx41, lt_t hx41, lt_p hx41, nat_in (lt_n hx41) hlhx41, c47, c50, g44_1, g44_3, g44_4, g44_5, g44_6, g44_7, g44_8, g44_58, g44_59, g44_60, g44_64, og44_0, og44_1, og44_2, og44_3, og44_4]
                      refine ite_K h (fun c51 h => ?_) (fun c51 h => ?_)
                      · try simp only [go_sem, qa, qb, qc, qd, qe, qf, qg, qh, qi, qj, qk, reduceCtorEq, reduceIte, c2, c4, c6, c8, hx11, lt_t hx11, lt_p hx11, nat_in (lt_n hx11) hlhx11, c16, c17, hx41, lt_t hx41, lt_p hx41, nat_in (lt_n hx41) hlhx41, c47, c50, c51, g44_1, g44_3, g44_4, g44_5, g44_6, g44_7, g44_8, g44_58, g44_59, g44_60, g44_64, og44_0, og44_1, og44_2, og44_3, og44_4]
                        refine ⟨_, [], [0, 1, 2, 3, 4], (Option.some.inj h).symm, by decide, ?_⟩
                        try simp only [go_sem, qa, qb, qc, qd, qe, qf, qg, qh, qi, qj, qk, reduceCtorEq, reduceIte, c2, c4, c6, c8, hx11, lt_t hx11, lt_p hx11, nat_in (lt_n hx11) hlhx11, c16, c17, hx41, lt_t hx41, lt_p hx41, nat_in (lt_n hx41) hlhx41, c47, c50, c51, g44_1, g44_3, g44_4, g44_5, g44_6, g44_7, g44_8, g44_58, g44_59, g44_60, g44_64, og44_0, og44_1, og44_2, og44_3, og44_4, IV, sts_cons, sts_nil, obs_cons, obs_nil]
                      · try simp only [go_sem, qa, qb, qc, qd, qe, qf, qg, qh, qi, qj, qk, reduceCtorEq, reduceIte, c2, c4, c6, c8, hx11, lt_t hx11, lt_p hx11, nat_in (lt_n hx11) hlhx11, c16, c17, hx41, lt_t hx41, lt_p hx41, nat_in (lt_n hx41) hlhx41, c47, c50, c51, g44_1, g44_3, g44_4, g44_5, g44_6, g44_7, g44_8, g44_58, g44_59, g44_60, g44_64, og44_0, og44_1, og44_2, og44_3, og44_4]
                        obtain ⟨v130, e52, h⟩ := bind_K h
                        refine call_K (by first | exact s_l5Elsewhere_ok e52 | simpa only [go_sem, qa, qb, qc, qd, qe, qf, qg, qh, qi, qj, qk, reduceCtorEq, reduceIte, c2, c4, c6, c8, hx11, lt_t hx11, lt_p hx11, nat_in (lt_n hx11) hlhx11, c16, c17, hx41, lt_t hx41, lt_p hx41, nat_in (lt_n hx41) hlhx41, c47, c50, c51, g44_1, g44_3, g44_4, g44_5, g44_6, g44_7, g44_8, g44_58, g44_59, g44_60, g44_64, og44_0, og44_1, og44_2, og44_3, og44_4] using s_l5Elsewhere_ok e52) ?_
                        try simp only [go_sem, qa, qb, qc, qd, qe, qf, qg, qh, qi, qj, qk, reduceCtorEq, reduceIte, c2, c4, c6, c8, hx11, lt_t hx11, lt_p hx11, nat_in (lt_n hx11) hlhx11, c16, c17, hx41, lt_t hx41, lt_p hx41, nat_in (lt_n hx41) hlhx41, c47, c50, c51, g44_1, g44_3, g44_4, g44_5, g44_6, g44_7, g44_8, g44_58, g44_59, g44_60, g44_64, og44_0, og44_1, og44_2, og44_3, og44_4]
                        refine ite_K h (fun c53 h => ?_) (fun c53 h => ?_)
                        · replace h := inr_K h hy40
                          replace h := inr_K h hy10
                          obtain rfl := Option.some.inj h
                          try simp only [go_sem, qa, qb, qc, qd, qe, qf, qg, qh, qi, qj, qk, reduceCtorEq, reduceIte, c2, c4, c6, c8, hx11, lt_t hx11, lt_p hx11, nat_in (lt_n hx11) hlhx11, c16, c17, hx41, lt_t hx41, lt_p hx41, nat_in (lt_n hx41) hlhx41, c47, c50, c51, c53, g44_1, g44_3, g44_4, g44_5, g44_6, g44_7, g44_8, g44_58, g44_59, g44_60, g44_64, og44_0, og44_1, og44_2, og44_3, og44_4]
                        · try simp only [go_sem, qa, qb, qc, qd, qe, qf, qg, qh, qi, qj, qk, reduceCtorEq, reduceIte, c2, c4, c6, c8, hx11, lt_t hx11, lt_p hx11, nat_in (lt_n hx11) hlhx11, c16, c17, hx41, lt_t hx41, lt_p hx41, nat_in (lt_n hx41) hlhx41, c47, c50, c51, c53, g44_1, g44_3, g44_4, g44_5, g44_6, g44_7, g44_8, g44_58, g44_59, g44_60, g44_64, og44_0, og44_1, og44_2, og44_3, og44_4]
                          refine ⟨_, [], [0, 1, 2, 3, 4], (Option.some.inj h).symm, by decide, ?_⟩
                          try simp only [go_sem, qa, qb, qc, qd, qe, qf, qg, qh, qi, qj, qk, reduceCtorEq, reduceIte, c2, c4, c6, c8, hx11, lt_t hx11, lt_p hx11, nat_in (lt_n hx11) hlhx11, c16, c17, hx41, lt_t hx41, lt_p hx41, nat_in (lt_n hx41) hlhx41, c47, c50, c51, c53, g44_1, g44_3, g44_4, g44_5, g44_6, g44_7, g44_8, g44_58, g44_59, g44_60, g44_64, og44_0, og44_1, og44_2, og44_3, og44_4, IV, sts_cons, sts_nil, obs_cons, obs_nil]
                    · try simp only [go_sem, qa, qb, qc, qd, qe, qf, qg, qh, qi, qj, qk, reduceCtorEq, reduceIte, c2, c4, c6, c8, hx11, lt_t hx11, lt_p hx11, nat_in (lt_n hx11) hlhx11, c16, c17, hx41, lt_t hx41, lt_p hx41, nat_in (lt_n hx41) hlhx41, c47, c50, g44_1, g44_3, g44_4, g44_5, g44_6, g44_7, g44_8, g44_58, g44_59, g44_60, g44_64, og44_0, og44_1, og44_2, og44_3, og44_4]
                      refine ⟨_, [], [0, 1, 2, 3, 4], (Option.some.inj h).symm, by decide, ?_⟩
                      try simp only [go_sem, qa, qb, qc, qd, qe, qf, qg, qh, qi, qj, qk, reduceCtorEq, reduceIte, c2, c4, c6, c8, hx11, lt_t hx11, lt_p hx11, nat_in (lt_n hx11) hlhx11, c16, c17, hx41, lt_t hx41, lt_p hx41, nat_in (lt_n hx41) hlhx41, c47, c50, g44_1, g44_3, g44_4, g44_5, g44_6, g44_7, g44_8, g44_58, g44_59, g44_60, g44_64, og44_0, og44_1, og44_2, og44_3, og44_4, IV, sts_cons, sts_nil, obs_cons, obs_nil]
                · rintro ⟨⟩ ⟨sl, ob, n⟩ hI54 hW55 h
                  simp only [IV, sts_cons, sts_nil, obs_cons, obs_nil, and_true, true_and, Nat.reduceAdd, str_len] at hI54
                  obtain ⟨⟨g56_1, g56_3, g56_4, g56_5, g56_6, g56_7, g56_8, g56_58, g56_59, g56_60, g56_64⟩, og56_0, og56_1, og56_2, og56_3, og56_4, hn⟩ := hI54
                  subst hn
                  try simp only [go_sem, qa, qb, qc, qd, qe, qf, qg, qh, qi, qj, qk, reduceCtorEq, reduceIte, c2, c4, c6, c8, hx11, lt_t hx11, lt_p hx11, nat_in (lt_n hx11) hlhx11, c16, c17, lt_f (v116.length), g56_1, g56_3, g56_4, g56_5, g56_6, g56_7, g56_8, g56_58, g56_59, g56_60, g56_64, og56_0, og56_1, og56_2, og56_3, og56_4]
                  refine ⟨_, [], [0, 1], (Option.some.inj h).symm, by decide, ?_⟩
                  try simp only [go_sem, qa, qb, qc, qd, qe, qf, qg, qh, qi, qj, qk, reduceCtorEq, reduceIte, c2, c4, c6, c8, hx11, lt_t hx11, lt_p hx11, nat_in (lt_n hx11) hlhx11, c16, c17, lt_f (v116.length), g56_1, g56_3, g56_4, g56_5, g56_6, g56_7, g56_8, g56_58, g56_59, g56_60, g56_64, og56_0, og56_1, og56_2, og56_3, og56_4, IV, sts_cons, sts_nil, obs_cons, obs_nil]
            · replace h := inr_K h hy10
              obtain rfl := Option.some.inj h
              try simp only [go_sem, qa, qb, qc, qd, qe, qf, qg, qh, qi, qj, qk, reduceCtorEq, reduceIte, c2, c4, c6, c8, hx11, lt_t hx11, lt_p hx11, nat_in (lt_n hx11) hlhx11, c16, g14_1, g14_3, g14_4, og14_0, og14_1]
          · rintro ⟨⟩ ⟨sl, ob, n⟩ hI57 hW58 h
            simp only [IV, sts_cons, sts_nil, obs_cons, obs_nil, and_true, true_and, Nat.reduceAdd, str_len] at hI57
            obtain ⟨⟨g59_1, g59_3, g59_4⟩, og59_0, og59_1, hn⟩ := hI57
            subst hn
            try simp only [go_sem, qa, qb, qc, qd, qe, qf, qg, qh, qi, qj, qk, reduceCtorEq, reduceIte, c2, c4, c6, c8, lt_f (append_0.cond.length), g59_1, g59_3, g59_4, og59_0, og59_1]
            refine swp_for h (fun i _ st => IV [(1, .bp 0 0), (3, .p false [.row 1]), (10, .p false [.c (.int .i64 ((i : Nat) : Int))])] [.box 52 [.c (.str append_0.name), .c (.int .i64 append_0.priority), .c (.sl 99 5 (List.map eCond append_0.cond)), .c (.sl 62 3 (List.map eAction append_0.thn))], .row 9 1 (List.map eStr v5) 2] st) [] [0, 1] (by decide) ?_ ?_ ?_
            · simp only [go_sem, qa, qb, qc, qd, qe, qf, qg, qh, qi, qj, qk, reduceCtorEq, reduceIte, IV, sts_cons, sts_nil, obs_cons, obs_nil, c2, c4, c6, c8, lt_f (append_0.cond.length), g59_1, g59_3, g59_4, og59_0, og59_1]
            · rintro i155 x156 ⟨⟩ ⟨sl, ob, n⟩ y60 hx61 hI62 hW63 h hy60
              simp only [IV, sts_cons, sts_nil, obs_cons, obs_nil, and_true, true_and, Nat.reduceAdd, str_len] at hI62
              obtain ⟨⟨g64_1, g64_3, g64_10⟩, og64_0, og64_1, hn⟩ := hI62
              subst hn
              have hlhx61 := WF.boxL hW63 og64_0 (j := 3) rfl
              try simp only [go_sem, qa, qb, qc, qd, qe, qf, qg, qh, qi, qj, qk, reduceCtorEq, reduceIte, c2, c4, c6, c8, lt_f (append_0.cond.length), hx61, lt_t hx61, lt_p hx61, nat_in (lt_n hx61) hlhx61, g64_1, g64_3, g64_10, og64_0, og64_1]
              obtain ⟨v157, e65, h⟩ := bind_K h
              refine call_K (by first | exact s_IsAction_ok e65 | simpa only [go_sem, qa, qb, qc, qd, qe, qf, qg, qh, qi, qj, qk, reduceCtorEq, reduceIte, c2, c4, c6, c8, lt_f (append_0.cond.length), hx61, lt_t hx61, lt_p hx61, nat_in (lt_n hx61) hlhx61, g64_1, g64_3, g64_10, og64_0, og64_1] using s_IsAction_ok e65) ?_
              try simp only [go_sem, qa, qb, qc, qd, qe, qf, qg, qh, qi, qj, qk, reduceCtorEq, reduceIte, c2, c4, c6, c8, lt_f (append_0.cond.length), hx61, lt_t hx61, lt_p hx61, nat_in (lt_n hx61) hlhx61, g64_1, g64_3, g64_10, og64_0, og64_1]
              refine ite_K h (fun c66 h => ?_) (fun c66 h => ?_)
              · try simp only [go_sem, qa, qb, qc, qd, qe, qf, qg, qh, qi, qj, qk, reduceCtorEq, reduceIte, c2, c4, c6, c8, lt_f (append_0.cond.length), hx61, lt_t hx61, lt_p hx61, nat_in (lt_n hx61) hlhx61, c66, g64_1, g64_3, g64_10, og64_0, og64_1]
                obtain ⟨v158, e67, h⟩ := bind_K h
                refine call_K (by first | exact s_VarsOf_ok e67 | simpa only [go_sem, qa, qb, qc, qd, qe, qf, qg, qh, qi, qj, qk, reduceCtorEq, reduceIte, c2, c4, c6, c8, lt_f (append_0.cond.length), hx61, lt_t hx61, lt_p hx61, nat_in (lt_n hx61) hlhx61, c66, g64_1, g64_3, g64_10, og64_0, og64_1] using s_VarsOf_ok e67) ?_
                try simp only [go_sem, qa, qb, qc, qd, qe, qf, qg, qh, qi, qj, qk, reduceCtorEq, reduceIte, c2, c4, c6, c8, lt_f (append_0.cond.length), hx61, lt_t hx61, lt_p hx61, nat_in (lt_n hx61) hlhx61, c66, g64_1, g64_3, g64_10, og64_0, og64_1]
                refine swp_for h (fun i _ st => IV [(1, .bp 0 0), (3, .p false [.row 1]), (10, .p false [.c (.int .i64 ((i155 : Nat) : Int))]), (11, .p false [.row 2]), (12, .p false [.c (.int .i64 ((i : Nat) : Int))])] [.box 52 [.c (.str append_0.name), .c (.int .i64 append_0.priority), .c (.sl 99 5 (List.map eCond append_0.cond)), .c (.sl 62 3 (List.map eAction append_0.thn))], .row 9 1 (List.map eStr v5) 2, .row 9 1 (List.map eStr v158) 2] st) [] [0, 1, 290] (by decide) ?_ ?_ ?_
                · simp only [go_sem, qa, qb, qc, qd, qe, qf, qg, qh, qi, qj, qk, reduceCtorEq, reduceIte, IV, sts_cons, sts_nil, obs_cons, obs_nil, c2, c4, c6, c8, lt_f (append_0.cond.length), hx61, lt_t hx61, lt_p hx61, nat_in (lt_n hx61) hlhx61, c66, g64_1, g64_3, g64_10, og64_0, og64_1]
                · rintro i164 x165 ⟨⟩ ⟨sl, ob, n⟩ y68 hx69 hI70 hW71 h hy68
                  simp only [IV, sts_cons, sts_nil, obs_cons, obs_nil, and_true, true_and, Nat.reduceAdd, str_len] at hI70
                  obtain ⟨⟨g72_1, g72_3, g72_10, g72_11, g72_12⟩, og72_0, og72_1, og72_2, hn⟩ := hI70
                  subst hn
                  have hlhx69 := WF.rowL hW71 og72_2
                  try simp only [go_sem, qa, qb, qc, qd, qe, qf, qg, qh, qi, qj, qk, reduceCtorEq, reduceIte, c2, c4, c6, c8, lt_f (append_0.cond.length), hx61, lt_t hx61, lt_p hx61, nat_in (lt_n hx61) hlhx61, c66, hx69, lt_t hx69, lt_p hx69, nat_in (lt_n hx69) hlhx69, g72_1, g72_3, g72_10, g72_11, g72_12, og72_0, og72_1, og72_2]
                  obtain ⟨v166, e73, h⟩ := bind_K h
                  refine call_K (by first | exact s_l1HasText_ok e73 | simpa only [go_sem, qa, qb, qc, qd, qe, qf, qg, qh, qi, qj, qk, reduceCtorEq, reduceIte, c2, c4, c6, c8, lt_f (append_0.cond.length), hx61, lt_t hx61, lt_p hx61, nat_in (lt_n hx61) hlhx61, c66, hx69, lt_t hx69, lt_p hx69, nat_in (lt_n hx69) hlhx69, g72_1, g72_3, g72_10, g72_11, g72_12, og72_0, og72_1, og72_2] using s_l1HasText_ok e73) ?_
                  try simp only [go_sem, qa, qb, qc, qd, qe, qf, qg, qh, qi, qj, qk, reduceCtorEq, reduceIte, c2, c4, c6, c8, lt_f (append_0.cond.length), hx61, lt_t hx61, lt_p hx61, nat_in (lt_n hx61) hlhx61, c66, hx69, lt_t hx69, lt_p hx69, nat_in (lt_n hx69) hlhx69, g72_1, g72_3, g72_10, g72_11, g72_12, og72_0, og72_1, og72_2]
                  refine ite_K h (fun c74 h => ?_) (fun c74 h => ?_)
                  · try simp only [go_sem, qa, qb, qc, qd, qe, qf, qg, qh, qi, qj, qk, reduceCtorEq, reduceIte, c2, c4, c6, c8, lt_f (append_0.cond.length), hx61, lt_t hx61, lt_p hx61, nat_in (lt_n hx61) hlhx61, c66, hx69, lt_t hx69, lt_p hx69, nat_in (lt_n hx69) hlhx69, c74, g72_1, g72_3, g72_10, g72_11, g72_12, og72_0, og72_1, og72_2]
                    refine ⟨_, [], [0, 1, 2], (Option.some.inj h).symm, by decide, ?_⟩
                    try simp only [go_sem, qa, qb, qc, qd, qe, qf, qg, qh, qi, qj, qk, reduceCtorEq, reduceIte, c2, c4, c6, c8, lt_f (append_0.cond.length), hx61, lt_t hx61, lt_p hx61, nat_in (lt_n hx61) hlhx61, c66, hx69, lt_t hx69, lt_p hx69, nat_in (lt_n hx69) hlhx69, c74, g72_1, g72_3, g72_10, g72_11, g72_12, og72_0, og72_1, og72_2, IV, sts_cons, sts_nil, obs_cons, obs_nil]
                  · replace h := inr_K h hy68
                    replace h := inr_K h hy60
                    obtain rfl := Option.some.inj h
                    try simp only [go_sem, qa, qb, qc, qd, qe, qf, qg, qh, qi, qj, qk, reduceCtorEq, reduceIte, c2, c4, c6, c8, lt_f (append_0.cond.length), hx61, lt_t hx61, lt_p hx61, nat_in (lt_n hx61) hlhx61, c66, hx69, lt_t hx69, lt_p hx69, nat_in (lt_n hx69) hlhx69, c74, g72_1, g72_3, g72_10, g72_11, g72_12, og72_0, og72_1, og72_2]
                · rintro ⟨⟩ ⟨sl, ob, n⟩ hI75 hW76 h
                  simp only [IV, sts_cons, sts_nil, obs_cons, obs_nil, and_true, true_and, Nat.reduceAdd, str_len] at hI75
                  obtain ⟨⟨g77_1, g77_3, g77_10, g77_11, g77_12⟩, og77_0, og77_1, og77_2, hn⟩ := hI75
                  subst hn
                  try simp only [go_sem, qa, qb, qc, qd, qe, qf, qg, qh, qi, qj, qk, reduceCtorEq, reduceIte, c2, c4, c6, c8, lt_f (append_0.cond.length), hx61, lt_t hx61, lt_p hx61, nat_in (lt_n hx61) hlhx61, c66, lt_f (v158.length), g77_1, g77_3, g77_10, g77_11, g77_12, og77_0, og77_1, og77_2]
                  refine ⟨_, [], [0, 1], (Option.some.inj h).symm, by decide, ?_⟩
                  try simp only [go_sem, qa, qb, qc, qd, qe, qf, qg, qh, qi, qj, qk, reduceCtorEq, reduceIte, c2, c4, c6, c8, lt_f (append_0.cond.length), hx61, lt_t hx61, lt_p hx61, nat_in (lt_n hx61) hlhx61, c66, lt_f (v158.length), g77_1, g77_3, g77_10, g77_11, g77_12, og77_0, og77_1, og77_2, IV, sts_cons, sts_nil, obs_cons, obs_nil]
              · replace h := inr_K h hy60
                obtain rfl := Option.some.inj h
                try simp only [go_sem, qa, qb, qc, qd, qe, qf, qg, qh, qi, qj, qk, reduceCtorEq, reduceIte, c2, c4, c6, c8, lt_f (append_0.cond.length), hx61, lt_t hx61, lt_p hx61, nat_in (lt_n hx61) hlhx61, c66, g64_1, g64_3, g64_10, og64_0, og64_1]
            · rintro ⟨⟩ ⟨sl, ob, n⟩ hI78 hW79 h
              simp only [IV, sts_cons, sts_nil, obs_cons, obs_nil, and_true, true_and, Nat.reduceAdd, str_len] at hI78
              obtain ⟨⟨g80_1, g80_3, g80_10⟩, og80_0, og80_1, hn⟩ := hI78
              subst hn
              try simp only [go_sem, qa, qb, qc, qd, qe, qf, qg, qh, qi, qj, qk, reduceCtorEq, reduceIte, c2, c4, c6, c8, lt_f (append_0.cond.length), lt_f (append_0.thn.length), g80_1, g80_3, g80_10, og80_0, og80_1]
              obtain ⟨v167, e81, h⟩ := bind_K h
              refine call_K (by first | exact s_RuleVars_ok e81 | simpa only [go_sem, qa, qb, qc, qd, qe, qf, qg, qh, qi, qj, qk, reduceCtorEq, reduceIte, c2, c4, c6, c8, lt_f (append_0.cond.length), lt_f (append_0.thn.length), g80_1, g80_3, g80_10, og80_0, og80_1] using s_RuleVars_ok e81) ?_
              obtain rfl := Option.some.inj h
              try simp only [go_sem, qa, qb, qc, qd, qe, qf, qg, qh, qi, qj, qk, reduceCtorEq, reduceIte, c2, c4, c6, c8, lt_f (append_0.cond.length), lt_f (append_0.thn.length), g80_1, g80_3, g80_10, og80_0, og80_1]
        · obtain rfl := Option.some.inj h
          try simp only [go_sem, qa, qb, qc, qd, qe, qf, qg, qh, qi, qj, qk, reduceCtorEq, reduceIte, c2, c4, c6, c8]
      · obtain rfl := Option.some.inj h
        try simp only [go_sem, qa, qb, qc, qd, qe, qf, qg, qh, qi, qj, qk, reduceCtorEq, reduceIte, c2, c4, c6]
    · obtain rfl := Option.some.inj h
      try simp only [go_sem, qa, qb, qc, qd, qe, qf, qg, qh, qi, qj, qk, reduceCtorEq, reduceIte, c2, c4]
  · obtain rfl := Option.some.inj h
    try simp only [go_sem, qa, qb, qc, qd, qe, qf, qg, qh, qi, qj, qk, reduceCtorEq, reduceIte, c2]
end Go.Proofs.YtlkgkkacnoaeaaaGreatDoor

namespace Go.Proofs.YtlkgkkacnoaeaaaGreatDoor
open Go.Proofs.Tryz
open Int renaming reduceLT → qa, reduceLE → qb, reduceBEq → qc, reduceBNe → qd
open Nat renaming reduceBNe → qe, reduceAdd → qf, reduceMul → qg, reduceEqDiff → qh, reduceLeDiff → qi, reduceLT → qj, reduceBEq → qk
set_option linter.unusedSimpArgs false
set_option linter.unusedVariables false
set_option maxRecDepth 1000000
set_option maxHeartbeats 4000000
theorem s_AreRules_ok {l_0 : (List RuleD)} {r : Bool} (h : s_AreRules l_0 = some r) : Sound Tryz.prog J0 24 [(false, [.sl 52 4 (List.map eRule l_0)])] [(false, [(false, .bool r)])] := by
  refine fnk Tryz.func24 (by kernel_rfl) rfl (by kernel_rfl) (by kernel_rfl) ?_
  unfold s_AreRules at h
  simp only [fnS, f24, argSt, go_sem, qa, qb, qc, qd, qe, qf, qg, qh, qi, qj, qk, reduceCtorEq, reduceIte]
  refine swp_for h (fun i _ st => IV [(0, .p false [.c (.sl 52 4 (List.map eRule l_0))]), (3, .p false [.c (.int .i64 ((i : Nat) : Int))])] [] st) [] [] (by decide) ?_ ?_ ?_
  · simp only [go_sem, qa, qb, qc, qd, qe, qf, qg, qh, qi, qj, qk, reduceCtorEq, reduceIte, IV, sts_cons, sts_nil, obs_cons, obs_nil]
  · rintro i8 x9 ⟨⟩ ⟨sl, ob, n⟩ y1 hx2 hI3 hW4 h hy1
    simp only [IV, sts_cons, sts_nil, obs_cons, obs_nil, and_true, true_and, Nat.reduceAdd, str_len] at hI3
    obtain ⟨⟨g5_0, g5_3⟩, hn⟩ := hI3
    subst hn
    have hlhx2 := WF.slotL hW4 g5_0 (j := 0) rfl
    try simp only [go_sem, qa, qb, qc, qd, qe, qf, qg, qh, qi, qj, qk, reduceCtorEq, reduceIte, hx2, lt_t hx2, lt_p hx2, nat_in (lt_n hx2) hlhx2, g5_0, g5_3]
    obtain ⟨v10, e6, h⟩ := bind_K h
    refine call_K (by first | exact s_IsRule_ok e6 | simpa only [go_sem, qa, qb, qc, qd, qe, qf, qg, qh, qi, qj, qk, reduceCtorEq, reduceIte, hx2, lt_t hx2, lt_p hx2, nat_in (lt_n hx2) hlhx2, g5_0, g5_3] using s_IsRule_ok e6) ?_
    try simp only [go_sem, qa, qb, qc, qd, qe, qf, qg, qh, qi, qj, qk, reduceCtorEq, reduceIte, hx2, lt_t hx2, lt_p hx2, nat_in (lt_n hx2) hlhx2, g5_0, g5_3]
    refine ite_K h (fun c7 h => ?_) (fun c7 h => ?_)
    · try simp only [go_sem, qa, qb, qc, qd, qe, qf, qg, qh, qi, qj, qk, reduceCtorEq, reduceIte, hx2, lt_t hx2, lt_p hx2, nat_in (lt_n hx2) hlhx2, c7, g5_0, g5_3]
      obtain ⟨v11, e8, h⟩ := bind_K h
      refine call_K (by first | exact s_FindRule_ok e8 | simpa only [go_sem, qa, qb, qc, qd, qe, qf, qg, qh, qi, qj, qk, reduceCtorEq, reduceIte, hx2, lt_t hx2, lt_p hx2, nat_in (lt_n hx2) hlhx2, c7, g5_0, g5_3] using s_FindRule_ok e8) ?_
      try simp only [go_sem, qa, qb, qc, qd, qe, qf, qg, qh, qi, qj, qk, reduceCtorEq, reduceIte, hx2, lt_t hx2, lt_p hx2, nat_in (lt_n hx2) hlhx2, c7, g5_0, g5_3]
      refine ite_K h (fun c9 h => ?_) (fun c9 h => ?_)
      · replace h := inr_K h hy1
        obtain rfl := Option.some.inj h
        try simp only [go_sem, qa, qb, qc, qd, qe, qf, qg, qh, qi, qj, qk, reduceCtorEq, reduceIte, hx2, lt_t hx2, lt_p hx2, nat_in (lt_n hx2) hlhx2, c7, c9, g5_0, g5_3]
      · try simp only [go_sem, qa, qb, qc, qd, qe, qf, qg, qh, qi, qj, qk, reduceCtorEq, reduceIte, hx2, lt_t hx2, lt_p hx2, nat_in (lt_n hx2) hlhx2, c7, c9, g5_0, g5_3]
        refine ⟨_, [], [], (Option.some.inj h).symm, by decide, ?_⟩
        try simp only [go_sem, qa, qb, qc, qd, qe, qf, qg, qh, qi, qj, qk, reduceCtorEq, reduceIte, hx2, lt_t hx2, lt_p hx2, nat_in (lt_n hx2) hlhx2, c7, c9, g5_0, g5_3, IV, sts_cons, sts_nil, obs_cons, obs_nil]
    · replace h := inr_K h hy1
      obtain rfl := Option.some.inj h
      try simp only [go_sem, qa, qb, qc, qd, qe, qf, qg, qh, qi, qj, qk, reduceCtorEq, reduceIte, hx2, lt_t hx2, lt_p hx2, nat_in (lt_n hx2) hlhx2, c7, g5_0, g5_3]
  · rintro ⟨⟩ ⟨sl, ob, n⟩ hI10 hW11 h
    simp only [IV, sts_cons, sts_nil, obs_cons, obs_nil, and_true, true_and, Nat.reduceAdd, str_len] at hI10
    obtain ⟨⟨g12_0, g12_3⟩, hn⟩ := hI10
    subst hn
    obtain rfl := Option.some.inj h
    try simp only [go_sem, qa, qb, qc, qd, qe, qf, qg, qh, qi, qj, qk, reduceCtorEq, reduceIte, lt_f (l_0.length), g12_0, g12_3]
theorem s_HoldsCond_ok {x_0 : CondD} {b_1 : (List PairD)} {facts_2 : (List FactD)} {r : Bool} (h : s_HoldsCond x_0 b_1 facts_2 = some r) : Sound Tryz.prog J0 130 [(true, eCond x_0), (false, [.sl 119 2 (List.map ePair b_1)]), (false, [.sl 57 2 (List.map eFact facts_2)])] [(false, [(false, .bool r)])] := by
  refine fnk Tryz.func130 (by kernel_rfl) rfl (by kernel_rfl) (by kernel_rfl) ?_
  unfold s_HoldsCond at h
  simp only [fnS, f130, argSt, go_sem, qa, qb, qc, qd, qe, qf, qg, qh, qi, qj, qk, reduceCtorEq, reduceIte]
  obtain ⟨v1, e1, h⟩ := bind_K h
  refine call_K (by first | exact s_IsCond_ok e1 | simpa only [go_sem, qa, qb, qc, qd, qe, qf, qg, qh, qi, qj, qk, reduceCtorEq, reduceIte] using s_IsCond_ok e1) ?_
  try simp only [go_sem, qa, qb, qc, qd, qe, qf, qg, qh, qi, qj, qk, reduceCtorEq, reduceIte]
  refine ite_K h (fun c2 h => ?_) (fun c2 h => ?_)
  · try simp only [go_sem, qa, qb, qc, qd, qe, qf, qg, qh, qi, qj, qk, reduceCtorEq, reduceIte, c2]
    obtain ⟨v2, e3, h⟩ := bind_K h
    refine call_K (by first | exact s_IsBinding_ok e3 | simpa only [go_sem, qa, qb, qc, qd, qe, qf, qg, qh, qi, qj, qk, reduceCtorEq, reduceIte, c2] using s_IsBinding_ok e3) ?_
    try simp only [go_sem, qa, qb, qc, qd, qe, qf, qg, qh, qi, qj, qk, reduceCtorEq, reduceIte, c2]
    refine ite_K h (fun c4 h => ?_) (fun c4 h => ?_)
    · try simp only [go_sem, qa, qb, qc, qd, qe, qf, qg, qh, qi, qj, qk, reduceCtorEq, reduceIte, c2, c4]
      refine ite_K h (fun c5 h => ?_) (fun c5 h => ?_)
      · try simp only [go_sem, qa, qb, qc, qd, qe, qf, qg, qh, qi, qj, qk, reduceCtorEq, reduceIte, c2, c4, c5]
        obtain ⟨v3, e6, h⟩ := bind_K h
        refine call_K (by first | exact s_MatchingFacts_ok e6 | simpa only [go_sem, qa, qb, qc, qd, qe, qf, qg, qh, qi, qj, qk, reduceCtorEq, reduceIte, c2, c4, c5] using s_MatchingFacts_ok e6) ?_
        obtain rfl := Option.some.inj h
        try simp only [go_sem, qa, qb, qc, qd, qe, qf, qg, qh, qi, qj, qk, reduceCtorEq, reduceIte, c2, c4, c5]
      · try simp only [go_sem, qa, qb, qc, qd, qe, qf, qg, qh, qi, qj, qk, reduceCtorEq, reduceIte, c2, c4, c5]
        refine ite_K h (fun c7 h => ?_) (fun c7 h => ?_)
        · try simp only [go_sem, qa, qb, qc, qd, qe, qf, qg, qh, qi, qj, qk, reduceCtorEq, reduceIte, c2, c4, c5, c7]
          obtain ⟨v4, e8, h⟩ := bind_K h
          refine call_K (by first | exact s_MatchingFacts_ok e8 | simpa only [go_sem, qa, qb, qc, qd, qe, qf, qg, qh, qi, qj, qk, reduceCtorEq, reduceIte, c2, c4, c5, c7] using s_MatchingFacts_ok e8) ?_
          obtain rfl := Option.some.inj h
          try simp only [go_sem, qa, qb, qc, qd, qe, qf, qg, qh, qi, qj, qk, reduceCtorEq, reduceIte, c2, c4, c5, c7]
        · try simp only [go_sem, qa, qb, qc, qd, qe, qf, qg, qh, qi, qj, qk, reduceCtorEq, reduceIte, c2, c4, c5, c7]
          obtain ⟨v5, e9, h⟩ := bind_K h
          refine call_K (by first | exact s_HoldsTest_ok e9 | simpa only [go_sem, qa, qb, qc, qd, qe, qf, qg, qh, qi, qj, qk, reduceCtorEq, reduceIte, c2, c4, c5, c7] using s_HoldsTest_ok e9) ?_
          obtain rfl := Option.some.inj h
          try simp only [go_sem, qa, qb, qc, qd, qe, qf, qg, qh, qi, qj, qk, reduceCtorEq, reduceIte, c2, c4, c5, c7]
    · obtain rfl := Option.some.inj h
      try simp only [go_sem, qa, qb, qc, qd, qe, qf, qg, qh, qi, qj, qk, reduceCtorEq, reduceIte, c2, c4]
  · obtain rfl := Option.some.inj h
    try simp only [go_sem, qa, qb, qc, qd, qe, qf, qg, qh, qi, qj, qk, reduceCtorEq, reduceIte, c2]
theorem i_tokensOf_ok {append_0 : (List CondD)} {String_1 : (List FactD)} {r : (List TokenD)} (h : i_tokensOf append_0 String_1 = some r) : Sound Tryz.prog J0 42 [(false, [.sl 99 5 (List.map eCond append_0)]), (false, [.sl 57 2 (List.map eFact String_1)])] [(false, [(true, .sl 76 2 (List.map eToken r))])] := by
  refine fnk Tryz.func42 (by kernel_rfl) rfl (by kernel_rfl) (by kernel_rfl) ?_
  unfold i_tokensOf at h
  simp only [fnS, f42, argSt, go_sem, qa, qb, qc, qd, qe, qf, qg, qh, qi, qj, qk, reduceCtorEq, reduceIte]
  refine swp_for h (fun i row_151 st => IV [(1, .p false [.c (.sl 57 2 (List.map eFact String_1))]), (5, .p false [.row 0]), (17, .p false [.c (.sl 99 5 (List.map eCond append_0))]), (18, .p false [.c (.int .i64 ((append_0.length : Nat) : Int))]), (19, .p false [.c (.int .i64 ((i : Nat) : Int))])] [.row 76 2 (List.map eToken row_151) 1] st) [(true, 32, 1)] [32] (by decide) ?_ ?_ ?_
  · simp only [go_sem, qa, qb, qc, qd, qe, qf, qg, qh, qi, qj, qk, reduceCtorEq, reduceIte, IV, sts_cons, sts_nil, obs_cons, obs_nil]
  · rintro i246 x247 row_151 ⟨sl, ob, n⟩ y1 hx2 hI3 hW4 h hy1
    simp only [IV, sts_cons, sts_nil, obs_cons, obs_nil, and_true, true_and, Nat.reduceAdd, str_len] at hI3
    obtain ⟨⟨g5_1, g5_5, g5_17, g5_18, g5_19⟩, og5_0, hn⟩ := hI3
    subst hn
    have hlhx2 := WF.slotL hW4 g5_17 (j := 0) rfl
    try simp only [go_sem, qa, qb, qc, qd, qe, qf, qg, qh, qi, qj, qk, reduceCtorEq, reduceIte, hx2, lt_t hx2, lt_p hx2, nat_in (lt_n hx2) hlhx2, g5_1, g5_5, g5_17, g5_18, g5_19, og5_0]
    refine swp_for h (fun i row_303 st => IV [(1, .p false [.c (.sl 57 2 (List.map eFact String_1))]), (7, .bp 0 0), (8, .p false [.row 1]), (17, .p false [.c (.sl 99 5 (List.map eCond append_0))]), (18, .p false [.c (.int .i64 ((append_0.length : Nat) : Int))]), (19, .p false [.c (.int .i64 ((i246 : Nat) : Int))]), (23, .p false [.row 2]), (24, .p false [.c (.int .i64 ((row_151.length : Nat) : Int))]), (25, .p false [.c (.int .i64 ((i : Nat) : Int))])] [.box 99 [.c (.int .i64 x247.kind), .c (.str x247.pattern.rel), .c (.sl 9 1 (List.map eStr x247.pattern.args)), .c (.str x247.left), .c (.str x247.right)], .row 76 2 (List.map eToken row_303) 1, .row 76 2 (List.map eToken row_151) 1] st) [(false, 8, 0), (true, 145, 1)] [49, 145, 0] (by decide) ?_ ?_ ?_
    · simp only [go_sem, qa, qb, qc, qd, qe, qf, qg, qh, qi, qj, qk, reduceCtorEq, reduceIte, IV, sts_cons, sts_nil, obs_cons, obs_nil, hx2, lt_t hx2, lt_p hx2, nat_in (lt_n hx2) hlhx2, g5_1, g5_5, g5_17, g5_18, g5_19, og5_0]
    · rintro i322 x323 row_303 ⟨sl, ob, n⟩ y6 hx7 hI8 hW9 h hy6
      simp only [IV, sts_cons, sts_nil, obs_cons, obs_nil, and_true, true_and, Nat.reduceAdd, str_len] at hI8
      obtain ⟨⟨g10_1, g10_7, g10_8, g10_17, g10_18, g10_19, g10_23, g10_24, g10_25⟩, og10_0, og10_1, og10_2, hn⟩ := hI8
      subst hn
      have hlhx7 := WF.rowL hW9 og10_2
      try simp only [go_sem, qa, qb, qc, qd, qe, qf, qg, qh, qi, qj, qk, reduceCtorEq, reduceIte, hx2, lt_t hx2, lt_p hx2, nat_in (lt_n hx2) hlhx2, hx7, lt_t hx7, lt_p hx7, nat_in (lt_n hx7) hlhx7, g10_1, g10_7, g10_8, g10_17, g10_18, g10_19, g10_23, g10_24, g10_25, og10_0, og10_1, og10_2]
      refine ite_K h (fun c11 h => ?_) (fun c11 h => ?_)
      · try simp only [go_sem, qa, qb, qc, qd, qe, qf, qg, qh, qi, qj, qk, reduceCtorEq, reduceIte, hx2, lt_t hx2, lt_p hx2, nat_in (lt_n hx2) hlhx2, hx7, lt_t hx7, lt_p hx7, nat_in (lt_n hx7) hlhx7, c11, g10_1, g10_7, g10_8, g10_17, g10_18, g10_19, g10_23, g10_24, g10_25, og10_0, og10_1, og10_2]
        obtain ⟨v324, e12, h⟩ := bind_K h
        refine call_K (by first | exact i_HoldsCond_ok e12 | simpa only [go_sem, qa, qb, qc, qd, qe, qf, qg, qh, qi, qj, qk, reduceCtorEq, reduceIte, hx2, lt_t hx2, lt_p hx2, nat_in (lt_n hx2) hlhx2, hx7, lt_t hx7, lt_p hx7, nat_in (lt_n hx7) hlhx7, c11, g10_1, g10_7, g10_8, g10_17, g10_18, g10_19, g10_23, g10_24, g10_25, og10_0, og10_1, og10_2] using i_HoldsCond_ok e12) ?_
        try simp only [go_sem, qa, qb, qc, qd, qe, qf, qg, qh, qi, qj, qk, reduceCtorEq, reduceIte, hx2, lt_t hx2, lt_p hx2, nat_in (lt_n hx2) hlhx2, hx7, lt_t hx7, lt_p hx7, nat_in (lt_n hx7) hlhx7, c11, g10_1, g10_7, g10_8, g10_17, g10_18, g10_19, g10_23, g10_24, g10_25, og10_0, og10_1, og10_2]
        refine ite_K h (fun c13 h => ?_) (fun c13 h => ?_)
        · obtain ⟨p14, h⟩ := chk_K h
          try simp only [Nat.reduceLeDiff] at p14
          try simp only [go_sem, qa, qb, qc, qd, qe, qf, qg, qh, qi, qj, qk, reduceCtorEq, reduceIte, hx2, lt_t hx2, lt_p hx2, nat_in (lt_n hx2) hlhx2, hx7, lt_t hx7, lt_p hx7, nat_in (lt_n hx7) hlhx7, c11, c13, p14, g10_1, g10_7, g10_8, g10_17, g10_18, g10_19, g10_23, g10_24, g10_25, og10_0, og10_1, og10_2]
          refine ⟨_, [], [0, 259, 2], (Option.some.inj h).symm, by decide, ?_⟩
          try simp only [go_sem, qa, qb, qc, qd, qe, qf, qg, qh, qi, qj, qk, reduceCtorEq, reduceIte, hx2, lt_t hx2, lt_p hx2, nat_in (lt_n hx2) hlhx2, hx7, lt_t hx7, lt_p hx7, nat_in (lt_n hx7) hlhx7, c11, c13, p14, g10_1, g10_7, g10_8, g10_17, g10_18, g10_19, g10_23, g10_24, g10_25, og10_0, og10_1, og10_2, IV, sts_cons, sts_nil, obs_cons, obs_nil]
        · try simp only [go_sem, qa, qb, qc, qd, qe, qf, qg, qh, qi, qj, qk, reduceCtorEq, reduceIte, hx2, lt_t hx2, lt_p hx2, nat_in (lt_n hx2) hlhx2, hx7, lt_t hx7, lt_p hx7, nat_in (lt_n hx7) hlhx7, c11, c13, g10_1, g10_7, g10_8, g10_17, g10_18, g10_19, g10_23, g10_24, g10_25, og10_0, og10_1, og10_2]
          refine ⟨_, [], [0, 1, 2], (Option.some.inj h).symm, by decide, ?_⟩
          try simp only [go_sem, qa, qb, qc, qd, qe, qf, qg, qh, qi, qj, qk, reduceCtorEq, reduceIte, hx2, lt_t hx2, lt_p hx2, nat_in (lt_n hx2) hlhx2, hx7, lt_t hx7, lt_p hx7, nat_in (lt_n hx7) hlhx7, c11, c13, g10_1, g10_7, g10_8, g10_17, g10_18, g10_19, g10_23, g10_24, g10_25, og10_0, og10_1, og10_2, IV, sts_cons, sts_nil, obs_cons, obs_nil]
      · try simp only [go_sem, qa, qb, qc, qd, qe, qf, qg, qh, qi, qj, qk, reduceCtorEq, reduceIte, hx2, lt_t hx2, lt_p hx2, nat_in (lt_n hx2) hlhx2, hx7, lt_t hx7, lt_p hx7, nat_in (lt_n hx7) hlhx7, c11, g10_1, g10_7, g10_8, g10_17, g10_18, g10_19, g10_23, g10_24, g10_25, og10_0, og10_1, og10_2]
        refine swp_for h (fun i row_329 st => IV [(1, .p false [.c (.sl 57 2 (List.map eFact String_1))]), (7, .bp 0 0), (8, .p false [.row 1]), (10, .bp 2 0), (17, .p false [.c (.sl 99 5 (List.map eCond append_0))]), (18, .p false [.c (.int .i64 ((append_0.length : Nat) : Int))]), (19, .p false [.c (.int .i64 ((i246 : Nat) : Int))]), (23, .p false [.row 3]), (24, .p false [.c (.int .i64 ((row_151.length : Nat) : Int))]), (25, .p false [.c (.int .i64 ((i322 : Nat) : Int))]), (41, .p false [.c (.sl 57 2 (List.map eFact String_1))]), (42, .p false [.c (.int .i64 ((String_1.length : Nat) : Int))]), (43, .p false [.c (.int .i64 ((i : Nat) : Int))])] [.box 99 [.c (.int .i64 x247.kind), .c (.str x247.pattern.rel), .c (.sl 9 1 (List.map eStr x247.pattern.args)), .c (.str x247.left), .c (.str x247.right)], .row 76 2 (List.map eToken row_329) 1, .box 76 [.c (.sl 57 2 (List.map eFact x323.facts)), .c (.sl 119 2 (List.map ePair x323.binding))], .row 76 2 (List.map eToken row_151) 1] st) [] [0, 1, 51, 2] (by decide) ?_ ?_ ?_
        · simp only [go_sem, qa, qb, qc, qd, qe, qf, qg, qh, qi, qj, qk, reduceCtorEq, reduceIte, IV, sts_cons, sts_nil, obs_cons, obs_nil, hx2, lt_t hx2, lt_p hx2, nat_in (lt_n hx2) hlhx2, hx7, lt_t hx7, lt_p hx7, nat_in (lt_n hx7) hlhx7, c11, g10_1, g10_7, g10_8, g10_17, g10_18, g10_19, g10_23, g10_24, g10_25, og10_0, og10_1, og10_2]
        · rintro i335 x336 row_329 ⟨sl, ob, n⟩ y15 hx16 hI17 hW18 h hy15
          simp only [IV, sts_cons, sts_nil, obs_cons, obs_nil, and_true, true_and, Nat.reduceAdd, str_len] at hI17
          obtain ⟨⟨g19_1, g19_7, g19_8, g19_10, g19_17, g19_18, g19_19, g19_23, g19_24, g19_25, g19_41, g19_42, g19_43⟩, og19_0, og19_1, og19_2, og19_3, hn⟩ := hI17
          subst hn
          have hlhx16 := WF.slotL hW18 g19_1 (j := 0) rfl
          try simp only [go_sem, qa, qb, qc, qd, qe, qf, qg, qh, qi, qj, qk, reduceCtorEq, reduceIte, hx2, lt_t hx2, lt_p hx2, nat_in (lt_n hx2) hlhx2, hx7, lt_t hx7, lt_p hx7, nat_in (lt_n hx7) hlhx7, c11, hx16, lt_t hx16, lt_p hx16, nat_in (lt_n hx16) hlhx16, g19_1, g19_7, g19_8, g19_10, g19_17, g19_18, g19_19, g19_23, g19_24, g19_25, g19_41, g19_42, g19_43, og19_0, og19_1, og19_2, og19_3]
          obtain ⟨v337, e20, h⟩ := bind_K h
          refine call_K (by first | exact i_MatchFact_ok e20 | simpa only [go_sem, qa, qb, qc, qd, qe, qf, qg, qh, qi, qj, qk, reduceCtorEq, reduceIte, hx2, lt_t hx2, lt_p hx2, nat_in (lt_n hx2) hlhx2, hx7, lt_t hx7, lt_p hx7, nat_in (lt_n hx7) hlhx7, c11, hx16, lt_t hx16, lt_p hx16, nat_in (lt_n hx16) hlhx16, g19_1, g19_7, g19_8, g19_10, g19_17, g19_18, g19_19, g19_23, g19_24, g19_25, g19_41, g19_42, g19_43, og19_0, og19_1, og19_2, og19_3] using i_MatchFact_ok e20) ?_
          try simp only [go_sem, qa, qb, qc, qd, qe, qf, qg, qh, qi, qj, qk, reduceCtorEq, reduceIte, hx2, lt_t hx2, lt_p hx2, nat_in (lt_n hx2) hlhx2, hx7, lt_t hx7, lt_p hx7, nat_in (lt_n hx7) hlhx7, c11, hx16, lt_t hx16, lt_p hx16, nat_in (lt_n hx16) hlhx16, g19_1, g19_7, g19_8, g19_10, g19_17, g19_18, g19_19, g19_23, g19_24, g19_25, g19_41, g19_42, g19_43, og19_0, og19_1, og19_2, og19_3]
          refine ite_K h (fun c21 h => ?_) (fun c21 h => ?_)
          · try simp only [go_sem, qa, qb, qc, qd, qe, qf, qg, qh, qi, qj, qk, reduceCtorEq, reduceIte, hx2, lt_t hx2, lt_p hx2, nat_in (lt_n hx2) hlhx2, hx7, lt_t hx7, lt_p hx7, nat_in (lt_n hx7) hlhx7, c11, hx16, lt_t hx16, lt_p hx16, nat_in (lt_n hx16) hlhx16, c21, g19_1, g19_7, g19_8, g19_10, g19_17, g19_18, g19_19, g19_23, g19_24, g19_25, g19_41, g19_42, g19_43, og19_0, og19_1, og19_2, og19_3]
            obtain ⟨v338, e22, h⟩ := bind_K h
            refine call_K (by first | exact i_copyFacts_ok e22 | simpa only [go_sem, qa, qb, qc, qd, qe, qf, qg, qh, qi, qj, qk, reduceCtorEq, reduceIte, hx2, lt_t hx2, lt_p hx2, nat_in (lt_n hx2) hlhx2, hx7, lt_t hx7, lt_p hx7, nat_in (lt_n hx7) hlhx7, c11, hx16, lt_t hx16, lt_p hx16, nat_in (lt_n hx16) hlhx16, c21, g19_1, g19_7, g19_8, g19_10, g19_17, g19_18, g19_19, g19_23, g19_24, g19_25, g19_41, g19_42, g19_43, og19_0, og19_1, og19_2, og19_3] using i_copyFacts_ok e22) ?_
            try simp only [go_sem, qa, qb, qc, qd, qe, qf, qg, qh, qi, qj, qk, reduceCtorEq, reduceIte, hx2, lt_t hx2, lt_p hx2, nat_in (lt_n hx2) hlhx2, hx7, lt_t hx7, lt_p hx7, nat_in (lt_n hx7) hlhx7, c11, hx16, lt_t hx16, lt_p hx16, nat_in (lt_n hx16) hlhx16, c21, g19_1, g19_7, g19_8, g19_10, g19_17, g19_18, g19_19, g19_23, g19_24, g19_25, g19_41, g19_42, g19_43, og19_0, og19_1, og19_2, og19_3]
            obtain ⟨v339, e23, h⟩ := bind_K h
            refine call_K (by first | exact i_copyFact_ok e23 | simpa only [go_sem, qa, qb, qc, qd, qe, qf, qg, qh, qi, qj, qk, reduceCtorEq, reduceIte, hx2, lt_t hx2, lt_p hx2, nat_in (lt_n hx2) hlhx2, hx7, lt_t hx7, lt_p hx7, nat_in (lt_n hx7) hlhx7, c11, hx16, lt_t hx16, lt_p hx16, nat_in (lt_n hx16) hlhx16, c21, g19_1, g19_7, g19_8, g19_10, g19_17, g19_18, g19_19, g19_23, g19_24, g19_25, g19_41, g19_42, g19_43, og19_0, og19_1, og19_2, og19_3] using i_copyFact_ok e23) ?_
            obtain ⟨p24, h⟩ := chk_K h
            try simp only [Nat.reduceLeDiff] at p24
            obtain ⟨p25, h⟩ := chk_K h
            try simp only [Nat.reduceLeDiff] at p25
            try simp only [go_sem, qa, qb, qc, qd, qe, qf, qg, qh, qi, qj, qk, reduceCtorEq, reduceIte, hx2, lt_t hx2, lt_p hx2, nat_in (lt_n hx2) hlhx2, hx7, lt_t hx7, lt_p hx7, nat_in (lt_n hx7) hlhx7, c11, hx16, lt_t hx16, lt_p hx16, nat_in (lt_n hx16) hlhx16, c21, p24, p25, g19_1, g19_7, g19_8, g19_10, g19_17, g19_18, g19_19, g19_23, g19_24, g19_25, g19_41, g19_42, g19_43, og19_0, og19_1, og19_2, og19_3]
            refine ⟨_, [], [0, 452, 2, 3], (Option.some.inj h).symm, by decide, ?_⟩
            try simp only [go_sem, qa, qb, qc, qd, qe, qf, qg, qh, qi, qj, qk, reduceCtorEq, reduceIte, hx2, lt_t hx2, lt_p hx2, nat_in (lt_n hx2) hlhx2, hx7, lt_t hx7, lt_p hx7, nat_in (lt_n hx7) hlhx7, c11, hx16, lt_t hx16, lt_p hx16, nat_in (lt_n hx16) hlhx16, c21, p24, p25, g19_1, g19_7, g19_8, g19_10, g19_17, g19_18, g19_19, g19_23, g19_24, g19_25, g19_41, g19_42, g19_43, og19_0, og19_1, og19_2, og19_3, IV, sts_cons, sts_nil, obs_cons, obs_nil]
          · try simp only [go_sem, qa, qb, qc, qd, qe, qf, qg, qh, qi, qj, qk, reduceCtorEq, reduceIte, hx2, lt_t hx2, lt_p hx2, nat_in (lt_n hx2) hlhx2, hx7, lt_t hx7, lt_p hx7, nat_in (lt_n hx7) hlhx7, c11, hx16, lt_t hx16, lt_p hx16, nat_in (lt_n hx16) hlhx16, c21, g19_1, g19_7, g19_8, g19_10, g19_17, g19_18, g19_19, g19_23, g19_24, g19_25, g19_41, g19_42, g19_43, og19_0, og19_1, og19_2, og19_3]
            refine ⟨_, [], [0, 1, 2, 3], (Option.some.inj h).symm, by decide, ?_⟩
            try simp only [go_sem, qa, qb, qc, qd, qe, qf, qg, qh, qi, qj, qk, reduceCtorEq, reduceIte, hx2, lt_t hx2, lt_p hx2, nat_in (lt_n hx2) hlhx2, hx7, lt_t hx7, lt_p hx7, nat_in (lt_n hx7) hlhx7, c11, hx16, lt_t hx16, lt_p hx16, nat_in (lt_n hx16) hlhx16, c21, g19_1, g19_7, g19_8, g19_10, g19_17, g19_18, g19_19, g19_23, g19_24, g19_25, g19_41, g19_42, g19_43, og19_0, og19_1, og19_2, og19_3, IV, sts_cons, sts_nil, obs_cons, obs_nil]
        · rintro row_329 ⟨sl, ob, n⟩ hI26 hW27 h
          simp only [IV, sts_cons, sts_nil, obs_cons, obs_nil, and_true, true_and, Nat.reduceAdd, str_len] at hI26
          obtain ⟨⟨g28_1, g28_7, g28_8, g28_10, g28_17, g28_18, g28_19, g28_23, g28_24, g28_25, g28_41, g28_42, g28_43⟩, og28_0, og28_1, og28_2, og28_3, hn⟩ := hI26
          subst hn
          try simp only [go_sem, qa, qb, qc, qd, qe, qf, qg, qh, qi, qj, qk, reduceCtorEq, reduceIte, hx2, lt_t hx2, lt_p hx2, nat_in (lt_n hx2) hlhx2, hx7, lt_t hx7, lt_p hx7, nat_in (lt_n hx7) hlhx7, c11, lt_f (String_1.length), g28_1, g28_7, g28_8, g28_10, g28_17, g28_18, g28_19, g28_23, g28_24, g28_25, g28_41, g28_42, g28_43, og28_0, og28_1, og28_2, og28_3]
          refine ⟨_, [], [0, 1, 3], (Option.some.inj h).symm, by decide, ?_⟩
          try simp only [go_sem, qa, qb, qc, qd, qe, qf, qg, qh, qi, qj, qk, reduceCtorEq, reduceIte, hx2, lt_t hx2, lt_p hx2, nat_in (lt_n hx2) hlhx2, hx7, lt_t hx7, lt_p hx7, nat_in (lt_n hx7) hlhx7, c11, lt_f (String_1.length), g28_1, g28_7, g28_8, g28_10, g28_17, g28_18, g28_19, g28_23, g28_24, g28_25, g28_41, g28_42, g28_43, og28_0, og28_1, og28_2, og28_3, IV, sts_cons, sts_nil, obs_cons, obs_nil]
    · rintro row_303 ⟨sl, ob, n⟩ hI29 hW30 h
      simp only [IV, sts_cons, sts_nil, obs_cons, obs_nil, and_true, true_and, Nat.reduceAdd, str_len] at hI29
      obtain ⟨⟨g31_1, g31_7, g31_8, g31_17, g31_18, g31_19, g31_23, g31_24, g31_25⟩, og31_0, og31_1, og31_2, hn⟩ := hI29
      subst hn
      try simp only [go_sem, qa, qb, qc, qd, qe, qf, qg, qh, qi, qj, qk, reduceCtorEq, reduceIte, hx2, lt_t hx2, lt_p hx2, nat_in (lt_n hx2) hlhx2, lt_f (row_151.length), g31_1, g31_7, g31_8, g31_17, g31_18, g31_19, g31_23, g31_24, g31_25, og31_0, og31_1, og31_2]
      refine ⟨_, [], [1], (Option.some.inj h).symm, by decide, ?_⟩
      try simp only [go_sem, qa, qb, qc, qd, qe, qf, qg, qh, qi, qj, qk, reduceCtorEq, reduceIte, hx2, lt_t hx2, lt_p hx2, nat_in (lt_n hx2) hlhx2, lt_f (row_151.length), g31_1, g31_7, g31_8, g31_17, g31_18, g31_19, g31_23, g31_24, g31_25, og31_0, og31_1, og31_2, IV, sts_cons, sts_nil, obs_cons, obs_nil]
  · rintro row_151 ⟨sl, ob, n⟩ hI32 hW33 h
    simp only [IV, sts_cons, sts_nil, obs_cons, obs_nil, and_true, true_and, Nat.reduceAdd, str_len] at hI32
    obtain ⟨⟨g34_1, g34_5, g34_17, g34_18, g34_19⟩, og34_0, hn⟩ := hI32
    subst hn
    obtain rfl := Option.some.inj h
    try simp only [go_sem, qa, qb, qc, qd, qe, qf, qg, qh, qi, qj, qk, reduceCtorEq, reduceIte, lt_f (append_0.length), g34_1, g34_5, g34_17, g34_18, g34_19, og34_0]
end Go.Proofs.YtlkgkkacnoaeaaaGreatDoor

namespace Go.Proofs.YtlkgkkacnoaeaaaGreatDoor
open Go.Proofs.Tryz
open Int renaming reduceLT → qa, reduceLE → qb, reduceBEq → qc, reduceBNe → qd
open Nat renaming reduceBNe → qe, reduceAdd → qf, reduceMul → qg, reduceEqDiff → qh, reduceLeDiff → qi, reduceLT → qj, reduceBEq → qk
set_option linter.unusedSimpArgs false
set_option linter.unusedVariables false
set_option maxRecDepth 1000000
set_option maxHeartbeats 4000000
theorem s_l6Next_ok {append_0 : (List TokenD)} {String_1 : CondD} {a_2 : (List FactD)} {r : (List TokenD)} (h : s_l6Next append_0 String_1 a_2 = some r) : Sound Tryz.prog J0 79 [(false, [.sl 76 2 (List.map eToken append_0)]), (true, eCond String_1), (false, [.sl 57 2 (List.map eFact a_2)])] [(false, [(false, .sl 76 2 (List.map eToken r))])] := by
  refine fnk Tryz.func79 (by kernel_rfl) rfl (by kernel_rfl) (by kernel_rfl) ?_
  unfold s_l6Next at h
  simp only [fnS, f79, argSt, go_sem, qa, qb, qc, qd, qe, qf, qg, qh, qi, qj, qk, reduceCtorEq, reduceIte]
  refine swp_for h (fun i row_22 st => IV [(0, .p false [.c (.sl 76 2 (List.map eToken append_0))]), (2, .p false [.c (.sl 57 2 (List.map eFact a_2))]), (4, .bp 0 0), (7, .p false [.row 1]), (8, .p false [.c (.int .i64 ((i : Nat) : Int))])] [.box 99 [.c (.int .i64 String_1.kind), .c (.str String_1.pattern.rel), .c (.sl 9 1 (List.map eStr String_1.pattern.args)), .c (.str String_1.left), .c (.str String_1.right)], .row 76 2 (List.map eToken row_22) 2] st) [] [0, 32] (by decide) ?_ ?_ ?_
  · simp only [go_sem, qa, qb, qc, qd, qe, qf, qg, qh, qi, qj, qk, reduceCtorEq, reduceIte, IV, sts_cons, sts_nil, obs_cons, obs_nil]
  · rintro i45 x46 row_22 ⟨sl, ob, n⟩ y1 hx2 hI3 hW4 h hy1
    simp only [IV, sts_cons, sts_nil, obs_cons, obs_nil, and_true, true_and, Nat.reduceAdd, str_len] at hI3
    obtain ⟨⟨g5_0, g5_2, g5_4, g5_7, g5_8⟩, og5_0, og5_1, hn⟩ := hI3
    subst hn
    have hlhx2 := WF.slotL hW4 g5_0 (j := 0) rfl
    try simp only [go_sem, qa, qb, qc, qd, qe, qf, qg, qh, qi, qj, qk, reduceCtorEq, reduceIte, hx2, lt_t hx2, lt_p hx2, nat_in (lt_n hx2) hlhx2, g5_0, g5_2, g5_4, g5_7, g5_8, og5_0, og5_1]
    refine ite_K h (fun c6 h => ?_) (fun c6 h => ?_)
    · try simp only [go_sem, qa, qb, qc, qd, qe, qf, qg, qh, qi, qj, qk, reduceCtorEq, reduceIte, hx2, lt_t hx2, lt_p hx2, nat_in (lt_n hx2) hlhx2, c6, g5_0, g5_2, g5_4, g5_7, g5_8, og5_0, og5_1]
      obtain ⟨v47, e7, h⟩ := bind_K h
      refine call_K (by first | exact s_HoldsCond_ok e7 | simpa only [go_sem, qa, qb, qc, qd, qe, qf, qg, qh, qi, qj, qk, reduceCtorEq, reduceIte, hx2, lt_t hx2, lt_p hx2, nat_in (lt_n hx2) hlhx2, c6, g5_0, g5_2, g5_4, g5_7, g5_8, og5_0, og5_1] using s_HoldsCond_ok e7) ?_
      try simp only [go_sem, qa, qb, qc, qd, qe, qf, qg, qh, qi, qj, qk, reduceCtorEq, reduceIte, hx2, lt_t hx2, lt_p hx2, nat_in (lt_n hx2) hlhx2, c6, g5_0, g5_2, g5_4, g5_7, g5_8, og5_0, og5_1]
      refine ite_K h (fun c8 h => ?_) (fun c8 h => ?_)
      · try simp only [go_sem, qa, qb, qc, qd, qe, qf, qg, qh, qi, qj, qk, reduceCtorEq, reduceIte, hx2, lt_t hx2, lt_p hx2, nat_in (lt_n hx2) hlhx2, c6, c8, g5_0, g5_2, g5_4, g5_7, g5_8, og5_0, og5_1]
        obtain ⟨v48, e9, h⟩ := bind_K h
        refine call_K (by first | exact s_l6Copy_ok e9 | simpa only [go_sem, qa, qb, qc, qd, qe, qf, qg, qh, qi, qj, qk, reduceCtorEq, reduceIte, hx2, lt_t hx2, lt_p hx2, nat_in (lt_n hx2) hlhx2, c6, c8, g5_0, g5_2, g5_4, g5_7, g5_8, og5_0, og5_1] using s_l6Copy_ok e9) ?_
        obtain ⟨p10, h⟩ := chk_K h
        try simp only [Nat.reduceLeDiff] at p10
        try simp only [go_sem, qa, qb, qc, qd, qe, qf, qg, qh, qi, qj, qk, reduceCtorEq, reduceIte, hx2, lt_t hx2, lt_p hx2, nat_in (lt_n hx2) hlhx2, c6, c8, p10, g5_0, g5_2, g5_4, g5_7, g5_8, og5_0, og5_1]
        refine ⟨_, [], [0, 354], (Option.some.inj h).symm, by decide, ?_⟩
        try simp only [go_sem, qa, qb, qc, qd, qe, qf, qg, qh, qi, qj, qk, reduceCtorEq, reduceIte, hx2, lt_t hx2, lt_p hx2, nat_in (lt_n hx2) hlhx2, c6, c8, p10, g5_0, g5_2, g5_4, g5_7, g5_8, og5_0, og5_1, IV, sts_cons, sts_nil, obs_cons, obs_nil]
      · try simp only [go_sem, qa, qb, qc, qd, qe, qf, qg, qh, qi, qj, qk, reduceCtorEq, reduceIte, hx2, lt_t hx2, lt_p hx2, nat_in (lt_n hx2) hlhx2, c6, c8, g5_0, g5_2, g5_4, g5_7, g5_8, og5_0, og5_1]
        refine ⟨_, [], [0, 1], (Option.some.inj h).symm, by decide, ?_⟩
        try simp only [go_sem, qa, qb, qc, qd, qe, qf, qg, qh, qi, qj, qk, reduceCtorEq, reduceIte, hx2, lt_t hx2, lt_p hx2, nat_in (lt_n hx2) hlhx2, c6, c8, g5_0, g5_2, g5_4, g5_7, g5_8, og5_0, og5_1, IV, sts_cons, sts_nil, obs_cons, obs_nil]
    · try simp only [go_sem, qa, qb, qc, qd, qe, qf, qg, qh, qi, qj, qk, reduceCtorEq, reduceIte, hx2, lt_t hx2, lt_p hx2, nat_in (lt_n hx2) hlhx2, c6, g5_0, g5_2, g5_4, g5_7, g5_8, og5_0, og5_1]
      refine swp_for h (fun i row_53 st => IV [(0, .p false [.c (.sl 76 2 (List.map eToken append_0))]), (2, .p false [.c (.sl 57 2 (List.map eFact a_2))]), (4, .bp 0 0), (7, .p false [.row 1]), (8, .p false [.c (.int .i64 ((i45 : Nat) : Int))]), (9, .p false [.c (.int .i64 ((i : Nat) : Int))])] [.box 99 [.c (.int .i64 String_1.kind), .c (.str String_1.pattern.rel), .c (.sl 9 1 (List.map eStr String_1.pattern.args)), .c (.str String_1.left), .c (.str String_1.right)], .row 76 2 (List.map eToken row_53) 2] st) [] [0, 1] (by decide) ?_ ?_ ?_
      · simp only [go_sem, qa, qb, qc, qd, qe, qf, qg, qh, qi, qj, qk, reduceCtorEq, reduceIte, IV, sts_cons, sts_nil, obs_cons, obs_nil, hx2, lt_t hx2, lt_p hx2, nat_in (lt_n hx2) hlhx2, c6, g5_0, g5_2, g5_4, g5_7, g5_8, og5_0, og5_1]
      · rintro i59 x60 row_53 ⟨sl, ob, n⟩ y11 hx12 hI13 hW14 h hy11
        simp only [IV, sts_cons, sts_nil, obs_cons, obs_nil, and_true, true_and, Nat.reduceAdd, str_len] at hI13
        obtain ⟨⟨g15_0, g15_2, g15_4, g15_7, g15_8, g15_9⟩, og15_0, og15_1, hn⟩ := hI13
        subst hn
        have hlhx12 := WF.slotL hW14 g15_2 (j := 0) rfl
        try simp only [go_sem, qa, qb, qc, qd, qe, qf, qg, qh, qi, qj, qk, reduceCtorEq, reduceIte, hx2, lt_t hx2, lt_p hx2, nat_in (lt_n hx2) hlhx2, c6, hx12, lt_t hx12, lt_p hx12, nat_in (lt_n hx12) hlhx12, g15_0, g15_2, g15_4, g15_7, g15_8, g15_9, og15_0, og15_1]
        obtain ⟨v61, e16, h⟩ := bind_K h
        refine call_K (by first | exact s_MatchFact_ok e16 | simpa only [go_sem, qa, qb, qc, qd, qe, qf, qg, qh, qi, qj, qk, reduceCtorEq, reduceIte, hx2, lt_t hx2, lt_p hx2, nat_in (lt_n hx2) hlhx2, c6, hx12, lt_t hx12, lt_p hx12, nat_in (lt_n hx12) hlhx12, g15_0, g15_2, g15_4, g15_7, g15_8, g15_9, og15_0, og15_1] using s_MatchFact_ok e16) ?_
        try simp only [go_sem, qa, qb, qc, qd, qe, qf, qg, qh, qi, qj, qk, reduceCtorEq, reduceIte, hx2, lt_t hx2, lt_p hx2, nat_in (lt_n hx2) hlhx2, c6, hx12, lt_t hx12, lt_p hx12, nat_in (lt_n hx12) hlhx12, g15_0, g15_2, g15_4, g15_7, g15_8, g15_9, og15_0, og15_1]
        refine ite_K h (fun c17 h => ?_) (fun c17 h => ?_)
        · try simp only [go_sem, qa, qb, qc, qd, qe, qf, qg, qh, qi, qj, qk, reduceCtorEq, reduceIte, hx2, lt_t hx2, lt_p hx2, nat_in (lt_n hx2) hlhx2, c6, hx12, lt_t hx12, lt_p hx12, nat_in (lt_n hx12) hlhx12, c17, g15_0, g15_2, g15_4, g15_7, g15_8, g15_9, og15_0, og15_1]
          obtain ⟨v62, e18, h⟩ := bind_K h
          refine call_K (by first | exact s_l2Copies_ok e18 | simpa only [go_sem, qa, qb, qc, qd, qe, qf, qg, qh, qi, qj, qk, reduceCtorEq, reduceIte, hx2, lt_t hx2, lt_p hx2, nat_in (lt_n hx2) hlhx2, c6, hx12, lt_t hx12, lt_p hx12, nat_in (lt_n hx12) hlhx12, c17, g15_0, g15_2, g15_4, g15_7, g15_8, g15_9, og15_0, og15_1] using s_l2Copies_ok e18) ?_
          try simp only [go_sem, qa, qb, qc, qd, qe, qf, qg, qh, qi, qj, qk, reduceCtorEq, reduceIte, hx2, lt_t hx2, lt_p hx2, nat_in (lt_n hx2) hlhx2, c6, hx12, lt_t hx12, lt_p hx12, nat_in (lt_n hx12) hlhx12, c17, g15_0, g15_2, g15_4, g15_7, g15_8, g15_9, og15_0, og15_1]
          obtain ⟨v63, e19, h⟩ := bind_K h
          refine call_K (by first | exact s_l2Copy_ok e19 | simpa only [go_sem, qa, qb, qc, qd, qe, qf, qg, qh, qi, qj, qk, reduceCtorEq, reduceIte, hx2, lt_t hx2, lt_p hx2, nat_in (lt_n hx2) hlhx2, c6, hx12, lt_t hx12, lt_p hx12, nat_in (lt_n hx12) hlhx12, c17, g15_0, g15_2, g15_4, g15_7, g15_8, g15_9, og15_0, og15_1] using s_l2Copy_ok e19) ?_
          obtain ⟨p20, h⟩ := chk_K h
          try simp only [Nat.reduceLeDiff] at p20
          obtain ⟨p21, h⟩ := chk_K h
          try simp only [Nat.reduceLeDiff] at p21
          try simp only [go_sem, qa, qb, qc, qd, qe, qf, qg, qh, qi, qj, qk, reduceCtorEq, reduceIte, hx2, lt_t hx2, lt_p hx2, nat_in (lt_n hx2) hlhx2, c6, hx12, lt_t hx12, lt_p hx12, nat_in (lt_n hx12) hlhx12, c17, p20, p21, g15_0, g15_2, g15_4, g15_7, g15_8, g15_9, og15_0, og15_1]
          refine ⟨_, [], [0, 626], (Option.some.inj h).symm, by decide, ?_⟩
          try simp only [go_sem, qa, qb, qc, qd, qe, qf, qg, qh, qi, qj, qk, reduceCtorEq, reduceIte, hx2, lt_t hx2, lt_p hx2, nat_in (lt_n hx2) hlhx2, c6, hx12, lt_t hx12, lt_p hx12, nat_in (lt_n hx12) hlhx12, c17, p20, p21, g15_0, g15_2, g15_4, g15_7, g15_8, g15_9, og15_0, og15_1, IV, sts_cons, sts_nil, obs_cons, obs_nil]
        · try simp only [go_sem, qa, qb, qc, qd, qe, qf, qg, qh, qi, qj, qk, reduceCtorEq, reduceIte, hx2, lt_t hx2, lt_p hx2, nat_in (lt_n hx2) hlhx2, c6, hx12, lt_t hx12, lt_p hx12, nat_in (lt_n hx12) hlhx12, c17, g15_0, g15_2, g15_4, g15_7, g15_8, g15_9, og15_0, og15_1]
          refine ⟨_, [], [0, 1], (Option.some.inj h).symm, by decide, ?_⟩
          try simp only [go_sem, qa, qb, qc, qd, qe, qf, qg, qh, qi, qj, qk, reduceCtorEq, reduceIte, hx2, lt_t hx2, lt_p hx2, nat_in (lt_n hx2) hlhx2, c6, hx12, lt_t hx12, lt_p hx12, nat_in (lt_n hx12) hlhx12, c17, g15_0, g15_2, g15_4, g15_7, g15_8, g15_9, og15_0, og15_1, IV, sts_cons, sts_nil, obs_cons, obs_nil]
      · rintro row_53 ⟨sl, ob, n⟩ hI22 hW23 h
        simp only [IV, sts_cons, sts_nil, obs_cons, obs_nil, and_true, true_and, Nat.reduceAdd, str_len] at hI22
        obtain ⟨⟨g24_0, g24_2, g24_4, g24_7, g24_8, g24_9⟩, og24_0, og24_1, hn⟩ := hI22
        subst hn
        try simp only [go_sem, qa, qb, qc, qd, qe, qf, qg, qh, qi, qj, qk, reduceCtorEq, reduceIte, hx2, lt_t hx2, lt_p hx2, nat_in (lt_n hx2) hlhx2, c6, lt_f (a_2.length), g24_0, g24_2, g24_4, g24_7, g24_8, g24_9, og24_0, og24_1]
        refine ⟨_, [], [0, 1], (Option.some.inj h).symm, by decide, ?_⟩
        try simp only [go_sem, qa, qb, qc, qd, qe, qf, qg, qh, qi, qj, qk, reduceCtorEq, reduceIte, hx2, lt_t hx2, lt_p hx2, nat_in (lt_n hx2) hlhx2, c6, lt_f (a_2.length), g24_0, g24_2, g24_4, g24_7, g24_8, g24_9, og24_0, og24_1, IV, sts_cons, sts_nil, obs_cons, obs_nil]
  · rintro row_22 ⟨sl, ob, n⟩ hI25 hW26 h
    simp only [IV, sts_cons, sts_nil, obs_cons, obs_nil, and_true, true_and, Nat.reduceAdd, str_len] at hI25
    obtain ⟨⟨g27_0, g27_2, g27_4, g27_7, g27_8⟩, og27_0, og27_1, hn⟩ := hI25
    subst hn
    obtain rfl := Option.some.inj h
    try simp only [go_sem, qa, qb, qc, qd, qe, qf, qg, qh, qi, qj, qk, reduceCtorEq, reduceIte, lt_f (append_0.length), g27_0, g27_2, g27_4, g27_7, g27_8, og27_0, og27_1]
theorem i_matchesOf_ok {r_0 : RuleD} {facts_1 : (List FactD)} {r : (List MatchD)} (h : i_matchesOf r_0 facts_1 = some r) : Sound Tryz.prog J0 30 [(true, eRule r_0), (false, [.sl 57 2 (List.map eFact facts_1)])] [(false, [(true, .sl 56 3 (List.map eMatch r))])] := by
  refine fnk Tryz.func30 (by kernel_rfl) rfl (by kernel_rfl) (by kernel_rfl) ?_
  unfold i_matchesOf at h
  simp only [fnS, f30, argSt, go_sem, qa, qb, qc, qd, qe, qf, qg, qh, qi, qj, qk, reduceCtorEq, reduceIte]
  obtain ⟨v1, e1, h⟩ := bind_K h
  refine frz_K (by first | exact i_tokensOf_ok e1 | simpa only [go_sem, qa, qb, qc, qd, qe, qf, qg, qh, qi, qj, qk, reduceCtorEq, reduceIte] using i_tokensOf_ok e1) ?_
  try simp only [go_sem, qa, qb, qc, qd, qe, qf, qg, qh, qi, qj, qk, reduceCtorEq, reduceIte]
  refine swp_for h (fun i row_5 st => IV [(2, .bp 0 0), (5, .p false [.row 1]), (11, .p false [.c (.sl 76 2 (List.map eToken v1))]), (12, .p false [.c (.int .i64 ((v1.length : Nat) : Int))]), (13, .p false [.c (.int .i64 ((i : Nat) : Int))])] [.box 52 [.c (.str r_0.name), .c (.int .i64 r_0.priority), .c (.sl 99 5 (List.map eCond r_0.cond)), .c (.sl 62 3 (List.map eAction r_0.thn))], .row 56 3 (List.map eMatch row_5) 1] st) [(false, 5, 0), (true, 144, 1)] [0, 144] (by decide) ?_ ?_ ?_
  · simp only [go_sem, qa, qb, qc, qd, qe, qf, qg, qh, qi, qj, qk, reduceCtorEq, reduceIte, IV, sts_cons, sts_nil, obs_cons, obs_nil]
  · rintro i8 x9 row_5 ⟨sl, ob, n⟩ y2 hx3 hI4 hW5 h hy2
    simp only [IV, sts_cons, sts_nil, obs_cons, obs_nil, and_true, true_and, Nat.reduceAdd, str_len] at hI4
    obtain ⟨⟨g6_2, g6_5, g6_11, g6_12, g6_13⟩, og6_0, og6_1, hn⟩ := hI4
    subst hn
    have hlhx3 := WF.slotL hW5 g6_11 (j := 0) rfl
    obtain ⟨p7, h⟩ := chk_K h
    try simp only [Nat.reduceLeDiff] at p7
    try simp only [go_sem, qa, qb, qc, qd, qe, qf, qg, qh, qi, qj, qk, reduceCtorEq, reduceIte, hx3, lt_t hx3, lt_p hx3, nat_in (lt_n hx3) hlhx3, p7, g6_2, g6_5, g6_11, g6_12, g6_13, og6_0, og6_1]
    refine ⟨_, [], [0, 226], (Option.some.inj h).symm, by decide, ?_⟩
    try simp only [go_sem, qa, qb, qc, qd, qe, qf, qg, qh, qi, qj, qk, reduceCtorEq, reduceIte, hx3, lt_t hx3, lt_p hx3, nat_in (lt_n hx3) hlhx3, p7, g6_2, g6_5, g6_11, g6_12, g6_13, og6_0, og6_1, IV, sts_cons, sts_nil, obs_cons, obs_nil]
  · rintro row_5 ⟨sl, ob, n⟩ hI8 hW9 h
    simp only [IV, sts_cons, sts_nil, obs_cons, obs_nil, and_true, true_and, Nat.reduceAdd, str_len] at hI8
    obtain ⟨⟨g10_2, g10_5, g10_11, g10_12, g10_13⟩, og10_0, og10_1, hn⟩ := hI8
    subst hn
    obtain rfl := Option.some.inj h
    try simp only [go_sem, qa, qb, qc, qd, qe, qf, qg, qh, qi, qj, qk, reduceCtorEq, reduceIte, lt_f (v1.length), g10_2, g10_5, g10_11, g10_12, g10_13, og10_0, og10_1]
end Go.Proofs.YtlkgkkacnoaeaaaGreatDoor

namespace Go.Proofs.YtlkgkkacnoaeaaaGreatDoor
open Go.Proofs.Tryz
open Int renaming reduceLT → qa, reduceLE → qb, reduceBEq → qc, reduceBNe → qd
open Nat renaming reduceBNe → qe, reduceAdd → qf, reduceMul → qg, reduceEqDiff → qh, reduceLeDiff → qi, reduceLT → qj, reduceBEq → qk
set_option linter.unusedSimpArgs false
set_option linter.unusedVariables false
set_option maxRecDepth 1000000
set_option maxHeartbeats 4000000
theorem s_l6Tokens_ok {l_0 : (List CondD)} {facts_1 : (List FactD)} {r : (List TokenD)} (h : s_l6Tokens l_0 facts_1 = some r) : Sound Tryz.prog J0 37 [(false, [.sl 99 5 (List.map eCond l_0)]), (false, [.sl 57 2 (List.map eFact facts_1)])] [(false, [(false, .sl 76 2 (List.map eToken r))])] := by
  refine fnk Tryz.func37 (by kernel_rfl) rfl (by kernel_rfl) (by kernel_rfl) ?_
  unfold s_l6Tokens at h
  simp only [fnS, f37, argSt, go_sem, qa, qb, qc, qd, qe, qf, qg, qh, qi, qj, qk, reduceCtorEq, reduceIte]
  refine swp_for h (fun i row_3 st => IV [(0, .p false [.c (.sl 99 5 (List.map eCond l_0))]), (1, .p false [.c (.sl 57 2 (List.map eFact facts_1))]), (5, .p false [.row 0]), (6, .p false [.c (.int .i64 ((i : Nat) : Int))])] [.row 76 2 (List.map eToken row_3) 2] st) [] [32] (by decide) ?_ ?_ ?_
  · simp only [go_sem, qa, qb, qc, qd, qe, qf, qg, qh, qi, qj, qk, reduceCtorEq, reduceIte, IV, sts_cons, sts_nil, obs_cons, obs_nil]
  · rintro i7 x8 row_3 ⟨sl, ob, n⟩ y1 hx2 hI3 hW4 h hy1
    simp only [IV, sts_cons, sts_nil, obs_cons, obs_nil, and_true, true_and, Nat.reduceAdd, str_len] at hI3
    obtain ⟨⟨g5_0, g5_1, g5_5, g5_6⟩, og5_0, hn⟩ := hI3
    subst hn
    have hlhx2 := WF.slotL hW4 g5_0 (j := 0) rfl
    try simp only [go_sem, qa, qb, qc, qd, qe, qf, qg, qh, qi, qj, qk, reduceCtorEq, reduceIte, hx2, lt_t hx2, lt_p hx2, nat_in (lt_n hx2) hlhx2, g5_0, g5_1, g5_5, g5_6, og5_0]
    obtain ⟨v9, e6, h⟩ := bind_K h
    refine call_K (by first | exact s_l6Next_ok e6 | simpa only [go_sem, qa, qb, qc, qd, qe, qf, qg, qh, qi, qj, qk, reduceCtorEq, reduceIte, hx2, lt_t hx2, lt_p hx2, nat_in (lt_n hx2) hlhx2, g5_0, g5_1, g5_5, g5_6, og5_0] using s_l6Next_ok e6) ?_
    try simp only [go_sem, qa, qb, qc, qd, qe, qf, qg, qh, qi, qj, qk, reduceCtorEq, reduceIte, hx2, lt_t hx2, lt_p hx2, nat_in (lt_n hx2) hlhx2, g5_0, g5_1, g5_5, g5_6, og5_0]
    refine ⟨_, [], [161], (Option.some.inj h).symm, by decide, ?_⟩
    try simp only [go_sem, qa, qb, qc, qd, qe, qf, qg, qh, qi, qj, qk, reduceCtorEq, reduceIte, hx2, lt_t hx2, lt_p hx2, nat_in (lt_n hx2) hlhx2, g5_0, g5_1, g5_5, g5_6, og5_0, IV, sts_cons, sts_nil, obs_cons, obs_nil]
  · rintro row_3 ⟨sl, ob, n⟩ hI7 hW8 h
    simp only [IV, sts_cons, sts_nil, obs_cons, obs_nil, and_true, true_and, Nat.reduceAdd, str_len] at hI7
    obtain ⟨⟨g9_0, g9_1, g9_5, g9_6⟩, og9_0, hn⟩ := hI7
    subst hn
    obtain rfl := Option.some.inj h
    try simp only [go_sem, qa, qb, qc, qd, qe, qf, qg, qh, qi, qj, qk, reduceCtorEq, reduceIte, lt_f (l_0.length), g9_0, g9_1, g9_5, g9_6, og9_0]
theorem i_IsClosed_ok {rules_0 : (List RuleD)} {facts_1 : (List FactD)} {r : Bool} (h : i_IsClosed rules_0 facts_1 = some r) : Sound Tryz.prog J0 10 [(false, [.sl 52 4 (List.map eRule rules_0)]), (false, [.sl 57 2 (List.map eFact facts_1)])] [(false, [(false, .bool r)])] := by
  refine fnk Tryz.func10 (by kernel_rfl) rfl (by kernel_rfl) (by kernel_rfl) ?_
  unfold i_IsClosed at h
  simp only [fnS, f10, argSt, go_sem, qa, qb, qc, qd, qe, qf, qg, qh, qi, qj, qk, reduceCtorEq, reduceIte]
  obtain ⟨v1, e1, h⟩ := bind_K h
  refine call_K (by first | exact i_AreRules_ok e1 | simpa only [go_sem, qa, qb, qc, qd, qe, qf, qg, qh, qi, qj, qk, reduceCtorEq, reduceIte] using i_AreRules_ok e1) ?_
  try simp only [go_sem, qa, qb, qc, qd, qe, qf, qg, qh, qi, qj, qk, reduceCtorEq, reduceIte]
  refine ite_K h (fun c2 h => ?_) (fun c2 h => ?_)
  · try simp only [go_sem, qa, qb, qc, qd, qe, qf, qg, qh, qi, qj, qk, reduceCtorEq, reduceIte, c2]
    obtain ⟨v2, e3, h⟩ := bind_K h
    refine call_K (by first | exact i_AreFacts_ok e3 | simpa only [go_sem, qa, qb, qc, qd, qe, qf, qg, qh, qi, qj, qk, reduceCtorEq, reduceIte, c2] using i_AreFacts_ok e3) ?_
    try simp only [go_sem, qa, qb, qc, qd, qe, qf, qg, qh, qi, qj, qk, reduceCtorEq, reduceIte, c2]
    refine ite_K h (fun c4 h => ?_) (fun c4 h => ?_)
    · try simp only [go_sem, qa, qb, qc, qd, qe, qf, qg, qh, qi, qj, qk, reduceCtorEq, reduceIte, c2, c4]
      refine swp_for h (fun i _ st => IV [(1, .p false [.c (.sl 57 2 (List.map eFact facts_1))]), (21, .p false [.c (.sl 52 4 (List.map eRule rules_0))]), (22, .p false [.c (.int .i64 ((rules_0.length : Nat) : Int))]), (23, .p false [.c (.int .i64 ((i : Nat) : Int))])] [] st) [] [] (by decide) ?_ ?_ ?_
      · simp only [go_sem, qa, qb, qc, qd, qe, qf, qg, qh, qi, qj, qk, reduceCtorEq, reduceIte, IV, sts_cons, sts_nil, obs_cons, obs_nil, c2, c4]
      · rintro i84 x85 ⟨⟩ ⟨sl, ob, n⟩ y5 hx6 hI7 hW8 h hy5
        simp only [IV, sts_cons, sts_nil, obs_cons, obs_nil, and_true, true_and, Nat.reduceAdd, str_len] at hI7
        obtain ⟨⟨g9_1, g9_21, g9_22, g9_23⟩, hn⟩ := hI7
        subst hn
        have hlhx6 := WF.slotL hW8 g9_21 (j := 0) rfl
        try simp only [go_sem, qa, qb, qc, qd, qe, qf, qg, qh, qi, qj, qk, reduceCtorEq, reduceIte, c2, c4, hx6, lt_t hx6, lt_p hx6, nat_in (lt_n hx6) hlhx6, g9_1, g9_21, g9_22, g9_23]
        obtain ⟨v86, e10, h⟩ := bind_K h
        refine frz_K (by first | exact i_matchesOf_ok e10 | simpa only [go_sem, qa, qb, qc, qd, qe, qf, qg, qh, qi, qj, qk, reduceCtorEq, reduceIte, c2, c4, hx6, lt_t hx6, lt_p hx6, nat_in (lt_n hx6) hlhx6, g9_1, g9_21, g9_22, g9_23] using i_matchesOf_ok e10) ?_
        try simp only [go_sem, qa, qb, qc, qd, qe, qf, qg, qh, qi, qj, qk, reduceCtorEq, reduceIte, c2, c4, hx6, lt_t hx6, lt_p hx6, nat_in (lt_n hx6) hlhx6, g9_1, g9_21, g9_22, g9_23]
        refine swp_for h (fun i _ st => IV [(1, .p false [.c (.sl 57 2 (List.map eFact facts_1))]), (6, .bp 0 0), (21, .p false [.c (.sl 52 4 (List.map eRule rules_0))]), (22, .p false [.c (.int .i64 ((rules_0.length : Nat) : Int))]), (23, .p false [.c (.int .i64 ((i84 : Nat) : Int))]), (29, .p false [.c (.sl 56 3 (List.map eMatch v86))]), (30, .p false [.c (.int .i64 ((v86.length : Nat) : Int))]), (31, .p false [.c (.int .i64 ((i : Nat) : Int))])] [.box 52 [.c (.str x85.name), .c (.int .i64 x85.priority), .c (.sl 99 5 (List.map eCond x85.cond)), .c (.sl 62 3 (List.map eAction x85.thn))]] st) [] [48] (by decide) ?_ ?_ ?_
        · simp only [go_sem, qa, qb, qc, qd, qe, qf, qg, qh, qi, qj, qk, reduceCtorEq, reduceIte, IV, sts_cons, sts_nil, obs_cons, obs_nil, c2, c4, hx6, lt_t hx6, lt_p hx6, nat_in (lt_n hx6) hlhx6, g9_1, g9_21, g9_22, g9_23]
        · rintro i112 x113 ⟨⟩ ⟨sl, ob, n⟩ y11 hx12 hI13 hW14 h hy11
          simp only [IV, sts_cons, sts_nil, obs_cons, obs_nil, and_true, true_and, Nat.reduceAdd, str_len] at hI13
          obtain ⟨⟨g15_1, g15_6, g15_21, g15_22, g15_23, g15_29, g15_30, g15_31⟩, og15_0, hn⟩ := hI13
          subst hn
          have hlhx12 := WF.slotL hW14 g15_29 (j := 0) rfl
          try simp only [go_sem, qa, qb, qc, qd, qe, qf, qg, qh, qi, qj, qk, reduceCtorEq, reduceIte, c2, c4, hx6, lt_t hx6, lt_p hx6, nat_in (lt_n hx6) hlhx6, hx12, lt_t hx12, lt_p hx12, nat_in (lt_n hx12) hlhx12, g15_1, g15_6, g15_21, g15_22, g15_23, g15_29, g15_30, g15_31, og15_0]
          refine swp_for h (fun i _ st => IV [(1, .p false [.c (.sl 57 2 (List.map eFact facts_1))]), (6, .bp 0 0), (8, .bp 1 0), (21, .p false [.c (.sl 52 4 (List.map eRule rules_0))]), (22, .p false [.c (.int .i64 ((rules_0.length : Nat) : Int))]), (23, .p false [.c (.int .i64 ((i84 : Nat) : Int))]), (29, .p false [.c (.sl 56 3 (List.map eMatch v86))]), (30, .p false [.c (.int .i64 ((v86.length : Nat) : Int))]), (31, .p false [.c (.int .i64 ((i112 : Nat) : Int))]), (36, .p false [.c (.sl 62 3 (List.map eAction x85.thn))]), (37, .p false [.c (.int .i64 ((x85.thn.length : Nat) : Int))]), (38, .p false [.c (.int .i64 ((i : Nat) : Int))])] [.box 52 [.c (.str x85.name), .c (.int .i64 x85.priority), .c (.sl 99 5 (List.map eCond x85.cond)), .c (.sl 62 3 (List.map eAction x85.thn))], .box 56 [.c (.str x113.rule), .c (.sl 57 2 (List.map eFact x113.facts)), .c (.sl 119 2 (List.map ePair x113.binding))]] st) [] [0, 49] (by decide) ?_ ?_ ?_
          · simp only [go_sem, qa, qb, qc, qd, qe, qf, qg, qh, qi, qj, qk, reduceCtorEq, reduceIte, IV, sts_cons, sts_nil, obs_cons, obs_nil, c2, c4, hx6, lt_t hx6, lt_p hx6, nat_in (lt_n hx6) hlhx6, hx12, lt_t hx12, lt_p hx12, nat_in (lt_n hx12) hlhx12, g15_1, g15_6, g15_21, g15_22, g15_23, g15_29, g15_30, g15_31, og15_0]
          · rintro i121 x122 ⟨⟩ ⟨sl, ob, n⟩ y16 hx17 hI18 hW19 h hy16
            simp only [IV, sts_cons, sts_nil, obs_cons, obs_nil, and_true, true_and, Nat.reduceAdd, str_len] at hI18
            obtain ⟨⟨g20_1, g20_6, g20_8, g20_21, g20_22, g20_23, g20_29, g20_30, g20_31, g20_36, g20_37, g20_38⟩, og20_0, og20_1, hn⟩ := hI18
            subst hn
            have hlhx17 := WF.slotL hW19 g20_36 (j := 0) rfl
            try simp only [go_sem, qa, qb, qc, qd, qe, qf, qg, qh, qi, qj, qk, reduceCtorEq, reduceIte, c2, c4, hx6, lt_t hx6, lt_p hx6, nat_in (lt_n hx6) hlhx6, hx12, lt_t hx12, lt_p hx12, nat_in (lt_n hx12) hlhx12, hx17, lt_t hx17, lt_p hx17, nat_in (lt_n hx17) hlhx17, g20_1, g20_6, g20_8, g20_21, g20_22, g20_23, g20_29, g20_30, g20_31, g20_36, g20_37, g20_38, og20_0, og20_1]
            refine ite_K h (fun c21 h => ?_) (fun c21 h => ?_)
            · try simp only [go_sem, qa, qb, qc, qd, qe, qf, qg, qh, qi, qj, qk, reduceCtorEq, reduceIte, c2, c4, hx6, lt_t hx6, lt_p hx6, nat_in (lt_n hx6) hlhx6, hx12, lt_t hx12, lt_p hx12, nat_in (lt_n hx12) hlhx12, hx17, lt_t hx17, lt_p hx17, nat_in (lt_n hx17) hlhx17, c21, g20_1, g20_6, g20_8, g20_21, g20_22, g20_23, g20_29, g20_30, g20_31, g20_36, g20_37, g20_38, og20_0, og20_1]
              refine ⟨_, [], [0, 1], (Option.some.inj h).symm, by decide, ?_⟩
              try simp only [go_sem, qa, qb, qc, qd, qe, qf, qg, qh, qi, qj, qk, reduceCtorEq, reduceIte, c2, c4, hx6, lt_t hx6, lt_p hx6, nat_in (lt_n hx6) hlhx6, hx12, lt_t hx12, lt_p hx12, nat_in (lt_n hx12) hlhx12, hx17, lt_t hx17, lt_p hx17, nat_in (lt_n hx17) hlhx17, c21, g20_1, g20_6, g20_8, g20_21, g20_22, g20_23, g20_29, g20_30, g20_31, g20_36, g20_37, g20_38, og20_0, og20_1, IV, sts_cons, sts_nil, obs_cons, obs_nil]
            · try simp only [go_sem, qa, qb, qc, qd, qe, qf, qg, qh, qi, qj, qk, reduceCtorEq, reduceIte, c2, c4, hx6, lt_t hx6, lt_p hx6, nat_in (lt_n hx6) hlhx6, hx12, lt_t hx12, lt_p hx12, nat_in (lt_n hx12) hlhx12, hx17, lt_t hx17, lt_p hx17, nat_in (lt_n hx17) hlhx17, c21, g20_1, g20_6, g20_8, g20_21, g20_22, g20_23, g20_29, g20_30, g20_31, g20_36, g20_37, g20_38, og20_0, og20_1]
              obtain ⟨v123, e22, h⟩ := bind_K h
              refine call_K (by first | exact i_Instance_ok e22 | simpa only [go_sem, qa, qb, qc, qd, qe, qf, qg, qh, qi, qj, qk, reduceCtorEq, reduceIte, c2, c4, hx6, lt_t hx6, lt_p hx6, nat_in (lt_n hx6) hlhx6, hx12, lt_t hx12, lt_p hx12, nat_in (lt_n hx12) hlhx12, hx17, lt_t hx17, lt_p hx17, nat_in (lt_n hx17) hlhx17, c21, g20_1, g20_6, g20_8, g20_21, g20_22, g20_23, g20_29, g20_30, g20_31, g20_36, g20_37, g20_38, og20_0, og20_1] using i_Instance_ok e22) ?_
              try simp only [go_sem, qa, qb, qc, qd, qe, qf, qg, qh, qi, qj, qk, reduceCtorEq, reduceIte, c2, c4, hx6, lt_t hx6, lt_p hx6, nat_in (lt_n hx6) hlhx6, hx12, lt_t hx12, lt_p hx12, nat_in (lt_n hx12) hlhx12, hx17, lt_t hx17, lt_p hx17, nat_in (lt_n hx17) hlhx17, c21, g20_1, g20_6, g20_8, g20_21, g20_22, g20_23, g20_29, g20_30, g20_31, g20_36, g20_37, g20_38, og20_0, og20_1]
              obtain ⟨v124, e23, h⟩ := bind_K h
              refine call_K (by first | exact i_FindFact_ok e23 | simpa only [go_sem, qa, qb, qc, qd, qe, qf, qg, qh, qi, qj, qk, reduceCtorEq, reduceIte, c2, c4, hx6, lt_t hx6, lt_p hx6, nat_in (lt_n hx6) hlhx6, hx12, lt_t hx12, lt_p hx12, nat_in (lt_n hx12) hlhx12, hx17, lt_t hx17, lt_p hx17, nat_in (lt_n hx17) hlhx17, c21, g20_1, g20_6, g20_8, g20_21, g20_22, g20_23, g20_29, g20_30, g20_31, g20_36, g20_37, g20_38, og20_0, og20_1] using i_FindFact_ok e23) ?_
              try simp only [go_sem, qa, qb, qc, qd, qe, qf, qg, qh, qi, qj, qk, reduceCtorEq, reduceIte, c2, c4, hx6, lt_t hx6, lt_p hx6, nat_in (lt_n hx6) hlhx6, hx12, lt_t hx12, lt_p hx12, nat_in (lt_n hx12) hlhx12, hx17, lt_t hx17, lt_p hx17, nat_in (lt_n hx17) hlhx17, c21, g20_1, g20_6, g20_8, g20_21, g20_22, g20_23, g20_29, g20_30, g20_31, g20_36, g20_37, g20_38, og20_0, og20_1]
              refine ite_K h (fun c24 h => ?_) (fun c24 h => ?_)
              · replace h := inr_K h hy16
                replace h := inr_K h hy11
                replace h := inr_K h hy5
                obtain rfl := Option.some.inj h
                try simp only [go_sem, qa, qb, qc, qd, qe, qf, qg, qh, qi, qj, qk, reduceCtorEq, reduceIte, c2, c4, hx6, lt_t hx6, lt_p hx6, nat_in (lt_n hx6) hlhx6, hx12, lt_t hx12, lt_p hx12, nat_in (lt_n hx12) hlhx12, hx17, lt_t hx17, lt_p hx17, nat_in (lt_n hx17) hlhx17, c21, c24, g20_1, g20_6, g20_8, g20_21, g20_22, g20_23, g20_29, g20_30, g20_31, g20_36, g20_37, g20_38, og20_0, og20_1]
              · try simp only [go_sem, qa, qb, qc, qd, qe, qf, qg, qh, qi, qj, qk, reduceCtorEq, reduceIte, c2, c4, hx6, lt_t hx6, lt_p hx6, nat_in (lt_n hx6) hlhx6, hx12, lt_t hx12, lt_p hx12, nat_in (lt_n hx12) hlhx12, hx17, lt_t hx17, lt_p hx17, nat_in (lt_n hx17) hlhx17, c21, c24, g20_1, g20_6, g20_8, g20_21, g20_22, g20_23, g20_29, g20_30, g20_31, g20_36, g20_37, g20_38, og20_0, og20_1]
                refine ⟨_, [], [0, 1], (Option.some.inj h).symm, by decide, ?_⟩
                try simp only [go_sem, qa, qb, qc, qd, qe, qf, qg, qh, qi, qj, qk, reduceCtorEq, reduceIte, c2, c4, hx6, lt_t hx6, lt_p hx6, nat_in (lt_n hx6) hlhx6, hx12, lt_t hx12, lt_p hx12, nat_in (lt_n hx12) hlhx12, hx17, lt_t hx17, lt_p hx17, nat_in (lt_n hx17) hlhx17, c21, c24, g20_1, g20_6, g20_8, g20_21, g20_22, g20_23, g20_29, g20_30, g20_31, g20_36, g20_37, g20_38, og20_0, og20_1, IV, sts_cons, sts_nil, obs_cons, obs_nil]
          · rintro ⟨⟩ ⟨sl, ob, n⟩ hI25 hW26 h
            simp only [IV, sts_cons, sts_nil, obs_cons, obs_nil, and_true, true_and, Nat.reduceAdd, str_len] at hI25
            obtain ⟨⟨g27_1, g27_6, g27_8, g27_21, g27_22, g27_23, g27_29, g27_30, g27_31, g27_36, g27_37, g27_38⟩, og27_0, og27_1, hn⟩ := hI25
            subst hn
            try simp only [go_sem, qa, qb, qc, qd, qe, qf, qg, qh, qi, qj, qk, reduceCtorEq, reduceIte, c2, c4, hx6, lt_t hx6, lt_p hx6, nat_in (lt_n hx6) hlhx6, hx12, lt_t hx12, lt_p hx12, nat_in (lt_n hx12) hlhx12, lt_f (x85.thn.length), g27_1, g27_6, g27_8, g27_21, g27_22, g27_23, g27_29, g27_30, g27_31, g27_36, g27_37, g27_38, og27_0, og27_1]
            refine ⟨_, [], [0], (Option.some.inj h).symm, by decide, ?_⟩
            try simp only [go_sem, qa, qb, qc, qd, qe, qf, qg, qh, qi, qj, qk, reduceCtorEq, reduceIte, c2, c4, hx6, lt_t hx6, lt_p hx6, nat_in (lt_n hx6) hlhx6, hx12, lt_t hx12, lt_p hx12, nat_in (lt_n hx12) hlhx12, lt_f (x85.thn.length), g27_1, g27_6, g27_8, g27_21, g27_22, g27_23, g27_29, g27_30, g27_31, g27_36, g27_37, g27_38, og27_0, og27_1, IV, sts_cons, sts_nil, obs_cons, obs_nil]
        · rintro ⟨⟩ ⟨sl, ob, n⟩ hI28 hW29 h
          simp only [IV, sts_cons, sts_nil, obs_cons, obs_nil, and_true, true_and, Nat.reduceAdd, str_len] at hI28
          obtain ⟨⟨g30_1, g30_6, g30_21, g30_22, g30_23, g30_29, g30_30, g30_31⟩, og30_0, hn⟩ := hI28
          subst hn
          try simp only [go_sem, qa, qb, qc, qd, qe, qf, qg, qh, qi, qj, qk, reduceCtorEq, reduceIte, c2, c4, hx6, lt_t hx6, lt_p hx6, nat_in (lt_n hx6) hlhx6, lt_f (v86.length), g30_1, g30_6, g30_21, g30_22, g30_23, g30_29, g30_30, g30_31, og30_0]
          refine ⟨_, [], [], (Option.some.inj h).symm, by decide, ?_⟩
          try simp only [go_sem, qa, qb, qc, qd, qe, qf, qg, qh, qi, qj, qk, reduceCtorEq, reduceIte, c2, c4, hx6, lt_t hx6, lt_p hx6, nat_in (lt_n hx6) hlhx6, lt_f (v86.length), g30_1, g30_6, g30_21, g30_22, g30_23, g30_29, g30_30, g30_31, og30_0, IV, sts_cons, sts_nil, obs_cons, obs_nil]
      · rintro ⟨⟩ ⟨sl, ob, n⟩ hI31 hW32 h
        simp only [IV, sts_cons, sts_nil, obs_cons, obs_nil, and_true, true_and, Nat.reduceAdd, str_len] at hI31
        obtain ⟨⟨g33_1, g33_21, g33_22, g33_23⟩, hn⟩ := hI31
        subst hn
        obtain rfl := Option.some.inj h
        try simp only [go_sem, qa, qb, qc, qd, qe, qf, qg, qh, qi, qj, qk, reduceCtorEq, reduceIte, c2, c4, lt_f (rules_0.length), g33_1, g33_21, g33_22, g33_23]
    · obtain rfl := Option.some.inj h
      try simp only [go_sem, qa, qb, qc, qd, qe, qf, qg, qh, qi, qj, qk, reduceCtorEq, reduceIte, c2, c4]
  · obtain rfl := Option.some.inj h
    try simp only [go_sem, qa, qb, qc, qd, qe, qf, qg, qh, qi, qj, qk, reduceCtorEq, reduceIte, c2]
end Go.Proofs.YtlkgkkacnoaeaaaGreatDoor

namespace Go.Proofs.YtlkgkkacnoaeaaaGreatDoor
open Go.Proofs.Tryz
open Int renaming reduceLT → qa, reduceLE → qb, reduceBEq → qc, reduceBNe → qd
open Nat renaming reduceBNe → qe, reduceAdd → qf, reduceMul → qg, reduceEqDiff → qh, reduceLeDiff → qi, reduceLT → qj, reduceBEq → qk
set_option linter.unusedSimpArgs false
set_option linter.unusedVariables false
set_option maxRecDepth 1000000
set_option maxHeartbeats 4000000
theorem s_TokensOf_ok {r_0 : RuleD} {n_1 : Int} {facts_2 : (List FactD)} {r : (List TokenD)} (h : s_TokensOf r_0 n_1 facts_2 = some r) : Sound Tryz.prog J0 88 [(true, eRule r_0), (false, [.int .i64 n_1]), (false, [.sl 57 2 (List.map eFact facts_2)])] [(false, [(false, .sl 76 2 (List.map eToken r))])] := by
  refine fnk Tryz.func88 (by kernel_rfl) rfl (by kernel_rfl) (by kernel_rfl) ?_
  unfold s_TokensOf at h
  simp only [fnS, f88, argSt, go_sem, qa, qb, qc, qd, qe, qf, qg, qh, qi, qj, qk, reduceCtorEq, reduceIte]
  obtain ⟨v1, e1, h⟩ := bind_K h
  refine call_K (by have hh := s_IsRule_ok e1; first | exact hh | (simp only [go_sem, qa, qb, qc, qd, qe, qf, qg, qh, qi, qj, qk, reduceCtorEq, reduceIte] at hh; exact hh)) ?_
  try simp only [go_sem, qa, qb, qc, qd, qe, qf, qg, qh, qi, qj, qk, reduceCtorEq, reduceIte]
  refine ite_K h (fun c2 h => ?_) (fun c2 h => ?_)
  · try simp only [go_sem, qa, qb, qc, qd, qe, qf, qg, qh, qi, qj, qk, reduceCtorEq, reduceIte, c2]
    obtain ⟨v2, e3, h⟩ := bind_K h
    refine call_K (by have hh := s_AreFacts_ok e3; first | exact hh | (simp only [go_sem, qa, qb, qc, qd, qe, qf, qg, qh, qi, qj, qk, reduceCtorEq, reduceIte, c2] at hh; exact hh)) ?_
    try simp only [go_sem, qa, qb, qc, qd, qe, qf, qg, qh, qi, qj, qk, reduceCtorEq, reduceIte, c2]
    refine ite_K h (fun c4 h => ?_) (fun c4 h => ?_)
    · try simp only [go_sem, qa, qb, qc, qd, qe, qf, qg, qh, qi, qj, qk, reduceCtorEq, reduceIte, c2, c4]
      obtain ⟨v3, e5, h⟩ := bind_K h
      refine call_K (by have hh := s_l1In_ok e5; first | exact hh | (simp only [go_sem, qa, qb, qc, qd, qe, qf, qg, qh, qi, qj, qk, reduceCtorEq, reduceIte, c2, c4] at hh; exact hh)) ?_
      try simp only [go_sem, qa, qb, qc, qd, qe, qf, qg, qh, qi, qj, qk, reduceCtorEq, reduceIte, c2, c4]
      refine ite_K h (fun c6 h => ?_) (fun c6 h => ?_)
      · obtain ⟨p7, h⟩ := chk_K h
        try simp only [go_sem, qa, qb, qc, qd, qe, qf, qg, qh, qi, qj, qk, reduceCtorEq, reduceIte, c2, c4, c6, p7.1, p7.2]
        obtain ⟨v4, e8, h⟩ := bind_K h
        refine call_K (by have hh := s_l6Tokens_ok e8; first | exact hh | (simp only [go_sem, qa, qb, qc, qd, qe, qf, qg, qh, qi, qj, qk, reduceCtorEq, reduceIte, c2, c4, c6, p7.1, p7.2] at hh; exact hh)) ?_
        obtain rfl := Option.some.inj h
        try simp only [go_sem, qa, qb, qc, qd, qe, qf, qg, qh, qi, qj, qk, reduceCtorEq, reduceIte, c2, c4, c6, p7.1, p7.2]
      · obtain rfl := Option.some.inj h
        try simp only [go_sem, qa, qb, qc, qd, qe, qf, qg, qh, qi, qj, qk, reduceCtorEq, reduceIte, c2, c4, c6]
    · obtain rfl := Option.some.inj h
      try simp only [go_sem, qa, qb, qc, qd, qe, qf, qg, qh, qi, qj, qk, reduceCtorEq, reduceIte, c2, c4]
  · obtain rfl := Option.some.inj h
    try simp only [go_sem, qa, qb, qc, qd, qe, qf, qg, qh, qi, qj, qk, reduceCtorEq, reduceIte, c2]
end Go.Proofs.YtlkgkkacnoaeaaaGreatDoor

namespace Go.Proofs.YtlkgkkacnoaeaaaGreatDoor
open Go.Proofs.Tryz
open Int renaming reduceLT → qa, reduceLE → qb, reduceBEq → qc, reduceBNe → qd
open Nat renaming reduceBNe → qe, reduceAdd → qf, reduceMul → qg, reduceEqDiff → qh, reduceLeDiff → qi, reduceLT → qj, reduceBEq → qk
set_option linter.unusedSimpArgs false
set_option linter.unusedVariables false
set_option maxRecDepth 1000000
set_option maxHeartbeats 4000000
theorem s_MatchesOf_ok {r_0 : RuleD} {facts_1 : (List FactD)} {r : (List MatchD)} (h : s_MatchesOf r_0 facts_1 = some r) : Sound Tryz.prog J0 53 [(true, eRule r_0), (false, [.sl 57 2 (List.map eFact facts_1)])] [(false, [(true, .sl 56 3 (List.map eMatch r))])] := by
  refine fnk Tryz.func53 (by kernel_rfl) rfl (by kernel_rfl) (by kernel_rfl) ?_
  unfold s_MatchesOf at h
  simp only [fnS, f53, argSt, go_sem, qa, qb, qc, qd, qe, qf, qg, qh, qi, qj, qk, reduceCtorEq, reduceIte]
  obtain ⟨v1, e1, h⟩ := bind_K h
  refine call_K (by have hh := s_TokensOf_ok e1; first | exact hh | (simp only [go_sem, qa, qb, qc, qd, qe, qf, qg, qh, qi, qj, qk, reduceCtorEq, reduceIte] at hh; exact hh)) ?_
  try simp only [go_sem, qa, qb, qc, qd, qe, qf, qg, qh, qi, qj, qk, reduceCtorEq, reduceIte]
  refine swp_for h (fun i row_4 st => IV [(2, .bp 0 0), (5, .p false [.row 1]), (6, .p false [.row 2]), (7, .p false [.c (.int .i64 ((i : Nat) : Int))])] [.box 52 [.c (.str r_0.name), .c (.int .i64 r_0.priority), .c (.sl 99 5 (List.map eCond r_0.cond)), .c (.sl 62 3 (List.map eAction r_0.thn))], .row 56 3 (List.map eMatch row_4) 1, .row 76 2 (List.map eToken v1) 2] st) [(true, 32, 1)] [0, 32, 144] (by decide) ?_ ?_ ?_
  · simp only [go_sem, qa, qb, qc, qd, qe, qf, qg, qh, qi, qj, qk, reduceCtorEq, reduceIte, IV, sts_cons, sts_nil, obs_cons, obs_nil]
  · rintro i7 x8 row_4 ⟨sl, ob, n⟩ y2 hx3 hI4 hW5 h hy2
    simp only [IV, sts_cons, sts_nil, obs_cons, obs_nil, and_true, true_and, Nat.reduceAdd, str_len] at hI4
    obtain ⟨⟨g6_2, g6_5, g6_6, g6_7⟩, og6_0, og6_1, og6_2, hn⟩ := hI4
    subst hn
    have hlhx3 := WF.rowL hW5 og6_2
    obtain ⟨p7, h⟩ := chk_K h
    try simp only [Nat.reduceLeDiff] at p7
    try simp only [go_sem, qa, qb, qc, qd, qe, qf, qg, qh, qi, qj, qk, reduceCtorEq, reduceIte, hx3, lt_t hx3, lt_p hx3, nat_in (lt_n hx3) hlhx3, p7, g6_2, g6_5, g6_6, g6_7, og6_0, og6_1, og6_2]
    refine ⟨_, [], [0, 307, 2], (Option.some.inj h).symm, by decide, ?_⟩
    try simp only [go_sem, qa, qb, qc, qd, qe, qf, qg, qh, qi, qj, qk, reduceCtorEq, reduceIte, hx3, lt_t hx3, lt_p hx3, nat_in (lt_n hx3) hlhx3, p7, g6_2, g6_5, g6_6, g6_7, og6_0, og6_1, og6_2, IV, sts_cons, sts_nil, obs_cons, obs_nil]
  · rintro row_4 ⟨sl, ob, n⟩ hI8 hW9 h
    simp only [IV, sts_cons, sts_nil, obs_cons, obs_nil, and_true, true_and, Nat.reduceAdd, str_len] at hI8
    obtain ⟨⟨g10_2, g10_5, g10_6, g10_7⟩, og10_0, og10_1, og10_2, hn⟩ := hI8
    subst hn
    obtain rfl := Option.some.inj h
    try simp only [go_sem, qa, qb, qc, qd, qe, qf, qg, qh, qi, qj, qk, reduceCtorEq, reduceIte, lt_f (v1.length), g10_2, g10_5, g10_6, g10_7, og10_0, og10_1, og10_2]
end Go.Proofs.YtlkgkkacnoaeaaaGreatDoor

namespace Go.Proofs.YtlkgkkacnoaeaaaGreatDoor
open Go.Proofs.Tryz
open Int renaming reduceLT → qa, reduceLE → qb, reduceBEq → qc, reduceBNe → qd
open Nat renaming reduceBNe → qe, reduceAdd → qf, reduceMul → qg, reduceEqDiff → qh, reduceLeDiff → qi, reduceLT → qj, reduceBEq → qk
set_option linter.unusedSimpArgs false
set_option linter.unusedVariables false
set_option maxRecDepth 1000000
set_option maxHeartbeats 4000000
theorem s_AllMatches_ok {rules_0 : (List RuleD)} {facts_1 : (List FactD)} {r : (List MatchD)} (h : s_AllMatches rules_0 facts_1 = some r) : Sound Tryz.prog J0 20 [(false, [.sl 52 4 (List.map eRule rules_0)]), (false, [.sl 57 2 (List.map eFact facts_1)])] [(false, [(true, .sl 56 3 (List.map eMatch r))])] := by
  refine fnk Tryz.func20 (by kernel_rfl) rfl (by kernel_rfl) (by kernel_rfl) ?_
  unfold s_AllMatches at h
  simp only [fnS, f20, argSt, go_sem, qa, qb, qc, qd, qe, qf, qg, qh, qi, qj, qk, reduceCtorEq, reduceIte]
  refine swp_for h (fun i row_7 st => IV [(0, .p false [.c (.sl 52 4 (List.map eRule rules_0))]), (1, .p false [.c (.sl 57 2 (List.map eFact facts_1))]), (5, .p false [.row 0]), (6, .p false [.c (.int .i64 ((i : Nat) : Int))])] [.row 56 3 (List.map eMatch row_7) 1] st) [(true, 16, 1)] [16] (by decide) ?_ ?_ ?_
  · simp only [go_sem, qa, qb, qc, qd, qe, qf, qg, qh, qi, qj, qk, reduceCtorEq, reduceIte, IV, sts_cons, sts_nil, obs_cons, obs_nil]
  · rintro i12 x13 row_7 ⟨sl, ob, n⟩ y1 hx2 hI3 hW4 h hy1
    simp only [IV, sts_cons, sts_nil, obs_cons, obs_nil, and_true, true_and, Nat.reduceAdd, str_len] at hI3
    obtain ⟨⟨g5_0, g5_1, g5_5, g5_6⟩, og5_0, hn⟩ := hI3
    subst hn
    have hlhx2 := WF.slotL hW4 g5_0 (j := 0) rfl
    try simp only [go_sem, qa, qb, qc, qd, qe, qf, qg, qh, qi, qj, qk, reduceCtorEq, reduceIte, hx2, lt_t hx2, lt_p hx2, nat_in (lt_n hx2) hlhx2, g5_0, g5_1, g5_5, g5_6, og5_0]
    obtain ⟨v14, e6, h⟩ := bind_K h
    refine call_K (by have hh := s_AreRules_ok e6; first | exact hh | (simp only [go_sem, qa, qb, qc, qd, qe, qf, qg, qh, qi, qj, qk, reduceCtorEq, reduceIte, hx2, lt_t hx2, lt_p hx2, nat_in (lt_n hx2) hlhx2, g5_0, g5_1, g5_5, g5_6, og5_0] at hh; exact hh)) ?_
    try simp only [go_sem, qa, qb, qc, qd, qe, qf, qg, qh, qi, qj, qk, reduceCtorEq, reduceIte, hx2, lt_t hx2, lt_p hx2, nat_in (lt_n hx2) hlhx2, g5_0, g5_1, g5_5, g5_6, og5_0]
    refine ite_K h (fun c7 h => ?_) (fun c7 h => ?_)
    · try simp only [go_sem, qa, qb, qc, qd, qe, qf, qg, qh, qi, qj, qk, reduceCtorEq, reduceIte, hx2, lt_t hx2, lt_p hx2, nat_in (lt_n hx2) hlhx2, c7, g5_0, g5_1, g5_5, g5_6, og5_0]
      obtain ⟨v15, e8, h⟩ := bind_K h
      refine frz_K (by have hh := s_MatchesOf_ok e8; first | exact hh | (simp only [go_sem, qa, qb, qc, qd, qe, qf, qg, qh, qi, qj, qk, reduceCtorEq, reduceIte, hx2, lt_t hx2, lt_p hx2, nat_in (lt_n hx2) hlhx2, c7, g5_0, g5_1, g5_5, g5_6, og5_0] at hh; exact hh)) ?_
      obtain ⟨p9, h⟩ := chk_K h
      try simp only [Nat.reduceLeDiff] at p9
      try simp only [go_sem, qa, qb, qc, qd, qe, qf, qg, qh, qi, qj, qk, reduceCtorEq, reduceIte, hx2, lt_t hx2, lt_p hx2, nat_in (lt_n hx2) hlhx2, c7, p9, g5_0, g5_1, g5_5, g5_6, og5_0]
      refine ⟨_, [], [241], (Option.some.inj h).symm, by decide, ?_⟩
      try simp only [go_sem, qa, qb, qc, qd, qe, qf, qg, qh, qi, qj, qk, reduceCtorEq, reduceIte, hx2, lt_t hx2, lt_p hx2, nat_in (lt_n hx2) hlhx2, c7, p9, g5_0, g5_1, g5_5, g5_6, og5_0, IV, sts_cons, sts_nil, obs_cons, obs_nil]
    · replace h := inr_K h hy1
      obtain rfl := Option.some.inj h
      try simp only [go_sem, qa, qb, qc, qd, qe, qf, qg, qh, qi, qj, qk, reduceCtorEq, reduceIte, hx2, lt_t hx2, lt_p hx2, nat_in (lt_n hx2) hlhx2, c7, g5_0, g5_1, g5_5, g5_6, og5_0]
  · rintro row_7 ⟨sl, ob, n⟩ hI10 hW11 h
    simp only [IV, sts_cons, sts_nil, obs_cons, obs_nil, and_true, true_and, Nat.reduceAdd, str_len] at hI10
    obtain ⟨⟨g12_0, g12_1, g12_5, g12_6⟩, og12_0, hn⟩ := hI10
    subst hn
    obtain rfl := Option.some.inj h
    try simp only [go_sem, qa, qb, qc, qd, qe, qf, qg, qh, qi, qj, qk, reduceCtorEq, reduceIte, lt_f (rules_0.length), g12_0, g12_1, g12_5, g12_6, og12_0]
end Go.Proofs.YtlkgkkacnoaeaaaGreatDoor

namespace Go.Proofs.YtlkgkkacnoaeaaaGreatDoor
open Go.Proofs.Tryz
open Int renaming reduceLT → qa, reduceLE → qb, reduceBEq → qc, reduceBNe → qd
open Nat renaming reduceBNe → qe, reduceAdd → qf, reduceMul → qg, reduceEqDiff → qh, reduceLeDiff → qi, reduceLT → qj, reduceBEq → qk
set_option linter.unusedSimpArgs false
set_option linter.unusedVariables false
set_option maxRecDepth 1000000
set_option maxHeartbeats 4000000
theorem s_IsClosed_ok {append_0 : (List RuleD)} {String_1 : (List FactD)} {r : Bool} (h : s_IsClosed append_0 String_1 = some r) : Sound Tryz.prog J0 7 [(false, [.sl 52 4 (List.map eRule append_0)]), (false, [.sl 57 2 (List.map eFact String_1)])] [(false, [(false, .bool r)])] := by
  refine fnk Tryz.func7 (by kernel_rfl) rfl (by kernel_rfl) (by kernel_rfl) ?_
  unfold s_IsClosed at h
  simp only [fnS, f7, argSt, go_sem, qa, qb, qc, qd, qe, qf, qg, qh, qi, qj, qk, reduceCtorEq, reduceIte]
  obtain ⟨v1, e1, h⟩ := bind_K h
  refine frz_K (by have hh := s_AllMatches_ok e1; first | exact hh | (simp only [go_sem, qa, qb, qc, qd, qe, qf, qg, qh, qi, qj, qk, reduceCtorEq, reduceIte] at hh; exact hh)) ?_
  try simp only [go_sem, qa, qb, qc, qd, qe, qf, qg, qh, qi, qj, qk, reduceCtorEq, reduceIte]
  refine swp_for h (fun i _ st => IV [(0, .p false [.c (.sl 52 4 (List.map eRule append_0))]), (1, .p false [.c (.sl 57 2 (List.map eFact String_1))]), (5, .p false [.c (.sl 56 3 (List.map eMatch v1))]), (6, .p false [.c (.int .i64 ((i : Nat) : Int))])] [] st) [] [] (by decide) ?_ ?_ ?_
  · simp only [go_sem, qa, qb, qc, qd, qe, qf, qg, qh, qi, qj, qk, reduceCtorEq, reduceIte, IV, sts_cons, sts_nil, obs_cons, obs_nil]
  · rintro i33 x34 ⟨⟩ ⟨sl, ob, n⟩ y2 hx3 hI4 hW5 h hy2
    simp only [IV, sts_cons, sts_nil, obs_cons, obs_nil, and_true, true_and, Nat.reduceAdd, str_len] at hI4
    obtain ⟨⟨g6_0, g6_1, g6_5, g6_6⟩, hn⟩ := hI4
    subst hn
    have hlhx3 := WF.slotL hW5 g6_5 (j := 0) rfl
    try simp only [go_sem, qa, qb, qc, qd, qe, qf, qg, qh, qi, qj, qk, reduceCtorEq, reduceIte, hx3, lt_t hx3, lt_p hx3, nat_in (lt_n hx3) hlhx3, g6_0, g6_1, g6_5, g6_6]
    obtain ⟨v35, e7, h⟩ := bind_K h
    refine call_K (by have hh := s_FindRule_ok e7; first | exact hh | (simp only [go_sem, qa, qb, qc, qd, qe, qf, qg, qh, qi, qj, qk, reduceCtorEq, reduceIte, hx3, lt_t hx3, lt_p hx3, nat_in (lt_n hx3) hlhx3, g6_0, g6_1, g6_5, g6_6] at hh; exact hh)) ?_
    obtain ⟨x36, a8, a9, e10, h⟩ := at_K h
    try simp only [go_sem, qa, qb, qc, qd, qe, qf, qg, qh, qi, qj, qk, reduceCtorEq, reduceIte, hx3, lt_t hx3, lt_p hx3, nat_in (lt_n hx3) hlhx3, a8, a9, e10, g6_0, g6_1, g6_5, g6_6]
    refine swp_for h (fun i _ st => IV [(0, .p false [.c (.sl 52 4 (List.map eRule append_0))]), (1, .p false [.c (.sl 57 2 (List.map eFact String_1))]), (5, .p false [.c (.sl 56 3 (List.map eMatch v1))]), (6, .p false [.c (.int .i64 ((i33 : Nat) : Int))]), (7, .bp 0 0), (8, .p false [.c (.int .i64 ((i : Nat) : Int))])] [.box 52 [.c (.str x36.name), .c (.int .i64 x36.priority), .c (.sl 99 5 (List.map eCond x36.cond)), .c (.sl 62 3 (List.map eAction x36.thn))]] st) [] [224] (by decide) ?_ ?_ ?_
    · simp only [go_sem, qa, qb, qc, qd, qe, qf, qg, qh, qi, qj, qk, reduceCtorEq, reduceIte, IV, sts_cons, sts_nil, obs_cons, obs_nil, hx3, lt_t hx3, lt_p hx3, nat_in (lt_n hx3) hlhx3, a8, a9, e10, g6_0, g6_1, g6_5, g6_6]
    · rintro i44 x45 ⟨⟩ ⟨sl, ob, n⟩ y11 hx12 hI13 hW14 h hy11
      simp only [IV, sts_cons, sts_nil, obs_cons, obs_nil, and_true, true_and, Nat.reduceAdd, str_len] at hI13
      obtain ⟨⟨g15_0, g15_1, g15_5, g15_6, g15_7, g15_8⟩, og15_0, hn⟩ := hI13
      subst hn
      have hlhx12 := WF.boxL hW14 og15_0 (j := 3) rfl
      try simp only [go_sem, qa, qb, qc, qd, qe, qf, qg, qh, qi, qj, qk, reduceCtorEq, reduceIte, hx3, lt_t hx3, lt_p hx3, nat_in (lt_n hx3) hlhx3, a8, a9, e10, hx12, lt_t hx12, lt_p hx12, nat_in (lt_n hx12) hlhx12, g15_0, g15_1, g15_5, g15_6, g15_7, g15_8, og15_0]
      obtain ⟨v46, e16, h⟩ := bind_K h
      refine call_K (by have hh := s_Instance_ok e16; first | exact hh | (simp only [go_sem, qa, qb, qc, qd, qe, qf, qg, qh, qi, qj, qk, reduceCtorEq, reduceIte, hx3, lt_t hx3, lt_p hx3, nat_in (lt_n hx3) hlhx3, a8, a9, e10, hx12, lt_t hx12, lt_p hx12, nat_in (lt_n hx12) hlhx12, g15_0, g15_1, g15_5, g15_6, g15_7, g15_8, og15_0] at hh; exact hh)) ?_
      try simp only [go_sem, qa, qb, qc, qd, qe, qf, qg, qh, qi, qj, qk, reduceCtorEq, reduceIte, hx3, lt_t hx3, lt_p hx3, nat_in (lt_n hx3) hlhx3, a8, a9, e10, hx12, lt_t hx12, lt_p hx12, nat_in (lt_n hx12) hlhx12, g15_0, g15_1, g15_5, g15_6, g15_7, g15_8, og15_0]
      refine ite_K h (fun c17 h => ?_) (fun c17 h => ?_)
      · try simp only [go_sem, qa, qb, qc, qd, qe, qf, qg, qh, qi, qj, qk, reduceCtorEq, reduceIte, hx3, lt_t hx3, lt_p hx3, nat_in (lt_n hx3) hlhx3, a8, a9, e10, hx12, lt_t hx12, lt_p hx12, nat_in (lt_n hx12) hlhx12, c17, g15_0, g15_1, g15_5, g15_6, g15_7, g15_8, og15_0]
        refine ite_K h (fun c18 h => ?_) (fun c18 h => ?_)
        · try simp only [go_sem, qa, qb, qc, qd, qe, qf, qg, qh, qi, qj, qk, reduceCtorEq, reduceIte, hx3, lt_t hx3, lt_p hx3, nat_in (lt_n hx3) hlhx3, a8, a9, e10, hx12, lt_t hx12, lt_p hx12, nat_in (lt_n hx12) hlhx12, c17, c18, g15_0, g15_1, g15_5, g15_6, g15_7, g15_8, og15_0]
          obtain ⟨v47, e19, h⟩ := bind_K h
          refine call_K (by have hh := s_FindFact_ok e19; first | exact hh | (simp only [go_sem, qa, qb, qc, qd, qe, qf, qg, qh, qi, qj, qk, reduceCtorEq, reduceIte, hx3, lt_t hx3, lt_p hx3, nat_in (lt_n hx3) hlhx3, a8, a9, e10, hx12, lt_t hx12, lt_p hx12, nat_in (lt_n hx12) hlhx12, c17, c18, g15_0, g15_1, g15_5, g15_6, g15_7, g15_8, og15_0] at hh; exact hh)) ?_
          try simp only [go_sem, qa, qb, qc, qd, qe, qf, qg, qh, qi, qj, qk, reduceCtorEq, reduceIte, hx3, lt_t hx3, lt_p hx3, nat_in (lt_n hx3) hlhx3, a8, a9, e10, hx12, lt_t hx12, lt_p hx12, nat_in (lt_n hx12) hlhx12, c17, c18, g15_0, g15_1, g15_5, g15_6, g15_7, g15_8, og15_0]
          refine ite_K h (fun c20 h => ?_) (fun c20 h => ?_)
          · replace h := inr_K h hy11
            replace h := inr_K h hy2
            obtain rfl := Option.some.inj h
            try simp only [go_sem, qa, qb, qc, qd, qe, qf, qg, qh, qi, qj, qk, reduceCtorEq, reduceIte, hx3, lt_t hx3, lt_p hx3, nat_in (lt_n hx3) hlhx3, a8, a9, e10, hx12, lt_t hx12, lt_p hx12, nat_in (lt_n hx12) hlhx12, c17, c18, c20, g15_0, g15_1, g15_5, g15_6, g15_7, g15_8, og15_0]
          · try simp only [go_sem, qa, qb, qc, qd, qe, qf, qg, qh, qi, qj, qk, reduceCtorEq, reduceIte, hx3, lt_t hx3, lt_p hx3, nat_in (lt_n hx3) hlhx3, a8, a9, e10, hx12, lt_t hx12, lt_p hx12, nat_in (lt_n hx12) hlhx12, c17, c18, c20, g15_0, g15_1, g15_5, g15_6, g15_7, g15_8, og15_0]
            refine ⟨_, [], [0], (Option.some.inj h).symm, by decide, ?_⟩
            try simp only [go_sem, qa, qb, qc, qd, qe, qf, qg, qh, qi, qj, qk, reduceCtorEq, reduceIte, hx3, lt_t hx3, lt_p hx3, nat_in (lt_n hx3) hlhx3, a8, a9, e10, hx12, lt_t hx12, lt_p hx12, nat_in (lt_n hx12) hlhx12, c17, c18, c20, g15_0, g15_1, g15_5, g15_6, g15_7, g15_8, og15_0, IV, sts_cons, sts_nil, obs_cons, obs_nil]
        · try simp only [go_sem, qa, qb, qc, qd, qe, qf, qg, qh, qi, qj, qk, reduceCtorEq, reduceIte, hx3, lt_t hx3, lt_p hx3, nat_in (lt_n hx3) hlhx3, a8, a9, e10, hx12, lt_t hx12, lt_p hx12, nat_in (lt_n hx12) hlhx12, c17, c18, g15_0, g15_1, g15_5, g15_6, g15_7, g15_8, og15_0]
          refine ⟨_, [], [0], (Option.some.inj h).symm, by decide, ?_⟩
          try simp only [go_sem, qa, qb, qc, qd, qe, qf, qg, qh, qi, qj, qk, reduceCtorEq, reduceIte, hx3, lt_t hx3, lt_p hx3, nat_in (lt_n hx3) hlhx3, a8, a9, e10, hx12, lt_t hx12, lt_p hx12, nat_in (lt_n hx12) hlhx12, c17, c18, g15_0, g15_1, g15_5, g15_6, g15_7, g15_8, og15_0, IV, sts_cons, sts_nil, obs_cons, obs_nil]
      · try simp only [go_sem, qa, qb, qc, qd, qe, qf, qg, qh, qi, qj, qk, reduceCtorEq, reduceIte, hx3, lt_t hx3, lt_p hx3, nat_in (lt_n hx3) hlhx3, a8, a9, e10, hx12, lt_t hx12, lt_p hx12, nat_in (lt_n hx12) hlhx12, c17, g15_0, g15_1, g15_5, g15_6, g15_7, g15_8, og15_0]
        refine ⟨_, [], [0], (Option.some.inj h).symm, by decide, ?_⟩
        try simp only [go_sem, qa, qb, qc, qd, qe, qf, qg, qh, qi, qj, qk, reduceCtorEq, reduceIte, hx3, lt_t hx3, lt_p hx3, nat_in (lt_n hx3) hlhx3, a8, a9, e10, hx12, lt_t hx12, lt_p hx12, nat_in (lt_n hx12) hlhx12, c17, g15_0, g15_1, g15_5, g15_6, g15_7, g15_8, og15_0, IV, sts_cons, sts_nil, obs_cons, obs_nil]
    · rintro ⟨⟩ ⟨sl, ob, n⟩ hI21 hW22 h
      simp only [IV, sts_cons, sts_nil, obs_cons, obs_nil, and_true, true_and, Nat.reduceAdd, str_len] at hI21
      obtain ⟨⟨g23_0, g23_1, g23_5, g23_6, g23_7, g23_8⟩, og23_0, hn⟩ := hI21
      subst hn
      try simp only [go_sem, qa, qb, qc, qd, qe, qf, qg, qh, qi, qj, qk, reduceCtorEq, reduceIte, hx3, lt_t hx3, lt_p hx3, nat_in (lt_n hx3) hlhx3, a8, a9, e10, lt_f (x36.thn.length), g23_0, g23_1, g23_5, g23_6, g23_7, g23_8, og23_0]
      refine ⟨_, [], [], (Option.some.inj h).symm, by decide, ?_⟩
      try simp only [go_sem, qa, qb, qc, qd, qe, qf, qg, qh, qi, qj, qk, reduceCtorEq, reduceIte, hx3, lt_t hx3, lt_p hx3, nat_in (lt_n hx3) hlhx3, a8, a9, e10, lt_f (x36.thn.length), g23_0, g23_1, g23_5, g23_6, g23_7, g23_8, og23_0, IV, sts_cons, sts_nil, obs_cons, obs_nil]
  · rintro ⟨⟩ ⟨sl, ob, n⟩ hI24 hW25 h
    simp only [IV, sts_cons, sts_nil, obs_cons, obs_nil, and_true, true_and, Nat.reduceAdd, str_len] at hI24
    obtain ⟨⟨g26_0, g26_1, g26_5, g26_6⟩, hn⟩ := hI24
    subst hn
    try simp only [go_sem, qa, qb, qc, qd, qe, qf, qg, qh, qi, qj, qk, reduceCtorEq, reduceIte, lt_f (v1.length), g26_0, g26_1, g26_5, g26_6]
    obtain ⟨v48, e27, h⟩ := bind_K h
    refine call_K (by have hh := s_AreRules_ok e27; first | exact hh | (simp only [go_sem, qa, qb, qc, qd, qe, qf, qg, qh, qi, qj, qk, reduceCtorEq, reduceIte, lt_f (v1.length), g26_0, g26_1, g26_5, g26_6] at hh; exact hh)) ?_
    try simp only [go_sem, qa, qb, qc, qd, qe, qf, qg, qh, qi, qj, qk, reduceCtorEq, reduceIte, lt_f (v1.length), g26_0, g26_1, g26_5, g26_6]
    refine ite_K h (fun c28 h => ?_) (fun c28 h => ?_)
    · try simp only [go_sem, qa, qb, qc, qd, qe, qf, qg, qh, qi, qj, qk, reduceCtorEq, reduceIte, lt_f (v1.length), c28, g26_0, g26_1, g26_5, g26_6]
      obtain ⟨v49, e29, h⟩ := bind_K h
      refine call_K (by have hh := s_AreFacts_ok e29; first | exact hh | (simp only [go_sem, qa, qb, qc, qd, qe, qf, qg, qh, qi, qj, qk, reduceCtorEq, reduceIte, lt_f (v1.length), c28, g26_0, g26_1, g26_5, g26_6] at hh; exact hh)) ?_
      obtain rfl := Option.some.inj h
      try simp only [go_sem, qa, qb, qc, qd, qe, qf, qg, qh, qi, qj, qk, reduceCtorEq, reduceIte, lt_f (v1.length), c28, g26_0, g26_1, g26_5, g26_6]
    · obtain rfl := Option.some.inj h
      try simp only [go_sem, qa, qb, qc, qd, qe, qf, qg, qh, qi, qj, qk, reduceCtorEq, reduceIte, lt_f (v1.length), c28, g26_0, g26_1, g26_5, g26_6]
end Go.Proofs.YtlkgkkacnoaeaaaGreatDoor

namespace Go.Proofs.YtlkgkkacnoaeaaaGreatDoor
open Go.RowKit
/-- a codec and trees say the same -/
structure Enc {α : Type} (c : Codec α) (f : α → List CT) : Prop where
  to : ∀ {w : World} {cs : List Value} {x : α} {L : List Nat}, c.rep w cs x L → RCs w (f x) cs L
  of : ∀ {w : World} {cs : List Value} {x : α} {L : List Nat}, RCs w (f x) cs L → c.rep w cs x L
section
variable {α : Type} {c : Codec α} {f : α → List CT} {w : World}
theorem Enc.reps (h : Enc c f) : ∀ {ds : List α} {xs : List Value} {L : List Nat}, c.reps w xs ds L → REs w c.size (ds.map f) xs L
  | [], _, _, h1 => h1
  | _ :: _, _, _, ⟨c1, c2, L1, L2, h1, h2, h3, h4⟩ => ⟨c1, c2, L1, L2, h1, h2, ⟨h.to h3, c.len h3⟩, h.reps h4⟩
theorem Enc.reps_of (h : Enc c f) : ∀ {ds : List α} {xs : List Value} {L : List Nat}, REs w c.size (ds.map f) xs L → c.reps w xs ds L
  | [], _, _, h1 => h1
  | _ :: _, _, _, ⟨c1, c2, L1, L2, h1, h2, h3, h4⟩ => ⟨c1, c2, L1, L2, h1, h2, h.of h3.1, h.reps_of h4⟩
theorem Enc.sl (h : Enc c f) (e : Nat) {v : Value} {ds : List α} {L : List Nat} : (sliceC c).rep w [v] ds L ↔ RC w (.sl e c.size (ds.map f)) v L := by
  constructor
  · rintro ⟨A, cap, hv, h1, h2, xs, L0, L1, hL, h3, h4⟩
    obtain rfl : v = _ := by simpa using hv
    exact ⟨A, cap, xs, L0, L1, by simp, by simpa using h1, h2, hL, c.pos, by simpa using h3, h.reps h4⟩
  · rintro ⟨A, cap, xs, L0, L1, hv, h1, h2, hL, h0, h3, h4⟩
    exact ⟨A, cap, by simpa using hv, by simpa using h1, h2, xs, L0, L1, hL, by simpa using h3, h.reps_of h4⟩
theorem RCs.solo {x : CT} {v : Value} {L : List Nat} (h : RC w x v L) : RCs w [x] [v] L := ⟨v, [], L, [], rfl, by simp, h, rfl, rfl⟩
theorem RCs.more {x : CT} {v : Value} {L M : List Nat} {r : List CT} {cs : List Value} (h : RC w x v L) (k : RCs w r cs M) : RCs w (x :: r) (v :: cs) (L ++ M) := ⟨v, cs, L, M, rfl, rfl, h, k⟩
theorem Enc.slice (h : Enc c f) (e : Nat) : Enc (sliceC c) (fun l => [.sl e c.size (l.map f)]) where
  to := fun {w cs x L} hr => by
    obtain ⟨A, cap, rfl, h1⟩ := id hr
    exact RCs.solo ((h.sl e).1 hr)
  of := fun {w cs x L} hr => by
    obtain ⟨v, cs', L1, L2, rfl, rfl, h1, rfl, rfl⟩ := hr
    rw [List.append_nil]
    exact (h.sl e).2 h1
end
theorem encStr : Enc strC eStr where
  to := fun ⟨h1, h2, h3⟩ => by subst h1; subst h2; exact RCs.solo ⟨rfl, rfl, h3⟩
  of := fun ⟨v, cs', L1, L2, h1, h2, h3, h4, h5⟩ => by
    obtain ⟨rfl, rfl, t⟩ := h3
    subst h4; subst h5; exact ⟨h1, h2, t⟩
/-- an argument; nothing is written to in the meantime -/
def Arg0 (w : World) : Bool × List CT → Value → Prop := ArgR w fun _ => False
theorem arg_sl {α : Type} {c : Codec α} {f : α → List CT} (h : Enc c f) (e : Nat) {w : World} {v : Value} {ds : List α} {L : List Nat} (hr : (sliceC c).rep w [v] ds L) : Arg0 w (false, [.sl e c.size (ds.map f)]) v := .inr ⟨rfl, _, L, rfl, (h.sl e).1 hr, fun _ _ h => h⟩
section
variable {w w' : World} {v : Value} {e : Ending}
theorem res_one {B : Nat} {n : Nat → Prop} {x : RT} (h : ResR w B n [x] v) : ∃ F, OP w B n x v F ∧ Own w B F := by
  obtain ⟨vs, F, ⟨u, vs', F1, F2, rfl, rfl, h1, rfl, rfl⟩, h2, rfl⟩ := h
  rw [List.append_nil] at h2
  exact ⟨F1, by simpa using h1, h2⟩
theorem res_bool {b : Bool} {B : Nat} {m : Nat → Prop} (hr : ResR w B m [(false, [(false, .bool b)])] v) : v = .bool b := by
  obtain ⟨F, h1, h2⟩ := res_one hr
  rcases h1 with ⟨h1, _⟩ | ⟨_, ct, h1, h3⟩
  · simp at h1
  · obtain rfl : _ = ct := by simpa using h1
    exact h3.1.1
end
section
variable {P : Program} {J : World → Prop} {f : FuncId} {args : List (Bool × List CT)} {res : List RT}
theorem Sound.calls (h : Sound P J f args res) {w : World} {vs : List Value} (hj : J w) (ha : All2 (Arg0 w) args vs) : Calls P f vs.toArray w fun e w' => ∃ v n, e = .returned v ∧ ResR w' w.heap.size n res v ∧ Below w.heap.size w w' :=
  (h.2 w (fun _ => False) vs hj (fun _ h => h.elim) ha).mono fun _ _ ⟨v, n, h1, h2, _, h3⟩ => ⟨v, n, h1, h2, h3⟩
theorem Sound.givesB {b : Bool} (h : Sound P J f args [(false, [(false, .bool b)])]) {w : World} {vs : List Value} (hj : J w) (ha : All2 (Arg0 w) args vs) : Calls P f vs.toArray w fun e w' => e = .returned (.bool b) ∧ Below w.heap.size w w' :=
  (h.calls hj ha).mono fun _ _ ⟨v, _, h1, h2, h3⟩ => ⟨by rw [h1, res_bool h2], h3⟩
end
end Go.Proofs.YtlkgkkacnoaeaaaGreatDoor
