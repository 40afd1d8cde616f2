/- Texts of this proof, joined: Dp3, Dp4, Dp5, Dp6, Dp7, Dp8, Dp9, Dp10, Dp11, Dp12, BStd, DE, Sz. What each holds is said at its theorems. -/
import Derived.Test.YtlkgkkacnoaeaaaGreatDoorPossibleFactsQ4
import Derived.Test.YtlkgkkacnoaeaaaGreatDoorPossibleFactsQ3
import Derived.Test.YtlkgkkacnoaeaaaGreatDoorPossibleFactsQ1
import Derived.Test.YtlkgkkacnoaeaaaGreatDoorProg
import Derived.Outline
import Derived.WalkSpells
import Derived.StillTailTactics
set_option linter.unusedSimpArgs false
set_option linter.unusedVariables false
namespace Go.Proofs.YtlkgkkacnoaeaaaGreatDoor
open Go.Proofs.Tryz
set_option linter.unusedSimpArgs false
set_option linter.unusedVariables false
set_option maxRecDepth 1000000
set_option maxHeartbeats 4000000
theorem s_VarsOf_ok {p_0 : PatternD} {r : (List ByteArray)} (h : s_VarsOf p_0 = some r) : Sound Tryz.prog J0 102 [(true, ePattern p_0)] [(false, [(false, .sl 9 1 (List.map eStr r))])] := by
  refine fnk Tryz.func102 (by kernel_rfl) rfl (by kernel_rfl) (by kernel_rfl) ?_
  unfold s_VarsOf at h
  simp only [fnS, f102, argSt, go_sem, seval]
  refine swp_for h (fun i row_4 st => IV [(1, .bp 0 0), (3, .p false [.row 1]), (4, .p false [.c (.int .i64 ((i : Nat) : Int))])] [.box 60 [.c (.str p_0.rel), .c (.sl 9 1 (List.map eStr p_0.args))], .row 9 1 (List.map eStr row_4) 2] st) [] [0, 32] (by decide) ?_ ?_ ?_
  · simp only [go_sem, seval, *]
  · rintro i9 x10 row_4 ⟨sl, ob, n⟩ y1 hx2 hI3 hW4 h hy1
    simp only [go_sem, seval, str_len] at hI3
    obtain ⟨⟨g5_1, g5_3, g5_4⟩, og5_0, og5_1, hn⟩ := hI3
    subst hn
    have hlhx2 := WF.boxL hW4 og5_0 (j := 1) rfl
    have q6 := lt_t hx2
    have q7 := lt_p hx2
    have q8 := nat_in (lt_n hx2) hlhx2
    try simp only [go_sem, seval, *]
    obtain ⟨v11, e9, h⟩ := bind_K h
    refine call_K (by have hh := s_IsVar_ok e9; first | exact hh | (simp only [go_sem, *] at hh; exact hh)) ?_
    try simp only [go_sem, seval, *]
    refine ite_K h (fun c10 h => ?_) (fun c10 h => ?_) <;> try simp only [go_sem, seval, *]
    · obtain ⟨v12, e11, h⟩ := bind_K h
      refine call_K (by have hh := s_l1Put_ok e11; first | exact hh | (simp only [go_sem, *] at hh; exact hh)) ?_
      try simp only [go_sem, seval, *]
      refine ⟨_, [], [0, 274], (Option.some.inj h).symm, by decide, ?_⟩
      try simp only [go_sem, seval, *]
    · refine ⟨_, [], [0, 1], (Option.some.inj h).symm, by decide, ?_⟩
      try simp only [go_sem, seval, *]
  · rintro row_4 ⟨sl, ob, n⟩ hI12 hW13 h
    simp only [go_sem, seval, str_len] at hI12
    obtain ⟨⟨g14_1, g14_3, g14_4⟩, og14_0, og14_1, hn⟩ := hI12
    subst hn
    have q15 := lt_f (p_0.args.length)
    obtain rfl := Option.some.inj h
    try simp only [go_sem, seval, *]
theorem s_IsTerm_ok {s_0 : ByteArray} {r : Bool} (h : s_IsTerm s_0 = some r) : Sound Tryz.prog J0 89 [(false, [.str s_0])] [(false, [(false, .bool r)])] := by
  refine fnk Tryz.func89 (by kernel_rfl) rfl (by kernel_rfl) (by kernel_rfl) ?_
  unfold s_IsTerm at h
  simp only [fnS, f89, argSt, go_sem, seval]
  obtain ⟨v1, e1, h⟩ := bind_K h
  refine call_K (by have hh := s_IsAtom_ok e1; first | exact hh | (simp only [go_sem, *] at hh; exact hh)) ?_
  try simp only [go_sem, seval, *]
  refine ite_K h (fun c2 h => ?_) (fun c2 h => ?_) <;> try simp only [go_sem, seval, *]
  · obtain rfl := Option.some.inj h
    try simp only [go_sem, seval, *]
  · obtain ⟨v2, e3, h⟩ := bind_K h
    refine call_K (by have hh := s_IsVar_ok e3; first | exact hh | (simp only [go_sem, *] at hh; exact hh)) ?_
    obtain rfl := Option.some.inj h
    try simp only [go_sem, seval, *]
theorem s_IsFact_ok {f_0 : FactD} {r : Bool} (h : s_IsFact f_0 = some r) : Sound Tryz.prog J0 59 [(true, eFact f_0)] [(false, [(false, .bool r)])] := by
  refine fnk Tryz.func59 (by kernel_rfl) rfl (by kernel_rfl) (by kernel_rfl) ?_
  unfold s_IsFact at h
  simp only [fnS, f59, argSt, go_sem, seval]
  refine swp_for h (fun i _ st => IV [(1, .bp 0 0), (3, .p false [.c (.int .i64 ((i : Nat) : Int))])] [.box 57 [.c (.str f_0.rel), .c (.sl 9 1 (List.map eStr f_0.args))]] st) [] [0] (by decide) ?_ ?_ ?_
  · simp only [go_sem, seval, *]
  · rintro i7 x8 ⟨⟩ ⟨sl, ob, n⟩ y1 hx2 hI3 hW4 h hy1
    simp only [go_sem, seval, str_len] at hI3
    obtain ⟨⟨g5_1, g5_3⟩, og5_0, hn⟩ := hI3
    subst hn
    have hlhx2 := WF.boxL hW4 og5_0 (j := 1) rfl
    have q6 := lt_t hx2
    have q7 := lt_p hx2
    have q8 := nat_in (lt_n hx2) hlhx2
    try simp only [go_sem, seval, *]
    obtain ⟨v9, e9, h⟩ := bind_K h
    refine call_K (by have hh := s_IsAtom_ok e9; first | exact hh | (simp only [go_sem, *] at hh; exact hh)) ?_
    try simp only [go_sem, seval, *]
    refine ite_K h (fun c10 h => ?_) (fun c10 h => ?_) <;> try simp only [go_sem, seval, *]
    · refine ⟨_, [], [0], (Option.some.inj h).symm, by decide, ?_⟩
      try simp only [go_sem, seval, *]
    · replace h := inr_K h hy1
      obtain rfl := Option.some.inj h
      try simp only [go_sem, seval, *]
  · rintro ⟨⟩ ⟨sl, ob, n⟩ hI11 hW12 h
    simp only [go_sem, seval, str_len] at hI11
    obtain ⟨⟨g13_1, g13_3⟩, og13_0, hn⟩ := hI11
    subst hn
    have q14 := lt_f (f_0.args.length)
    try simp only [go_sem, seval, *]
    obtain ⟨v10, e15, h⟩ := bind_K h
    refine call_K (by have hh := s_IsName_ok e15; first | exact hh | (simp only [go_sem, *] at hh; exact hh)) ?_
    try simp only [go_sem, seval, *]
    refine ite_K h (fun c16 h => ?_) (fun c16 h => ?_) <;> try simp only [go_sem, seval, *]
    · obtain rfl := Option.some.inj h
      try simp only [go_sem, seval, *]
    · obtain rfl := Option.some.inj h
      try simp only [go_sem, seval, *]
theorem s_CompareFacts_ok {a_0 : FactD} {b_1 : FactD} {r : Int} (h : s_CompareFacts a_0 b_1 = some r) : Sound Tryz.prog J0 60 [(true, eFact a_0), (true, eFact b_1)] [(false, [(false, .int .i64 r)])] := by
  refine fnk Tryz.func60 (by kernel_rfl) rfl (by kernel_rfl) (by kernel_rfl) ?_
  unfold s_CompareFacts at h
  simp only [fnS, f60, argSt, go_sem, seval]
  refine ite_K h (fun c1 h => ?_) (fun c1 h => ?_) <;> try simp only [go_sem, seval, *]
  · refine swp_for h (fun i _ st => IV [(2, .bp 0 0), (3, .bp 1 0), (5, .p false [.c (.int .i64 ((i : Nat) : Int))])] [.box 57 [.c (.str a_0.rel), .c (.sl 9 1 (List.map eStr a_0.args))], .box 57 [.c (.str b_1.rel), .c (.sl 9 1 (List.map eStr b_1.args))]] st) [] [0, 16] (by decide) ?_ ?_ ?_
    · simp only [go_sem, seval, *]
    · rintro i8 x9 ⟨⟩ ⟨sl, ob, n⟩ y2 hx3 hI4 hW5 h hy2
      simp only [go_sem, seval, str_len] at hI4
      obtain ⟨⟨g6_2, g6_3, g6_5⟩, og6_0, og6_1, hn⟩ := hI4
      subst hn
      have hlhx3 := WF.boxL hW5 og6_0 (j := 1) rfl
      have q7 := lt_t hx3
      have q8 := lt_p hx3
      have q9 := nat_in (lt_n hx3) hlhx3
      try simp only [go_sem, seval, *]
      refine ite_K h (fun c10 h => ?_) (fun c10 h => ?_) <;> try simp only [go_sem, seval, *]
      · obtain ⟨x10, a11, a12, e13, h⟩ := at_K h
        simp only [Int.toNat_natCast] at e13
        try simp only [go_sem, seval, *]
        obtain ⟨v11, e14, h⟩ := bind_K h
        refine call_K (by have hh := s_CompareAtoms_ok e14; first | exact hh | (simp only [go_sem, *] at hh; exact hh)) ?_
        try simp only [go_sem, seval, *]
        refine ite_K h (fun c15 h => ?_) (fun c15 h => ?_) <;> try simp only [go_sem, seval, *]
        · replace h := inr_K h hy2
          obtain rfl := Option.some.inj h
          try simp only [go_sem, seval, *]
        · refine ⟨_, [], [0, 1], (Option.some.inj h).symm, by decide, ?_⟩
          try simp only [go_sem, seval, *]
      · refine ite_K h (fun c16 h => ?_) (fun c16 h => ?_) <;> try simp only [go_sem, seval, *]
        · replace h := inr_K h hy2
          obtain rfl := Option.some.inj h
          try simp only [go_sem, seval, *]
        · refine ite_K h (fun c17 h => ?_) (fun c17 h => ?_) <;> try simp only [go_sem, seval, *]
          · replace h := inr_K h hy2
            obtain rfl := Option.some.inj h
            try simp only [go_sem, seval, *]
          · replace h := inr_K h hy2
            obtain rfl := Option.some.inj h
            try simp only [go_sem, seval, *]
    · rintro ⟨⟩ ⟨sl, ob, n⟩ hI18 hW19 h
      simp only [go_sem, seval, str_len] at hI18
      obtain ⟨⟨g20_2, g20_3, g20_5⟩, og20_0, og20_1, hn⟩ := hI18
      subst hn
      have q21 := lt_f (a_0.args.length)
      try simp only [go_sem, seval, *]
      refine ite_K h (fun c22 h => ?_) (fun c22 h => ?_) <;> try simp only [go_sem, seval, *]
      · obtain rfl := Option.some.inj h
        try simp only [go_sem, seval, *]
      · refine ite_K h (fun c23 h => ?_) (fun c23 h => ?_) <;> try simp only [go_sem, seval, *]
        · obtain rfl := Option.some.inj h
          try simp only [go_sem, seval, *]
        · obtain rfl := Option.some.inj h
          try simp only [go_sem, seval, *]
  · obtain ⟨v12, e24, h⟩ := bind_K h
    refine call_K (by have hh := s_l1Cmp_ok e24; first | exact hh | (simp only [go_sem, *] at hh; exact hh)) ?_
    obtain rfl := Option.some.inj h
    try simp only [go_sem, seval, *]
theorem s_IsBinding_ok {b_0 : (List PairD)} {r : Bool} (h : s_IsBinding b_0 = some r) : Sound Tryz.prog J0 55 [(false, [.sl 119 2 (List.map ePair b_0)])] [(false, [(false, .bool r)])] := by
  refine fnk Tryz.func55 (by kernel_rfl) rfl (by kernel_rfl) (by kernel_rfl) ?_
  unfold s_IsBinding at h
  simp only [fnS, f55, argSt, go_sem, seval]
  refine swp_for h (fun i _ st => IV [(0, .p false [.c (.sl 119 2 (List.map ePair b_0))]), (3, .p false [.c (.int .i64 ((i : Nat) : Int))])] [] st) [] [] (by decide) ?_ ?_ ?_
  · simp only [go_sem, seval, *]
  · rintro i9 x10 ⟨⟩ ⟨sl, ob, n⟩ y1 hx2 hI3 hW4 h hy1
    simp only [go_sem, seval, str_len] at hI3
    obtain ⟨⟨g5_0, g5_3⟩, hn⟩ := hI3
    subst hn
    have hlhx2 := WF.slotL hW4 g5_0 (j := 0) rfl
    have q6 := lt_t hx2
    have q7 := lt_p hx2
    have q8 := nat_in (lt_n hx2) hlhx2
    try simp only [go_sem, seval, *]
    obtain ⟨v11, e9, h⟩ := bind_K h
    refine call_K (by have hh := s_IsVar_ok e9; first | exact hh | (simp only [go_sem, *] at hh; exact hh)) ?_
    try simp only [go_sem, seval, *]
    refine ite_K h (fun c10 h => ?_) (fun c10 h => ?_) <;> try simp only [go_sem, seval, *]
    · obtain ⟨v12, e11, h⟩ := bind_K h
      refine call_K (by have hh := s_IsAtom_ok e11; first | exact hh | (simp only [go_sem, *] at hh; exact hh)) ?_
      try simp only [go_sem, seval, *]
      refine ite_K h (fun c12 h => ?_) (fun c12 h => ?_) <;> try simp only [go_sem, seval, *]
      · refine ite_K h (fun c13 h => ?_) (fun c13 h => ?_) <;> try simp only [go_sem, seval, *]
        · obtain ⟨x13, a14, a15, e16, h⟩ := at_K h
          try simp only [go_sem, seval, *]
          refine ite_K h (fun c17 h => ?_) (fun c17 h => ?_) <;> try simp only [go_sem, seval, *]
          · refine ⟨_, [], [], (Option.some.inj h).symm, by decide, ?_⟩
            try simp only [go_sem, seval, *]
          · replace h := inr_K h hy1
            obtain rfl := Option.some.inj h
            try simp only [go_sem, seval, *]
        · refine ⟨_, [], [], (Option.some.inj h).symm, by decide, ?_⟩
          try simp only [go_sem, seval, *]
      · replace h := inr_K h hy1
        obtain rfl := Option.some.inj h
        try simp only [go_sem, seval, *]
    · replace h := inr_K h hy1
      obtain rfl := Option.some.inj h
      try simp only [go_sem, seval, *]
  · rintro ⟨⟩ ⟨sl, ob, n⟩ hI18 hW19 h
    simp only [go_sem, seval, str_len] at hI18
    obtain ⟨⟨g20_0, g20_3⟩, hn⟩ := hI18
    subst hn
    have q21 := lt_f (b_0.length)
    obtain rfl := Option.some.inj h
    try simp only [go_sem, seval, *]
theorem s_ValueOf_ok {b_0 : (List PairD)} {term_1 : ByteArray} {r : (ByteArray × Bool)} (h : s_ValueOf b_0 term_1 = some r) : Sound Tryz.prog J0 56 [(false, [.sl 119 2 (List.map ePair b_0)]), (false, [.str term_1])] [(false, [(false, .str r.1)]), (false, [(false, .bool r.2)])] := by
  refine fnk Tryz.func56 (by kernel_rfl) rfl (by kernel_rfl) (by kernel_rfl) ?_
  unfold s_ValueOf at h
  have ks0 : strOk ⟨#[]⟩ = true := by decide
  simp only [fnS, f56, argSt, go_sem, seval, ks0]
  obtain ⟨v1, e1, h⟩ := bind_K h
  refine call_K (by have hh := s_IsAtom_ok e1; first | exact hh | (simp only [go_sem, *] at hh; exact hh)) ?_
  try simp only [go_sem, seval, *]
  refine ite_K h (fun c2 h => ?_) (fun c2 h => ?_) <;> try simp only [go_sem, seval, *]
  · obtain rfl := Option.some.inj h
    try simp only [go_sem, seval, *]
  · refine swp_for h (fun i _ st => IV [(0, .p false [.c (.sl 119 2 (List.map ePair b_0))]), (1, .p false [.c (.str term_1)]), (6, .p false [.c (.int .i64 ((i : Nat) : Int))])] [] st) [] [] (by decide) ?_ ?_ ?_
    · simp only [go_sem, seval, *]
    · rintro i7 x8 ⟨⟩ ⟨sl, ob, n⟩ y3 hx4 hI5 hW6 h hy3
      simp only [go_sem, seval, str_len] at hI5
      obtain ⟨⟨g7_0, g7_1, g7_6⟩, hn⟩ := hI5
      subst hn
      have hlhx4 := WF.slotL hW6 g7_0 (j := 0) rfl
      have q8 := lt_t hx4
      have q9 := lt_p hx4
      have q10 := nat_in (lt_n hx4) hlhx4
      try simp only [go_sem, seval, *]
      refine ite_K h (fun c11 h => ?_) (fun c11 h => ?_) <;> try simp only [go_sem, seval, *]
      · obtain ⟨v9, e12, h⟩ := bind_K h
        refine call_K (by have hh := s_IsVar_ok e12; first | exact hh | (simp only [go_sem, *] at hh; exact hh)) ?_
        try simp only [go_sem, seval, *]
        refine ite_K h (fun c13 h => ?_) (fun c13 h => ?_) <;> try simp only [go_sem, seval, *]
        · replace h := inr_K h hy3
          obtain rfl := Option.some.inj h
          try simp only [go_sem, seval, *]
        · refine ⟨_, [], [], (Option.some.inj h).symm, by decide, ?_⟩
          try simp only [go_sem, seval, *]
      · refine ⟨_, [], [], (Option.some.inj h).symm, by decide, ?_⟩
        try simp only [go_sem, seval, *]
    · rintro ⟨⟩ ⟨sl, ob, n⟩ hI14 hW15 h
      simp only [go_sem, seval, str_len] at hI14
      obtain ⟨⟨g16_0, g16_1, g16_6⟩, hn⟩ := hI14
      subst hn
      have q17 := lt_f (b_0.length)
      obtain rfl := Option.some.inj h
      try simp only [go_sem, seval, *]
theorem s_l6Copy_ok {t_0 : TokenD} {r : TokenD} (h : s_l6Copy t_0 = some r) : Sound Tryz.prog J0 131 [(true, eToken t_0)] [(true, [(false, .sl 57 2 (List.map eFact r.facts)), (false, .sl 119 2 (List.map ePair r.binding))])] := by
  refine fnk Tryz.func131 (by kernel_rfl) rfl (by kernel_rfl) (by kernel_rfl) ?_
  unfold s_l6Copy at h
  simp only [fnS, f131, argSt, go_sem, seval]
  obtain ⟨v1, e1, h⟩ := bind_K h
  refine call_K (by have hh := s_l2Copies_ok e1; first | exact hh | (simp only [go_sem, *] at hh; exact hh)) ?_
  try simp only [go_sem, seval, *]
  obtain ⟨v2, e2, h⟩ := bind_K h
  refine call_K (by have hh := s_l3Copy_ok e2; first | exact hh | (simp only [go_sem, *] at hh; exact hh)) ?_
  obtain rfl := Option.some.inj h
  try simp only [go_sem, seval, *]
theorem i_IsPattern_ok {p_0 : PatternD} {r : Bool} (h : i_IsPattern p_0 = some r) : Sound Tryz.prog J0 68 [(true, ePattern p_0)] [(false, [(false, .bool r)])] := by
  refine fnk Tryz.func68 (by kernel_rfl) rfl (by kernel_rfl) (by kernel_rfl) ?_
  unfold i_IsPattern at h
  simp only [fnS, f68, argSt, go_sem, seval]
  obtain ⟨v1, e1, h⟩ := bind_K h
  refine call_K (by have hh := i_IsName_ok e1; first | exact hh | (simp only [go_sem, *] at hh; exact hh)) ?_
  try simp only [go_sem, seval, *]
  refine ite_K h (fun c2 h => ?_) (fun c2 h => ?_) <;> try simp only [go_sem, seval, *]
  · refine ite_K h (fun c3 h => ?_) (fun c3 h => ?_) <;> try simp only [go_sem, seval, *]
    · obtain rfl := Option.some.inj h
      try simp only [go_sem, seval, *]
    · refine swp_for h (fun i _ st => IV [(16, .p false [.c (.sl 9 1 (List.map eStr p_0.args))]), (17, .p false [.c (.int .i64 ((p_0.args.length : Nat) : Int))]), (18, .p false [.c (.int .i64 ((i : Nat) : Int))])] [] st) [] [] (by decide) ?_ ?_ ?_
      · simp only [go_sem, seval, *]
      · rintro i7 x8 ⟨⟩ ⟨sl, ob, n⟩ y4 hx5 hI6 hW7 h hy4
        simp only [go_sem, seval, str_len] at hI6
        obtain ⟨⟨g8_16, g8_17, g8_18⟩, hn⟩ := hI6
        subst hn
        have hlhx5 := WF.slotL hW7 g8_16 (j := 0) rfl
        have q9 := lt_t hx5
        have q10 := lt_p hx5
        have q11 := nat_in (lt_n hx5) hlhx5
        try simp only [go_sem, seval, *]
        obtain ⟨v9, e12, h⟩ := bind_K h
        refine call_K (by have hh := i_IsTerm_ok e12; first | exact hh | (simp only [go_sem, *] at hh; exact hh)) ?_
        try simp only [go_sem, seval, *]
        refine ite_K h (fun c13 h => ?_) (fun c13 h => ?_) <;> try simp only [go_sem, seval, *]
        · refine ⟨_, [], [], (Option.some.inj h).symm, by decide, ?_⟩
          try simp only [go_sem, seval, *]
        · replace h := inr_K h hy4
          obtain rfl := Option.some.inj h
          try simp only [go_sem, seval, *]
      · rintro ⟨⟩ ⟨sl, ob, n⟩ hI14 hW15 h
        simp only [go_sem, seval, str_len] at hI14
        obtain ⟨⟨g16_16, g16_17, g16_18⟩, hn⟩ := hI14
        subst hn
        have q17 := lt_f (p_0.args.length)
        obtain rfl := Option.some.inj h
        try simp only [go_sem, seval, *]
  · obtain rfl := Option.some.inj h
    try simp only [go_sem, seval, *]
theorem i_BoundVars_ok {r_0 : RuleD} {n_1 : Int} {r : (List ByteArray)} (h : i_BoundVars r_0 n_1 = some r) : Sound Tryz.prog J0 111 [(true, eRule r_0), (false, [.int .i64 n_1])] [(false, [(false, .sl 9 1 (List.map eStr r))])] := by
  refine fnk Tryz.func111 (by kernel_rfl) rfl (by kernel_rfl) (by kernel_rfl) ?_
  unfold i_BoundVars at h
  simp only [fnS, f111, argSt, go_sem, seval]
  refine swp_for h (fun i row_5 st => IV [(1, .p false [.c (.int .i64 n_1)]), (5, .p false [.row 0]), (9, .p false [.c (.sl 99 5 (List.map eCond r_0.cond))]), (10, .p false [.c (.int .i64 ((r_0.cond.length : Nat) : Int))]), (11, .p false [.c (.int .i64 ((i : Nat) : Int))])] [.row 9 1 (List.map eStr row_5) 2] st) [(false, 5, 0)] [112] (by decide) ?_ ?_ ?_
  · simp only [go_sem, seval, *]
  · rintro i10 x11 row_5 ⟨sl, ob, n⟩ y1 hx2 hI3 hW4 h hy1
    simp only [go_sem, seval, str_len] at hI3
    obtain ⟨⟨g5_1, g5_5, g5_9, g5_10, g5_11⟩, og5_0, hn⟩ := hI3
    subst hn
    have hlhx2 := WF.slotL hW4 g5_9 (j := 0) rfl
    have q6 := lt_t hx2
    have q7 := lt_p hx2
    have q8 := nat_in (lt_n hx2) hlhx2
    try simp only [go_sem, seval, *]
    refine ite_K h (fun c9 h => ?_) (fun c9 h => ?_) <;> try simp only [go_sem, seval, *]
    · refine ite_K h (fun c10 h => ?_) (fun c10 h => ?_) <;> try simp only [go_sem, seval, *]
      · obtain ⟨v12, e11, h⟩ := bind_K h
        refine call_K (by have hh := i_varsAmong_ok e11; first | exact hh | (simp only [go_sem, *] at hh; exact hh)) ?_
        obtain ⟨p12, h⟩ := chk_K h
        try simp only [Nat.reduceLeDiff] at p12
        try simp only [go_sem, seval, *]
        refine ⟨_, [], [321], (Option.some.inj h).symm, by decide, ?_⟩
        try simp only [go_sem, seval, *]
      · refine ⟨_, [], [0], (Option.some.inj h).symm, by decide, ?_⟩
        try simp only [go_sem, seval, *]
    · refine ⟨_, [], [0], (Option.some.inj h).symm, by decide, ?_⟩
      try simp only [go_sem, seval, *]
  · rintro row_5 ⟨sl, ob, n⟩ hI13 hW14 h
    simp only [go_sem, seval, str_len] at hI13
    obtain ⟨⟨g15_1, g15_5, g15_9, g15_10, g15_11⟩, og15_0, hn⟩ := hI13
    subst hn
    have q16 := lt_f (r_0.cond.length)
    try simp only [go_sem, seval, *]
    obtain ⟨v13, e17, h⟩ := bind_K h
    refine call_K (by have hh := i_SortedTexts_ok e17; first | exact hh | (simp only [go_sem, *] at hh; exact hh)) ?_
    obtain rfl := Option.some.inj h
    try simp only [go_sem, seval, *]
theorem i_CondVars_ok {x_0 : CondD} {r : (List ByteArray)} (h : i_CondVars x_0 = some r) : Sound Tryz.prog J0 134 [(true, eCond x_0)] [(false, [(false, .sl 9 1 (List.map eStr r))])] := by
  refine fnk Tryz.func134 (by kernel_rfl) rfl (by kernel_rfl) (by kernel_rfl) ?_
  unfold i_CondVars at h
  simp only [fnS, f134, argSt, go_sem, seval]
  obtain ⟨v1, e1, h⟩ := bind_K h
  refine call_K (by have hh := i_termsOf_ok e1; first | exact hh | (simp only [go_sem, *] at hh; exact hh)) ?_
  try simp only [go_sem, seval, *]
  obtain ⟨v2, e2, h⟩ := bind_K h
  refine call_K (by have hh := i_varsAmong_ok e2; first | exact hh | (simp only [go_sem, *] at hh; exact hh)) ?_
  try simp only [go_sem, seval, *]
  obtain ⟨v3, e3, h⟩ := bind_K h
  refine call_K (by have hh := i_SortedTexts_ok e3; first | exact hh | (simp only [go_sem, *] at hh; exact hh)) ?_
  obtain rfl := Option.some.inj h
  try simp only [go_sem, seval, *]
theorem i_CompareFacts_ok {a_0 : FactD} {b_1 : FactD} {r : Int} (h : i_CompareFacts a_0 b_1 = some r) : Sound Tryz.prog J0 67 [(true, eFact a_0), (true, eFact b_1)] [(false, [(false, .int .i64 r)])] := by
  refine fnk Tryz.func67 (by kernel_rfl) rfl (by kernel_rfl) (by kernel_rfl) ?_
  unfold i_CompareFacts at h
  simp only [fnS, f67, argSt, go_sem, seval]
  obtain ⟨v1, e1, h⟩ := bind_K h
  refine call_K (by have hh := x_Compare_ok e1; first | exact hh | (simp only [go_sem, *] at hh; exact hh)) ?_
  try simp only [go_sem, seval, *]
  refine ite_K h (fun c2 h => ?_) (fun c2 h => ?_) <;> try simp only [go_sem, seval, *]
  · obtain rfl := Option.some.inj h
    try simp only [go_sem, seval, *]
  · refine swp_for h (fun i _ st => IV [(2, .bp 0 0), (3, .bp 1 0), (6, .p false [.c (.int .i64 ((i : Nat) : Int))])] [.box 57 [.c (.str a_0.rel), .c (.sl 9 1 (List.map eStr a_0.args))], .box 57 [.c (.str b_1.rel), .c (.sl 9 1 (List.map eStr b_1.args))]] st) [] [0, 16] (by decide) ?_ ?_ ?_
    · simp only [go_sem, seval, *]
    · rintro i11 x12 ⟨⟩ ⟨sl, ob, n⟩ y3 hx4 hI5 hW6 h hy3
      simp only [go_sem, seval, str_len] at hI5
      obtain ⟨⟨g7_2, g7_3, g7_6⟩, og7_0, og7_1, hn⟩ := hI5
      subst hn
      have hlhx4 := WF.boxL hW6 og7_0 (j := 1) rfl
      have q8 := lt_t hx4
      have q9 := lt_p hx4
      have q10 := nat_in (lt_n hx4) hlhx4
      try simp only [go_sem, seval, *]
      refine ite_K h (fun c11 h => ?_) (fun c11 h => ?_) <;> try simp only [go_sem, seval, *]
      · obtain ⟨x13, a12, a13, e14, h⟩ := at_K h
        simp only [Int.toNat_natCast] at e14
        try simp only [go_sem, seval, *]
        obtain ⟨v14, e15, h⟩ := bind_K h
        refine call_K (by have hh := i_CompareAtoms_ok e15; first | exact hh | (simp only [go_sem, *] at hh; exact hh)) ?_
        try simp only [go_sem, seval, *]
        refine ite_K h (fun c16 h => ?_) (fun c16 h => ?_) <;> try simp only [go_sem, seval, *]
        · replace h := inr_K h hy3
          obtain rfl := Option.some.inj h
          try simp only [go_sem, seval, *]
        · refine ⟨_, [], [0, 1], (Option.some.inj h).symm, by decide, ?_⟩
          try simp only [go_sem, seval, *]
      · obtain ⟨v15, e17, h⟩ := bind_K h
        refine call_K (by have hh := i_compareInts_ok e17; first | exact hh | (simp only [go_sem, *] at hh; exact hh)) ?_
        replace h := inr_K h hy3
        obtain rfl := Option.some.inj h
        try simp only [go_sem, seval, *]
    · rintro ⟨⟩ ⟨sl, ob, n⟩ hI18 hW19 h
      simp only [go_sem, seval, str_len] at hI18
      obtain ⟨⟨g20_2, g20_3, g20_6⟩, og20_0, og20_1, hn⟩ := hI18
      subst hn
      have q21 := lt_f (a_0.args.length)
      try simp only [go_sem, seval, *]
      obtain ⟨v16, e22, h⟩ := bind_K h
      refine call_K (by have hh := i_compareInts_ok e22; first | exact hh | (simp only [go_sem, *] at hh; exact hh)) ?_
      obtain rfl := Option.some.inj h
      try simp only [go_sem, seval, *]
theorem i_Extend_ok {append_0 : (List PairD)} {String_1 : ByteArray} {a_2 : ByteArray} {r : ((List PairD) × Bool)} (h : i_Extend append_0 String_1 a_2 = some r) : Sound Tryz.prog J0 140 [(false, [.sl 119 2 (List.map ePair append_0)]), (false, [.str String_1]), (false, [.str a_2])] [(false, [(false, .sl 119 2 (List.map ePair r.1))]), (false, [(false, .bool r.2)])] := by
  refine fnk Tryz.func140 (by kernel_rfl) rfl (by kernel_rfl) (by kernel_rfl) ?_
  unfold i_Extend at h
  simp only [fnS, f140, argSt, go_sem, seval]
  obtain ⟨v1, e1, h⟩ := bind_K h
  refine call_K (by have hh := i_IsBinding_ok e1; first | exact hh | (simp only [go_sem, *] at hh; exact hh)) ?_
  try simp only [go_sem, seval, *]
  refine ite_K h (fun c2 h => ?_) (fun c2 h => ?_) <;> try simp only [go_sem, seval, *]
  · obtain ⟨v2, e3, h⟩ := bind_K h
    refine call_K (by have hh := i_IsVar_ok e3; first | exact hh | (simp only [go_sem, *] at hh; exact hh)) ?_
    try simp only [go_sem, seval, *]
    refine ite_K h (fun c4 h => ?_) (fun c4 h => ?_) <;> try simp only [go_sem, seval, *]
    · obtain ⟨v3, e5, h⟩ := bind_K h
      refine call_K (by have hh := i_IsAtom_ok e5; first | exact hh | (simp only [go_sem, *] at hh; exact hh)) ?_
      try simp only [go_sem, seval, *]
      refine ite_K h (fun c6 h => ?_) (fun c6 h => ?_) <;> try simp only [go_sem, seval, *]
      · obtain ⟨v4, e7, h⟩ := bind_K h
        refine call_K (by have hh := i_ValueOf_ok e7; first | exact hh | (simp only [go_sem, *] at hh; exact hh)) ?_
        try simp only [go_sem, seval, *]
        refine ite_K h (fun c8 h => ?_) (fun c8 h => ?_) <;> try simp only [go_sem, seval, *]
        · refine ite_K h (fun c9 h => ?_) (fun c9 h => ?_) <;> try simp only [go_sem, seval, *]
          · obtain ⟨v5, e10, h⟩ := bind_K h
            refine call_K (by have hh := i_copyPairs_ok e10; first | exact hh | (simp only [go_sem, *] at hh; exact hh)) ?_
            obtain rfl := Option.some.inj h
            try simp only [go_sem, seval, *]
          · obtain rfl := Option.some.inj h
            try simp only [go_sem, seval, *]
        · refine ite_K h (fun c11 h => ?_) (fun c11 h => ?_) <;> try simp only [go_sem, seval, *]
          · obtain rfl := Option.some.inj h
            try simp only [go_sem, seval, *]
          · refine swp_for h (fun i s st => match s with | (row_8, u_11) => IV [(1, .p false [.c (.str String_1)]), (2, .p false [.c (.str a_2)]), (10, .p false [.row 0]), (11, .p false [.c (.bool u_11)]), (42, .p false [.c (.sl 119 2 (List.map ePair append_0))]), (43, .p false [.c (.int .i64 ((append_0.length : Nat) : Int))]), (44, .p false [.c (.int .i64 ((i : Nat) : Int))])] [.row 119 2 (List.map ePair row_8) 2] st) [(false, 10, 0)] [512] (by decide) ?_ ?_ ?_
            · simp only [go_sem, seval, *]
            · rintro i13 x14 ⟨row_8, u_11⟩ ⟨sl, ob, n⟩ y12 hx13 hI14 hW15 h hy12
              simp only [go_sem, seval, str_len] at hI14
              obtain ⟨⟨g16_1, g16_2, g16_10, g16_11, g16_42, g16_43, g16_44⟩, og16_0, hn⟩ := hI14
              subst hn
              have hlhx13 := WF.slotL hW15 g16_42 (j := 0) rfl
              have q17 := lt_t hx13
              have q18 := lt_p hx13
              have q19 := nat_in (lt_n hx13) hlhx13
              try simp only [go_sem, seval, *]
              refine ite_K h (fun c20 h => ?_) (fun c20 h => ?_) <;> try simp only [go_sem, seval, *]
              · obtain ⟨p21, h⟩ := chk_K h
                try simp only [Nat.reduceLeDiff] at p21
                try simp only [go_sem, seval, *]
                refine ⟨_, [], [257], (Option.some.inj h).symm, by decide, ?_⟩
                try simp only [go_sem, seval, *]
              · refine ite_K h (fun c22 h => ?_) (fun c22 h => ?_)
                · have c22' := c22
                  try simp only [c2, c4, c6, c8, c11, c20, Bool.false_or, Bool.or_false] at c22'
                  obtain ⟨p23, h⟩ := chk_K h
                  try simp only [Nat.reduceLeDiff] at p23
                  try simp only [go_sem, seval, *]
                  refine ⟨_, [], [257], (Option.some.inj h).symm, by decide, ?_⟩
                  try simp only [go_sem, seval, *]
                · have c22' := c22
                  try simp only [c2, c4, c6, c8, c11, c20, Bool.false_or, Bool.or_false] at c22'
                  obtain ⟨p24, h⟩ := chk_K h
                  try simp only [Nat.reduceLeDiff] at p24
                  obtain ⟨p25, h⟩ := chk_K h
                  try simp only [Nat.reduceLeDiff] at p25
                  try simp only [go_sem, seval, *]
                  refine ⟨_, [], [385], (Option.some.inj h).symm, by decide, ?_⟩
                  try simp only [go_sem, seval, *]
            · rintro ⟨row_8, u_11⟩ ⟨sl, ob, n⟩ hI26 hW27 h
              simp only [go_sem, seval, str_len] at hI26
              obtain ⟨⟨g28_1, g28_2, g28_10, g28_11, g28_42, g28_43, g28_44⟩, og28_0, hn⟩ := hI26
              subst hn
              have q29 := lt_f (append_0.length)
              try simp only [go_sem, seval, *]
              refine ite_K h (fun c30 h => ?_) (fun c30 h => ?_) <;> try simp only [go_sem, seval, *]
              · obtain rfl := Option.some.inj h
                try simp only [go_sem, seval, *]
              · obtain ⟨p31, h⟩ := chk_K h
                try simp only [Nat.reduceLeDiff] at p31
                obtain rfl := Option.some.inj h
                try simp only [go_sem, seval, *]
      · obtain rfl := Option.some.inj h
        try simp only [go_sem, seval, *]
    · obtain rfl := Option.some.inj h
      try simp only [go_sem, seval, *]
  · obtain rfl := Option.some.inj h
    try simp only [go_sem, seval, *]
end Go.Proofs.YtlkgkkacnoaeaaaGreatDoor

namespace Go.Proofs.YtlkgkkacnoaeaaaGreatDoor
open Go.Proofs.Tryz
set_option linter.unusedSimpArgs false
set_option linter.unusedVariables false
set_option maxRecDepth 1000000
set_option maxHeartbeats 4000000
theorem s_BoundVars_ok {r_0 : RuleD} {n_1 : Int} {r : (List ByteArray)} (h : s_BoundVars r_0 n_1 = some r) : Sound Tryz.prog J0 95 [(true, eRule r_0), (false, [.int .i64 n_1])] [(false, [(false, .sl 9 1 (List.map eStr r))])] := by
  refine fnk Tryz.func95 (by kernel_rfl) rfl (by kernel_rfl) (by kernel_rfl) ?_
  unfold s_BoundVars at h
  simp only [fnS, f95, argSt, go_sem, seval]
  refine swp_for h (fun i row_12 st => IV [(1, .p false [.c (.int .i64 n_1)]), (2, .bp 0 0), (5, .p false [.row 1]), (6, .p false [.c (.int .i64 ((i : Nat) : Int))])] [.box 52 [.c (.str r_0.name), .c (.int .i64 r_0.priority), .c (.sl 99 5 (List.map eCond r_0.cond)), .c (.sl 62 3 (List.map eAction r_0.thn))], .row 9 1 (List.map eStr row_12) 2] st) [] [0, 32] (by decide) ?_ ?_ ?_
  · simp only [go_sem, seval, *]
  · rintro i25 x26 row_12 ⟨sl, ob, n⟩ y1 hx2 hI3 hW4 h hy1
    simp only [go_sem, seval, str_len] at hI3
    obtain ⟨⟨g5_1, g5_2, g5_5, g5_6⟩, og5_0, og5_1, hn⟩ := hI3
    subst hn
    have hlhx2 := WF.boxL hW4 og5_0 (j := 2) rfl
    have q6 := lt_t hx2
    have q7 := lt_p hx2
    have q8 := nat_in (lt_n hx2) hlhx2
    try simp only [go_sem, seval, *]
    refine ite_K h (fun c9 h => ?_) (fun c9 h => ?_) <;> try simp only [go_sem, seval, *]
    · refine ite_K h (fun c10 h => ?_) (fun c10 h => ?_) <;> try simp only [go_sem, seval, *]
      · obtain ⟨v27, e11, h⟩ := bind_K h
        refine call_K (by have hh := s_VarsOf_ok e11; first | exact hh | (simp only [go_sem, *] at hh; exact hh)) ?_
        try simp only [go_sem, seval, *]
        refine swp_for h (fun i row_30 st => IV [(1, .p false [.c (.int .i64 n_1)]), (2, .bp 0 0), (5, .p false [.row 1]), (6, .p false [.c (.int .i64 ((i25 : Nat) : Int))]), (7, .p false [.row 2]), (8, .p false [.c (.int .i64 ((i : Nat) : Int))]), (16, .p false [.c (.int .i64 ((i25 : Nat) : Int))]), (17, .p false [.c (.int .i64 n_1)]), (18, .p false [.c (.bool (decide (((i25 : Nat) : Int) < n_1)))])] [.box 52 [.c (.str r_0.name), .c (.int .i64 r_0.priority), .c (.sl 99 5 (List.map eCond r_0.cond)), .c (.sl 62 3 (List.map eAction r_0.thn))], .row 9 1 (List.map eStr row_30) 2, .row 9 1 (List.map eStr v27) 2] st) [] [0, 1, 370] (by decide) ?_ ?_ ?_
        · simp only [go_sem, seval, *]
        · rintro i34 x35 row_30 ⟨sl, ob, n⟩ y12 hx13 hI14 hW15 h hy12
          simp only [go_sem, seval, str_len] at hI14
          obtain ⟨⟨g16_1, g16_2, g16_5, g16_6, g16_7, g16_8, g16_16, g16_17, g16_18⟩, og16_0, og16_1, og16_2, hn⟩ := hI14
          subst hn
          have hlhx13 := WF.rowL hW15 og16_2
          have q17 := lt_t hx13
          have q18 := lt_p hx13
          have q19 := nat_in (lt_n hx13) hlhx13
          try simp only [go_sem, seval, *]
          obtain ⟨v36, e20, h⟩ := bind_K h
          refine call_K (by have hh := s_l1Put_ok e20; first | exact hh | (simp only [go_sem, *] at hh; exact hh)) ?_
          try simp only [go_sem, seval, *]
          refine ⟨_, [], [0, 147, 2], (Option.some.inj h).symm, by decide, ?_⟩
          try simp only [go_sem, seval, *]
        · rintro row_30 ⟨sl, ob, n⟩ hI21 hW22 h
          simp only [go_sem, seval, str_len] at hI21
          obtain ⟨⟨g23_1, g23_2, g23_5, g23_6, g23_7, g23_8, g23_16, g23_17, g23_18⟩, og23_0, og23_1, og23_2, hn⟩ := hI21
          subst hn
          have q24 := lt_f (v27.length)
          try simp only [go_sem, seval, *]
          refine ⟨_, [], [0, 1], (Option.some.inj h).symm, by decide, ?_⟩
          try simp only [go_sem, seval, *]
      · refine ⟨_, [], [0, 1], (Option.some.inj h).symm, by decide, ?_⟩
        try simp only [go_sem, seval, *]
    · replace h := inr_K h hy1
      obtain rfl := Option.some.inj h
      try simp only [go_sem, seval, *]
  · rintro row_12 ⟨sl, ob, n⟩ hI25 hW26 h
    simp only [go_sem, seval, str_len] at hI25
    obtain ⟨⟨g27_1, g27_2, g27_5, g27_6⟩, og27_0, og27_1, hn⟩ := hI25
    subst hn
    have q28 := lt_f (r_0.cond.length)
    obtain rfl := Option.some.inj h
    try simp only [go_sem, seval, *]
theorem s_IsPattern_ok {p_0 : PatternD} {r : Bool} (h : s_IsPattern p_0 = some r) : Sound Tryz.prog J0 54 [(true, ePattern p_0)] [(false, [(false, .bool r)])] := by
  refine fnk Tryz.func54 (by kernel_rfl) rfl (by kernel_rfl) (by kernel_rfl) ?_
  unfold s_IsPattern at h
  simp only [fnS, f54, argSt, go_sem, seval]
  refine swp_for h (fun i _ st => IV [(1, .bp 0 0), (3, .p false [.c (.int .i64 ((i : Nat) : Int))])] [.box 60 [.c (.str p_0.rel), .c (.sl 9 1 (List.map eStr p_0.args))]] st) [] [0] (by decide) ?_ ?_ ?_
  · simp only [go_sem, seval, *]
  · rintro i7 x8 ⟨⟩ ⟨sl, ob, n⟩ y1 hx2 hI3 hW4 h hy1
    simp only [go_sem, seval, str_len] at hI3
    obtain ⟨⟨g5_1, g5_3⟩, og5_0, hn⟩ := hI3
    subst hn
    have hlhx2 := WF.boxL hW4 og5_0 (j := 1) rfl
    have q6 := lt_t hx2
    have q7 := lt_p hx2
    have q8 := nat_in (lt_n hx2) hlhx2
    try simp only [go_sem, seval, *]
    obtain ⟨v9, e9, h⟩ := bind_K h
    refine call_K (by have hh := s_IsTerm_ok e9; first | exact hh | (simp only [go_sem, *] at hh; exact hh)) ?_
    try simp only [go_sem, seval, *]
    refine ite_K h (fun c10 h => ?_) (fun c10 h => ?_) <;> try simp only [go_sem, seval, *]
    · refine ⟨_, [], [0], (Option.some.inj h).symm, by decide, ?_⟩
      try simp only [go_sem, seval, *]
    · replace h := inr_K h hy1
      obtain rfl := Option.some.inj h
      try simp only [go_sem, seval, *]
  · rintro ⟨⟩ ⟨sl, ob, n⟩ hI11 hW12 h
    simp only [go_sem, seval, str_len] at hI11
    obtain ⟨⟨g13_1, g13_3⟩, og13_0, hn⟩ := hI11
    subst hn
    have q14 := lt_f (p_0.args.length)
    try simp only [go_sem, seval, *]
    obtain ⟨v10, e15, h⟩ := bind_K h
    refine call_K (by have hh := s_IsName_ok e15; first | exact hh | (simp only [go_sem, *] at hh; exact hh)) ?_
    try simp only [go_sem, seval, *]
    refine ite_K h (fun c16 h => ?_) (fun c16 h => ?_) <;> try simp only [go_sem, seval, *]
    · obtain rfl := Option.some.inj h
      try simp only [go_sem, seval, *]
    · obtain rfl := Option.some.inj h
      try simp only [go_sem, seval, *]
theorem s_CondVars_ok {x_0 : CondD} {r : (List ByteArray)} (h : s_CondVars x_0 = some r) : Sound Tryz.prog J0 97 [(true, eCond x_0)] [(false, [(false, .sl 9 1 (List.map eStr r))])] := by
  refine fnk Tryz.func97 (by kernel_rfl) rfl (by kernel_rfl) (by kernel_rfl) ?_
  unfold s_CondVars at h
  simp only [fnS, f97, argSt, go_sem, seval]
  obtain ⟨v1, e1, h⟩ := bind_K h
  refine call_K (by have hh := s_VarsOf_ok e1; first | exact hh | (simp only [go_sem, *] at hh; exact hh)) ?_
  try simp only [go_sem, seval, *]
  obtain ⟨v2, e2, h⟩ := bind_K h
  refine call_K (by have hh := s_IsVar_ok e2; first | exact hh | (simp only [go_sem, *] at hh; exact hh)) ?_
  try simp only [go_sem, seval, *]
  refine ite_K h (fun c3 h => ?_) (fun c3 h => ?_) <;> try simp only [go_sem, seval, *]
  · obtain ⟨v3, e4, h⟩ := bind_K h
    refine call_K (by have hh := s_l1Put_ok e4; first | exact hh | (simp only [go_sem, *] at hh; exact hh)) ?_
    try simp only [go_sem, seval, *]
    obtain ⟨v4, e5, h⟩ := bind_K h
    refine call_K (by have hh := s_IsVar_ok e5; first | exact hh | (simp only [go_sem, *] at hh; exact hh)) ?_
    try simp only [go_sem, seval, *]
    refine ite_K h (fun c6 h => ?_) (fun c6 h => ?_) <;> try simp only [go_sem, seval, *]
    · obtain ⟨v5, e7, h⟩ := bind_K h
      refine call_K (by have hh := s_l1Put_ok e7; first | exact hh | (simp only [go_sem, *] at hh; exact hh)) ?_
      obtain rfl := Option.some.inj h
      try simp only [go_sem, seval, *]
    · obtain rfl := Option.some.inj h
      try simp only [go_sem, seval, *]
  · obtain ⟨v6, e8, h⟩ := bind_K h
    refine call_K (by have hh := s_IsVar_ok e8; first | exact hh | (simp only [go_sem, *] at hh; exact hh)) ?_
    try simp only [go_sem, seval, *]
    refine ite_K h (fun c9 h => ?_) (fun c9 h => ?_) <;> try simp only [go_sem, seval, *]
    · obtain ⟨v7, e10, h⟩ := bind_K h
      refine call_K (by have hh := s_l1Put_ok e10; first | exact hh | (simp only [go_sem, *] at hh; exact hh)) ?_
      obtain rfl := Option.some.inj h
      try simp only [go_sem, seval, *]
    · obtain rfl := Option.some.inj h
      try simp only [go_sem, seval, *]
theorem s_AreFacts_ok {l_0 : (List FactD)} {r : Bool} (h : s_AreFacts l_0 = some r) : Sound Tryz.prog J0 25 [(false, [.sl 57 2 (List.map eFact l_0)])] [(false, [(false, .bool r)])] := by
  refine fnk Tryz.func25 (by kernel_rfl) rfl (by kernel_rfl) (by kernel_rfl) ?_
  unfold s_AreFacts at h
  simp only [fnS, f25, argSt, go_sem, seval]
  refine swp_for h (fun i _ st => IV [(0, .p false [.c (.sl 57 2 (List.map eFact l_0))]), (3, .p false [.c (.int .i64 ((i : Nat) : Int))])] [] st) [] [] (by decide) ?_ ?_ ?_
  · simp only [go_sem, seval, *]
  · rintro i8 x9 ⟨⟩ ⟨sl, ob, n⟩ y1 hx2 hI3 hW4 h hy1
    simp only [go_sem, seval, str_len] at hI3
    obtain ⟨⟨g5_0, g5_3⟩, hn⟩ := hI3
    subst hn
    have hlhx2 := WF.slotL hW4 g5_0 (j := 0) rfl
    have q6 := lt_t hx2
    have q7 := lt_p hx2
    have q8 := nat_in (lt_n hx2) hlhx2
    try simp only [go_sem, seval, *]
    obtain ⟨v10, e9, h⟩ := bind_K h
    refine call_K (by have hh := s_IsFact_ok e9; first | exact hh | (simp only [go_sem, *] at hh; exact hh)) ?_
    try simp only [go_sem, seval, *]
    refine ite_K h (fun c10 h => ?_) (fun c10 h => ?_) <;> try simp only [go_sem, seval, *]
    · refine ite_K h (fun c11 h => ?_) (fun c11 h => ?_) <;> try simp only [go_sem, seval, *]
      · obtain ⟨x11, a12, a13, e14, h⟩ := at_K h
        try simp only [go_sem, seval, *]
        obtain ⟨v12, e15, h⟩ := bind_K h
        refine call_K (by have hh := s_CompareFacts_ok e15; first | exact hh | (simp only [go_sem, *] at hh; exact hh)) ?_
        try simp only [go_sem, seval, *]
        refine ite_K h (fun c16 h => ?_) (fun c16 h => ?_) <;> try simp only [go_sem, seval, *]
        · replace h := inr_K h hy1
          obtain rfl := Option.some.inj h
          try simp only [go_sem, seval, *]
        · refine ⟨_, [], [], (Option.some.inj h).symm, by decide, ?_⟩
          try simp only [go_sem, seval, *]
      · refine ⟨_, [], [], (Option.some.inj h).symm, by decide, ?_⟩
        try simp only [go_sem, seval, *]
    · replace h := inr_K h hy1
      obtain rfl := Option.some.inj h
      try simp only [go_sem, seval, *]
  · rintro ⟨⟩ ⟨sl, ob, n⟩ hI17 hW18 h
    simp only [go_sem, seval, str_len] at hI17
    obtain ⟨⟨g19_0, g19_3⟩, hn⟩ := hI17
    subst hn
    have q20 := lt_f (l_0.length)
    obtain rfl := Option.some.inj h
    try simp only [go_sem, seval, *]
theorem s_Extend_ok {b_0 : (List PairD)} {v_1 : ByteArray} {value_2 : ByteArray} {r : ((List PairD) × Bool)} (h : s_Extend b_0 v_1 value_2 = some r) : Sound Tryz.prog J0 153 [(false, [.sl 119 2 (List.map ePair b_0)]), (false, [.str v_1]), (false, [.str value_2])] [(false, [(false, .sl 119 2 (List.map ePair r.1))]), (false, [(false, .bool r.2)])] := by
  refine fnk Tryz.func153 (by kernel_rfl) rfl (by kernel_rfl) (by kernel_rfl) ?_
  unfold s_Extend at h
  simp only [fnS, f153, argSt, go_sem, seval]
  obtain ⟨v1, e1, h⟩ := bind_K h
  refine call_K (by have hh := s_IsBinding_ok e1; first | exact hh | (simp only [go_sem, *] at hh; exact hh)) ?_
  try simp only [go_sem, seval, *]
  refine ite_K h (fun c2 h => ?_) (fun c2 h => ?_) <;> try simp only [go_sem, seval, *]
  · obtain ⟨v2, e3, h⟩ := bind_K h
    refine call_K (by have hh := s_IsVar_ok e3; first | exact hh | (simp only [go_sem, *] at hh; exact hh)) ?_
    try simp only [go_sem, seval, *]
    refine ite_K h (fun c4 h => ?_) (fun c4 h => ?_) <;> try simp only [go_sem, seval, *]
    · obtain ⟨v3, e5, h⟩ := bind_K h
      refine call_K (by have hh := s_IsAtom_ok e5; first | exact hh | (simp only [go_sem, *] at hh; exact hh)) ?_
      try simp only [go_sem, seval, *]
      refine ite_K h (fun c6 h => ?_) (fun c6 h => ?_) <;> try simp only [go_sem, seval, *]
      · obtain ⟨v4, e7, h⟩ := bind_K h
        refine call_K (by have hh := s_ValueOf_ok e7; first | exact hh | (simp only [go_sem, *] at hh; exact hh)) ?_
        try simp only [go_sem, seval, *]
        refine ite_K h (fun c8 h => ?_) (fun c8 h => ?_) <;> try simp only [go_sem, seval, *]
        · refine ite_K h (fun c9 h => ?_) (fun c9 h => ?_) <;> try simp only [go_sem, seval, *]
          · obtain ⟨v5, e10, h⟩ := bind_K h
            refine call_K (by have hh := s_l3Copy_ok e10; first | exact hh | (simp only [go_sem, *] at hh; exact hh)) ?_
            obtain rfl := Option.some.inj h
            try simp only [go_sem, seval, *]
          · obtain rfl := Option.some.inj h
            try simp only [go_sem, seval, *]
        · refine ite_K h (fun c11 h => ?_) (fun c11 h => ?_) <;> try simp only [go_sem, seval, *]
          · obtain rfl := Option.some.inj h
            try simp only [go_sem, seval, *]
          · obtain ⟨v6, e12, h⟩ := bind_K h
            refine call_K (by have hh := s_l3Set_ok e12; first | exact hh | (simp only [go_sem, *] at hh; exact hh)) ?_
            obtain rfl := Option.some.inj h
            try simp only [go_sem, seval, *]
      · obtain rfl := Option.some.inj h
        try simp only [go_sem, seval, *]
    · obtain rfl := Option.some.inj h
      try simp only [go_sem, seval, *]
  · obtain rfl := Option.some.inj h
    try simp only [go_sem, seval, *]
theorem i_IsCond_ok {x_0 : CondD} {r : Bool} (h : i_IsCond x_0 = some r) : Sound Tryz.prog J0 109 [(true, eCond x_0)] [(false, [(false, .bool r)])] := by
  refine fnk Tryz.func109 (by kernel_rfl) rfl (by kernel_rfl) (by kernel_rfl) ?_
  unfold i_IsCond at h
  have ks0 : strOk ⟨#[]⟩ = true := by decide
  simp only [fnS, f109, argSt, go_sem, seval, ks0]
  refine ite_K h (fun c1 h => ?_) (fun c1 h => ?_) <;> try simp only [go_sem, seval, *]
  · obtain ⟨v1, e2, h⟩ := bind_K h
    refine call_K (by have hh := i_IsPattern_ok e2; first | exact hh | (simp only [go_sem, *] at hh; exact hh)) ?_
    try simp only [go_sem, seval, *]
    refine ite_K h (fun c3 h => ?_) (fun c3 h => ?_) <;> try simp only [go_sem, seval, *]
    · refine ite_K h (fun c4 h => ?_) (fun c4 h => ?_) <;> try simp only [go_sem, seval, *]
      · obtain rfl := Option.some.inj h
        try simp only [go_sem, seval, *]
      · obtain rfl := Option.some.inj h
        try simp only [go_sem, seval, *]
    · obtain rfl := Option.some.inj h
      try simp only [go_sem, seval, *]
  · refine ite_K h (fun c5 h => ?_) (fun c5 h => ?_) <;> try simp only [go_sem, seval, *]
    · obtain ⟨v2, e6, h⟩ := bind_K h
      refine call_K (by have hh := i_IsPattern_ok e6; first | exact hh | (simp only [go_sem, *] at hh; exact hh)) ?_
      try simp only [go_sem, seval, *]
      refine ite_K h (fun c7 h => ?_) (fun c7 h => ?_) <;> try simp only [go_sem, seval, *]
      · refine ite_K h (fun c8 h => ?_) (fun c8 h => ?_) <;> try simp only [go_sem, seval, *]
        · obtain rfl := Option.some.inj h
          try simp only [go_sem, seval, *]
        · obtain rfl := Option.some.inj h
          try simp only [go_sem, seval, *]
      · obtain rfl := Option.some.inj h
        try simp only [go_sem, seval, *]
    · refine ite_K h (fun c9 h => ?_) (fun c9 h => ?_) <;> try simp only [go_sem, seval, *]
      · obtain ⟨v3, e10, h⟩ := bind_K h
        refine call_K (by have hh := i_IsTerm_ok e10; first | exact hh | (simp only [go_sem, *] at hh; exact hh)) ?_
        try simp only [go_sem, seval, *]
        refine ite_K h (fun c11 h => ?_) (fun c11 h => ?_) <;> try simp only [go_sem, seval, *]
        · obtain ⟨v4, e12, h⟩ := bind_K h
          refine call_K (by have hh := i_IsTerm_ok e12; first | exact hh | (simp only [go_sem, *] at hh; exact hh)) ?_
          try simp only [go_sem, seval, *]
          refine ite_K h (fun c13 h => ?_) (fun c13 h => ?_) <;> try simp only [go_sem, seval, *]
          · obtain ⟨v5, e14, h⟩ := bind_K h
            refine call_K (by have hh := i_zeroPattern_ok e14; first | exact hh | (simp only [go_sem, *] at hh; exact hh)) ?_
            obtain rfl := Option.some.inj h
            try simp only [go_sem, seval, *]
          · obtain rfl := Option.some.inj h
            try simp only [go_sem, seval, *]
        · obtain rfl := Option.some.inj h
          try simp only [go_sem, seval, *]
      · refine ite_K h (fun c15 h => ?_) (fun c15 h => ?_) <;> try simp only [go_sem, seval, *]
        · obtain ⟨v6, e16, h⟩ := bind_K h
          refine call_K (by have hh := i_IsTerm_ok e16; first | exact hh | (simp only [go_sem, *] at hh; exact hh)) ?_
          try simp only [go_sem, seval, *]
          refine ite_K h (fun c17 h => ?_) (fun c17 h => ?_) <;> try simp only [go_sem, seval, *]
          · obtain ⟨v7, e18, h⟩ := bind_K h
            refine call_K (by have hh := i_IsTerm_ok e18; first | exact hh | (simp only [go_sem, *] at hh; exact hh)) ?_
            try simp only [go_sem, seval, *]
            refine ite_K h (fun c19 h => ?_) (fun c19 h => ?_) <;> try simp only [go_sem, seval, *]
            · obtain ⟨v8, e20, h⟩ := bind_K h
              refine call_K (by have hh := i_zeroPattern_ok e20; first | exact hh | (simp only [go_sem, *] at hh; exact hh)) ?_
              obtain rfl := Option.some.inj h
              try simp only [go_sem, seval, *]
            · obtain rfl := Option.some.inj h
              try simp only [go_sem, seval, *]
          · obtain rfl := Option.some.inj h
            try simp only [go_sem, seval, *]
        · refine ite_K h (fun c21 h => ?_) (fun c21 h => ?_) <;> try simp only [go_sem, seval, *]
          · obtain ⟨v9, e22, h⟩ := bind_K h
            refine call_K (by have hh := i_IsTerm_ok e22; first | exact hh | (simp only [go_sem, *] at hh; exact hh)) ?_
            try simp only [go_sem, seval, *]
            refine ite_K h (fun c23 h => ?_) (fun c23 h => ?_) <;> try simp only [go_sem, seval, *]
            · obtain ⟨v10, e24, h⟩ := bind_K h
              refine call_K (by have hh := i_IsTerm_ok e24; first | exact hh | (simp only [go_sem, *] at hh; exact hh)) ?_
              try simp only [go_sem, seval, *]
              refine ite_K h (fun c25 h => ?_) (fun c25 h => ?_) <;> try simp only [go_sem, seval, *]
              · obtain ⟨v11, e26, h⟩ := bind_K h
                refine call_K (by have hh := i_zeroPattern_ok e26; first | exact hh | (simp only [go_sem, *] at hh; exact hh)) ?_
                obtain rfl := Option.some.inj h
                try simp only [go_sem, seval, *]
              · obtain rfl := Option.some.inj h
                try simp only [go_sem, seval, *]
            · obtain rfl := Option.some.inj h
              try simp only [go_sem, seval, *]
          · obtain rfl := Option.some.inj h
            try simp only [go_sem, seval, *]
theorem i_occursElsewhere_ok {r_0 : RuleD} {k_1 : Int} {v_2 : ByteArray} {r : Bool} (h : i_occursElsewhere r_0 k_1 v_2 = some r) : Sound Tryz.prog J0 145 [(true, eRule r_0), (false, [.int .i64 k_1]), (false, [.str v_2])] [(false, [(false, .bool r)])] := by
  refine fnk Tryz.func145 (by kernel_rfl) rfl (by kernel_rfl) (by kernel_rfl) ?_
  unfold i_occursElsewhere at h
  simp only [fnS, f145, argSt, go_sem, seval]
  refine swp_for h (fun i _ st => IV [(1, .p false [.c (.int .i64 k_1)]), (2, .p false [.c (.str v_2)]), (3, .bp 0 0), (12, .p false [.c (.sl 99 5 (List.map eCond r_0.cond))]), (13, .p false [.c (.int .i64 ((r_0.cond.length : Nat) : Int))]), (14, .p false [.c (.int .i64 ((i : Nat) : Int))])] [.box 52 [.c (.str r_0.name), .c (.int .i64 r_0.priority), .c (.sl 99 5 (List.map eCond r_0.cond)), .c (.sl 62 3 (List.map eAction r_0.thn))]] st) [] [0] (by decide) ?_ ?_ ?_
  · simp only [go_sem, seval, *]
  · rintro i16 x17 ⟨⟩ ⟨sl, ob, n⟩ y1 hx2 hI3 hW4 h hy1
    simp only [go_sem, seval, str_len] at hI3
    obtain ⟨⟨g5_1, g5_2, g5_3, g5_12, g5_13, g5_14⟩, og5_0, hn⟩ := hI3
    subst hn
    have hlhx2 := WF.slotL hW4 g5_12 (j := 0) rfl
    have q6 := lt_t hx2
    have q7 := lt_p hx2
    have q8 := nat_in (lt_n hx2) hlhx2
    try simp only [go_sem, seval, *]
    refine ite_K h (fun c9 h => ?_) (fun c9 h => ?_) <;> try simp only [go_sem, seval, *]
    · obtain ⟨v18, e10, h⟩ := bind_K h
      refine call_K (by have hh := i_CondVars_ok e10; first | exact hh | (simp only [go_sem, *] at hh; exact hh)) ?_
      try simp only [go_sem, seval, *]
      obtain ⟨v19, e11, h⟩ := bind_K h
      refine call_K (by have hh := i_hasText_ok e11; first | exact hh | (simp only [go_sem, *] at hh; exact hh)) ?_
      try simp only [go_sem, seval, *]
      refine ite_K h (fun c12 h => ?_) (fun c12 h => ?_) <;> try simp only [go_sem, seval, *]
      · replace h := inr_K h hy1
        obtain rfl := Option.some.inj h
        try simp only [go_sem, seval, *]
      · refine ⟨_, [], [0], (Option.some.inj h).symm, by decide, ?_⟩
        try simp only [go_sem, seval, *]
    · refine ⟨_, [], [0], (Option.some.inj h).symm, by decide, ?_⟩
      try simp only [go_sem, seval, *]
  · rintro ⟨⟩ ⟨sl, ob, n⟩ hI13 hW14 h
    simp only [go_sem, seval, str_len] at hI13
    obtain ⟨⟨g15_1, g15_2, g15_3, g15_12, g15_13, g15_14⟩, og15_0, hn⟩ := hI13
    subst hn
    have q16 := lt_f (r_0.cond.length)
    try simp only [go_sem, seval, *]
    refine swp_for h (fun i _ st => IV [(2, .p false [.c (.str v_2)]), (30, .p false [.c (.sl 62 3 (List.map eAction r_0.thn))]), (31, .p false [.c (.int .i64 ((r_0.thn.length : Nat) : Int))]), (32, .p false [.c (.int .i64 ((i : Nat) : Int))])] [] st) [] [] (by decide) ?_ ?_ ?_
    · simp only [go_sem, seval, *]
    · rintro i25 x26 ⟨⟩ ⟨sl, ob, n⟩ y17 hx18 hI19 hW20 h hy17
      simp only [go_sem, seval, str_len] at hI19
      obtain ⟨⟨g21_2, g21_30, g21_31, g21_32⟩, hn⟩ := hI19
      subst hn
      have hlhx18 := WF.slotL hW20 g21_30 (j := 0) rfl
      have q22 := lt_t hx18
      have q23 := lt_p hx18
      have q24 := nat_in (lt_n hx18) hlhx18
      try simp only [go_sem, seval, *]
      obtain ⟨v27, e25, h⟩ := bind_K h
      refine call_K (by have hh := i_hasText_ok e25; first | exact hh | (simp only [go_sem, *] at hh; exact hh)) ?_
      try simp only [go_sem, seval, *]
      refine ite_K h (fun c26 h => ?_) (fun c26 h => ?_) <;> try simp only [go_sem, seval, *]
      · replace h := inr_K h hy17
        obtain rfl := Option.some.inj h
        try simp only [go_sem, seval, *]
      · refine ⟨_, [], [], (Option.some.inj h).symm, by decide, ?_⟩
        try simp only [go_sem, seval, *]
    · rintro ⟨⟩ ⟨sl, ob, n⟩ hI27 hW28 h
      simp only [go_sem, seval, str_len] at hI27
      obtain ⟨⟨g29_2, g29_30, g29_31, g29_32⟩, hn⟩ := hI27
      subst hn
      have q30 := lt_f (r_0.thn.length)
      obtain rfl := Option.some.inj h
      try simp only [go_sem, seval, *]
theorem i_IsAction_ok {a_0 : ActionD} {r : Bool} (h : i_IsAction a_0 = some r) : Sound Tryz.prog J0 112 [(true, eAction a_0)] [(false, [(false, .bool r)])] := by
  refine fnk Tryz.func112 (by kernel_rfl) rfl (by kernel_rfl) (by kernel_rfl) ?_
  unfold i_IsAction at h
  simp only [fnS, f112, argSt, go_sem, seval]
  refine ite_K h (fun c1 h => ?_) (fun c1 h => ?_) <;> try simp only [go_sem, seval, *]
  · obtain ⟨v1, e2, h⟩ := bind_K h
    refine call_K (by have hh := i_IsPattern_ok e2; first | exact hh | (simp only [go_sem, *] at hh; exact hh)) ?_
    obtain rfl := Option.some.inj h
    try simp only [go_sem, seval, *]
  · refine ite_K h (fun c3 h => ?_) (fun c3 h => ?_) <;> try simp only [go_sem, seval, *]
    · obtain ⟨v2, e4, h⟩ := bind_K h
      refine call_K (by have hh := i_IsPattern_ok e4; first | exact hh | (simp only [go_sem, *] at hh; exact hh)) ?_
      obtain rfl := Option.some.inj h
      try simp only [go_sem, seval, *]
    · refine ite_K h (fun c5 h => ?_) (fun c5 h => ?_) <;> try simp only [go_sem, seval, *]
      · obtain ⟨v3, e6, h⟩ := bind_K h
        refine call_K (by have hh := i_zeroPattern_ok e6; first | exact hh | (simp only [go_sem, *] at hh; exact hh)) ?_
        obtain rfl := Option.some.inj h
        try simp only [go_sem, seval, *]
      · obtain rfl := Option.some.inj h
        try simp only [go_sem, seval, *]
theorem i_condVarsOf_ok {l_0 : (List CondD)} {r : (List ByteArray)} (h : i_condVarsOf l_0 = some r) : Sound Tryz.prog J0 116 [(false, [.sl 99 5 (List.map eCond l_0)])] [(false, [(false, .sl 9 1 (List.map eStr r))])] := by
  refine fnk Tryz.func116 (by kernel_rfl) rfl (by kernel_rfl) (by kernel_rfl) ?_
  unfold i_condVarsOf at h
  simp only [fnS, f116, argSt, go_sem, seval]
  refine swp_for h (fun i row_5 st => IV [(3, .p false [.row 0]), (6, .p false [.c (.sl 99 5 (List.map eCond l_0))]), (7, .p false [.c (.int .i64 ((l_0.length : Nat) : Int))]), (8, .p false [.c (.int .i64 ((i : Nat) : Int))])] [.row 9 1 (List.map eStr row_5) 2] st) [(false, 3, 0)] [80] (by decide) ?_ ?_ ?_
  · simp only [go_sem, seval, *]
  · rintro i9 x10 row_5 ⟨sl, ob, n⟩ y1 hx2 hI3 hW4 h hy1
    simp only [go_sem, seval, str_len] at hI3
    obtain ⟨⟨g5_3, g5_6, g5_7, g5_8⟩, og5_0, hn⟩ := hI3
    subst hn
    have hlhx2 := WF.slotL hW4 g5_6 (j := 0) rfl
    have q6 := lt_t hx2
    have q7 := lt_p hx2
    have q8 := nat_in (lt_n hx2) hlhx2
    try simp only [go_sem, seval, *]
    obtain ⟨v11, e9, h⟩ := bind_K h
    refine call_K (by have hh := i_CondVars_ok e9; first | exact hh | (simp only [go_sem, *] at hh; exact hh)) ?_
    obtain ⟨p10, h⟩ := chk_K h
    try simp only [Nat.reduceLeDiff] at p10
    try simp only [go_sem, seval, *]
    refine ⟨_, [], [129], (Option.some.inj h).symm, by decide, ?_⟩
    try simp only [go_sem, seval, *]
  · rintro row_5 ⟨sl, ob, n⟩ hI11 hW12 h
    simp only [go_sem, seval, str_len] at hI11
    obtain ⟨⟨g13_3, g13_6, g13_7, g13_8⟩, og13_0, hn⟩ := hI11
    subst hn
    have q14 := lt_f (l_0.length)
    obtain rfl := Option.some.inj h
    try simp only [go_sem, seval, *]
theorem i_AreFacts_ok {l_0 : (List FactD)} {r : Bool} (h : i_AreFacts l_0 = some r) : Sound Tryz.prog J0 29 [(false, [.sl 57 2 (List.map eFact l_0)])] [(false, [(false, .bool r)])] := by
  refine fnk Tryz.func29 (by kernel_rfl) rfl (by kernel_rfl) (by kernel_rfl) ?_
  unfold i_AreFacts at h
  simp only [fnS, f29, argSt, go_sem, seval]
  refine ite_K h (fun c1 h => ?_) (fun c1 h => ?_) <;> try simp only [go_sem, seval, *]
  · obtain rfl := Option.some.inj h
    try simp only [go_sem, seval, *]
  · refine swp_for h (fun i _ st => IV [(0, .p false [.c (.sl 57 2 (List.map eFact l_0))]), (8, .p false [.c (.sl 57 2 (List.map eFact l_0))]), (9, .p false [.c (.int .i64 ((l_0.length : Nat) : Int))]), (10, .p false [.c (.int .i64 ((i : Nat) : Int))])] [] st) [] [] (by decide) ?_ ?_ ?_
    · simp only [go_sem, seval, *]
    · rintro i8 x9 ⟨⟩ ⟨sl, ob, n⟩ y2 hx3 hI4 hW5 h hy2
      simp only [go_sem, seval, str_len] at hI4
      obtain ⟨⟨g6_0, g6_8, g6_9, g6_10⟩, hn⟩ := hI4
      subst hn
      have hlhx3 := WF.slotL hW5 g6_0 (j := 0) rfl
      have q7 := lt_t hx3
      have q8 := lt_p hx3
      have q9 := nat_in (lt_n hx3) hlhx3
      try simp only [go_sem, seval, *]
      obtain ⟨v10, e10, h⟩ := bind_K h
      refine call_K (by have hh := i_IsFact_ok e10; first | exact hh | (simp only [go_sem, *] at hh; exact hh)) ?_
      try simp only [go_sem, seval, *]
      refine ite_K h (fun c11 h => ?_) (fun c11 h => ?_) <;> try simp only [go_sem, seval, *]
      · refine ite_K h (fun c12 h => ?_) (fun c12 h => ?_) <;> try simp only [go_sem, seval, *]
        · obtain ⟨x11, a13, a14, e15, h⟩ := at_K h
          try simp only [go_sem, seval, *]
          obtain ⟨v12, e16, h⟩ := bind_K h
          refine call_K (by have hh := i_CompareFacts_ok e16; first | exact hh | (simp only [go_sem, *] at hh; exact hh)) ?_
          try simp only [go_sem, seval, *]
          refine ite_K h (fun c17 h => ?_) (fun c17 h => ?_) <;> try simp only [go_sem, seval, *]
          · replace h := inr_K h hy2
            obtain rfl := Option.some.inj h
            try simp only [go_sem, seval, *]
          · refine ⟨_, [], [], (Option.some.inj h).symm, by decide, ?_⟩
            try simp only [go_sem, seval, *]
        · refine ⟨_, [], [], (Option.some.inj h).symm, by decide, ?_⟩
          try simp only [go_sem, seval, *]
      · replace h := inr_K h hy2
        obtain rfl := Option.some.inj h
        try simp only [go_sem, seval, *]
    · rintro ⟨⟩ ⟨sl, ob, n⟩ hI18 hW19 h
      simp only [go_sem, seval, str_len] at hI18
      obtain ⟨⟨g20_0, g20_8, g20_9, g20_10⟩, hn⟩ := hI18
      subst hn
      have q21 := lt_f (l_0.length)
      obtain rfl := Option.some.inj h
      try simp only [go_sem, seval, *]
theorem i_MatchFact_ok {append_0 : PatternD} {String_1 : FactD} {a_2 : (List PairD)} {r : ((List PairD) × Bool)} (h : i_MatchFact append_0 String_1 a_2 = some r) : Sound Tryz.prog J0 85 [(true, ePattern append_0), (true, eFact String_1), (false, [.sl 119 2 (List.map ePair a_2)])] [(false, [(false, .sl 119 2 (List.map ePair r.1))]), (false, [(false, .bool r.2)])] := by
  refine fnk Tryz.func85 (by kernel_rfl) rfl (by kernel_rfl) (by kernel_rfl) ?_
  unfold i_MatchFact at h
  simp only [fnS, f85, argSt, go_sem, seval]
  obtain ⟨v1, e1, h⟩ := bind_K h
  refine call_K (by have hh := i_IsPattern_ok e1; first | exact hh | (simp only [go_sem, *] at hh; exact hh)) ?_
  try simp only [go_sem, seval, *]
  refine ite_K h (fun c2 h => ?_) (fun c2 h => ?_) <;> try simp only [go_sem, seval, *]
  · obtain ⟨v2, e3, h⟩ := bind_K h
    refine call_K (by have hh := i_IsFact_ok e3; first | exact hh | (simp only [go_sem, *] at hh; exact hh)) ?_
    try simp only [go_sem, seval, *]
    refine ite_K h (fun c4 h => ?_) (fun c4 h => ?_) <;> try simp only [go_sem, seval, *]
    · obtain ⟨v3, e5, h⟩ := bind_K h
      refine call_K (by have hh := i_IsBinding_ok e5; first | exact hh | (simp only [go_sem, *] at hh; exact hh)) ?_
      try simp only [go_sem, seval, *]
      refine ite_K h (fun c6 h => ?_) (fun c6 h => ?_) <;> try simp only [go_sem, seval, *]
      · refine ite_K h (fun c7 h => ?_) (fun c7 h => ?_) <;> try simp only [go_sem, seval, *]
        · refine ite_K h (fun c8 h => ?_) (fun c8 h => ?_) <;> try simp only [go_sem, seval, *]
          · obtain rfl := Option.some.inj h
            try simp only [go_sem, seval, *]
          · obtain ⟨v4, e9, h⟩ := bind_K h
            refine call_K (by have hh := i_copyPairs_ok e9; first | exact hh | (simp only [go_sem, *] at hh; exact hh)) ?_
            try simp only [go_sem, seval, *]
            refine swp_for h (fun i row_16 st => IV [(4, .bp 0 0), (8, .p false [.row 1]), (45, .p false [.c (.sl 9 1 (List.map eStr append_0.args))]), (46, .p false [.c (.int .i64 ((append_0.args.length : Nat) : Int))]), (47, .p false [.c (.int .i64 ((i : Nat) : Int))])] [.box 57 [.c (.str String_1.rel), .c (.sl 9 1 (List.map eStr String_1.args))], .row 119 2 (List.map ePair row_16) 2] st) [] [16, 544] (by decide) ?_ ?_ ?_
            · simp only [go_sem, seval, *]
            · rintro i22 x23 row_16 ⟨sl, ob, n⟩ y10 hx11 hI12 hW13 h hy10
              simp only [go_sem, seval, str_len] at hI12
              obtain ⟨⟨g14_4, g14_8, g14_45, g14_46, g14_47⟩, og14_0, og14_1, hn⟩ := hI12
              subst hn
              have hlhx11 := WF.slotL hW13 g14_45 (j := 0) rfl
              have q15 := lt_t hx11
              have q16 := lt_p hx11
              have q17 := nat_in (lt_n hx11) hlhx11
              try simp only [go_sem, seval, *]
              obtain ⟨v24, e18, h⟩ := bind_K h
              refine call_K (by have hh := i_IsAtom_ok e18; first | exact hh | (simp only [go_sem, *] at hh; exact hh)) ?_
              try simp only [go_sem, seval, *]
              refine ite_K h (fun c19 h => ?_) (fun c19 h => ?_) <;> try simp only [go_sem, seval, *]
              · obtain ⟨x25, a20, a21, e22, h⟩ := at_K h
                simp only [Int.toNat_natCast] at e22
                try simp only [go_sem, seval, *]
                refine ite_K h (fun c23 h => ?_) (fun c23 h => ?_) <;> try simp only [go_sem, seval, *]
                · refine ⟨_, [], [0, 1], (Option.some.inj h).symm, by decide, ?_⟩
                  try simp only [go_sem, seval, *]
                · replace h := inr_K h hy10
                  obtain rfl := Option.some.inj h
                  try simp only [go_sem, seval, *]
              · obtain ⟨x26, a24, a25, e26, h⟩ := at_K h
                simp only [Int.toNat_natCast] at e26
                try simp only [go_sem, seval, *]
                obtain ⟨v27, e27, h⟩ := bind_K h
                refine call_K (by have hh := i_Extend_ok e27; first | exact hh | (simp only [go_sem, *] at hh; exact hh)) ?_
                try simp only [go_sem, seval, *]
                refine ite_K h (fun c28 h => ?_) (fun c28 h => ?_) <;> try simp only [go_sem, seval, *]
                · refine ⟨_, [], [0, 242], (Option.some.inj h).symm, by decide, ?_⟩
                  try simp only [go_sem, seval, *]
                · replace h := inr_K h hy10
                  obtain rfl := Option.some.inj h
                  try simp only [go_sem, seval, *]
            · rintro row_16 ⟨sl, ob, n⟩ hI29 hW30 h
              simp only [go_sem, seval, str_len] at hI29
              obtain ⟨⟨g31_4, g31_8, g31_45, g31_46, g31_47⟩, og31_0, og31_1, hn⟩ := hI29
              subst hn
              have q32 := lt_f (append_0.args.length)
              obtain rfl := Option.some.inj h
              try simp only [go_sem, seval, *]
        · obtain rfl := Option.some.inj h
          try simp only [go_sem, seval, *]
      · obtain rfl := Option.some.inj h
        try simp only [go_sem, seval, *]
    · obtain rfl := Option.some.inj h
      try simp only [go_sem, seval, *]
  · obtain rfl := Option.some.inj h
    try simp only [go_sem, seval, *]
theorem i_Instance_ok {p_0 : PatternD} {b_1 : (List PairD)} {r : (FactD × Bool)} (h : i_Instance p_0 b_1 = some r) : Sound Tryz.prog J0 31 [(true, ePattern p_0), (false, [.sl 119 2 (List.map ePair b_1)])] [(true, [(false, .str r.1.rel), (false, .sl 9 1 (List.map eStr r.1.args))]), (false, [(false, .bool r.2)])] := by
  refine fnk Tryz.func31 (by kernel_rfl) rfl (by kernel_rfl) (by kernel_rfl) ?_
  unfold i_Instance at h
  simp only [fnS, f31, argSt, go_sem, seval]
  obtain ⟨v1, e1, h⟩ := bind_K h
  refine call_K (by have hh := i_IsPattern_ok e1; first | exact hh | (simp only [go_sem, *] at hh; exact hh)) ?_
  try simp only [go_sem, seval, *]
  refine ite_K h (fun c2 h => ?_) (fun c2 h => ?_) <;> try simp only [go_sem, seval, *]
  · obtain ⟨v2, e3, h⟩ := bind_K h
    refine call_K (by have hh := i_IsBinding_ok e3; first | exact hh | (simp only [go_sem, *] at hh; exact hh)) ?_
    try simp only [go_sem, seval, *]
    refine ite_K h (fun c4 h => ?_) (fun c4 h => ?_) <;> try simp only [go_sem, seval, *]
    · refine swp_for h (fun i row_7 st => IV [(1, .p false [.c (.sl 119 2 (List.map ePair b_1))]), (4, .bp 0 0), (6, .bp 1 0), (24, .p false [.c (.sl 9 1 (List.map eStr p_0.args))]), (25, .p false [.c (.int .i64 ((p_0.args.length : Nat) : Int))]), (26, .p false [.c (.int .i64 ((i : Nat) : Int))])] [.box 57 [.c (.str ⟨#[]⟩), .nil 9 1], .box 57 [.c (.str p_0.rel), .row 2], .row 9 1 (List.map eStr row_7) 2] st) [(true, 224, 1)] [16, 224, 320] (by decide) ?_ ?_ ?_
      · simp only [go_sem, seval, *]
      · rintro i11 x12 row_7 ⟨sl, ob, n⟩ y5 hx6 hI7 hW8 h hy5
        simp only [go_sem, seval, str_len] at hI7
        obtain ⟨⟨g9_1, g9_4, g9_6, g9_24, g9_25, g9_26⟩, og9_0, og9_1, og9_2, hn⟩ := hI7
        subst hn
        have hlhx6 := WF.slotL hW8 g9_24 (j := 0) rfl
        have q10 := lt_t hx6
        have q11 := lt_p hx6
        have q12 := nat_in (lt_n hx6) hlhx6
        try simp only [go_sem, seval, *]
        obtain ⟨v13, e13, h⟩ := bind_K h
        refine call_K (by have hh := i_ValueOf_ok e13; first | exact hh | (simp only [go_sem, *] at hh; exact hh)) ?_
        try simp only [go_sem, seval, *]
        refine ite_K h (fun c14 h => ?_) (fun c14 h => ?_) <;> try simp only [go_sem, seval, *]
        · obtain ⟨p15, h⟩ := chk_K h
          try simp only [Nat.reduceLeDiff] at p15
          try simp only [go_sem, seval, *]
          refine ⟨_, [], [0, 1, 291], (Option.some.inj h).symm, by decide, ?_⟩
          try simp only [go_sem, seval, *]
        · replace h := inr_K h hy5
          obtain rfl := Option.some.inj h
          try simp only [go_sem, seval, *]
      · rintro row_7 ⟨sl, ob, n⟩ hI16 hW17 h
        simp only [go_sem, seval, str_len] at hI16
        obtain ⟨⟨g18_1, g18_4, g18_6, g18_24, g18_25, g18_26⟩, og18_0, og18_1, og18_2, hn⟩ := hI16
        subst hn
        have q19 := lt_f (p_0.args.length)
        obtain rfl := Option.some.inj h
        try simp only [go_sem, seval, *]
    · obtain rfl := Option.some.inj h
      try simp only [go_sem, seval, *]
  · obtain rfl := Option.some.inj h
    try simp only [go_sem, seval, *]
end Go.Proofs.YtlkgkkacnoaeaaaGreatDoor

namespace Go.Proofs.YtlkgkkacnoaeaaaGreatDoor
open Go.Proofs.Tryz
set_option linter.unusedSimpArgs false
set_option linter.unusedVariables false
set_option maxRecDepth 1000000
set_option maxHeartbeats 4000000
theorem s_l2Put_ok {l_0 : (List FactD)} {f_1 : FactD} {r : (List FactD)} (h : s_l2Put l_0 f_1 = some r) : Sound Tryz.prog J0 39 [(false, [.sl 57 2 (List.map eFact l_0)]), (true, eFact f_1)] [(false, [(false, .sl 57 2 (List.map eFact r))])] := by
  refine fnk Tryz.func39 (by kernel_rfl) rfl (by kernel_rfl) (by kernel_rfl) ?_
  unfold s_l2Put at h
  simp only [fnS, f39, argSt, go_sem, seval]
  refine swp_for h (fun i s st => match s with | (row_8, done_9) => IV [(0, .p false [.c (.sl 57 2 (List.map eFact l_0))]), (3, .bp 0 0), (5, .p false [.row 1]), (6, .p false [.c (.bool done_9)]), (7, .p false [.c (.int .i64 ((i : Nat) : Int))])] [.box 57 [.c (.str f_1.rel), .c (.sl 9 1 (List.map eStr f_1.args))], .row 57 2 (List.map eFact row_8) 2] st) [] [0, 32] (by decide) ?_ ?_ ?_
  · simp only [go_sem, seval, *]
  · rintro i21 x22 ⟨row_8, done_9⟩ ⟨sl, ob, n⟩ y1 hx2 hI3 hW4 h hy1
    simp only [go_sem, seval, str_len] at hI3
    obtain ⟨⟨g5_0, g5_3, g5_5, g5_6, g5_7⟩, og5_0, og5_1, hn⟩ := hI3
    subst hn
    have hlhx2 := WF.slotL hW4 g5_0 (j := 0) rfl
    have q6 := lt_t hx2
    have q7 := lt_p hx2
    have q8 := nat_in (lt_n hx2) hlhx2
    try simp only [go_sem, seval, *]
    refine ite_K h (fun c9 h => ?_) (fun c9 h => ?_) <;> try simp only [go_sem, seval, *]
    · obtain ⟨v23, e10, h⟩ := bind_K h
      refine call_K (by have hh := s_l2Copy_ok e10; first | exact hh | (simp only [go_sem, *] at hh; exact hh)) ?_
      obtain ⟨p11, h⟩ := chk_K h
      try simp only [Nat.reduceLeDiff] at p11
      try simp only [go_sem, seval, *]
      refine ⟨_, [], [0, 354], (Option.some.inj h).symm, by decide, ?_⟩
      try simp only [go_sem, seval, *]
    · obtain ⟨v24, e12, h⟩ := bind_K h
      refine call_K (by have hh := s_CompareFacts_ok e12; first | exact hh | (simp only [go_sem, *] at hh; exact hh)) ?_
      try simp only [go_sem, seval, *]
      refine ite_K h (fun c13 h => ?_) (fun c13 h => ?_) <;> try simp only [go_sem, seval, *]
      · obtain ⟨v25, e14, h⟩ := bind_K h
        refine call_K (by have hh := s_CompareFacts_ok e14; first | exact hh | (simp only [go_sem, *] at hh; exact hh)) ?_
        try simp only [go_sem, seval, *]
        refine ite_K h (fun c15 h => ?_) (fun c15 h => ?_) <;> try simp only [go_sem, seval, *]
        · obtain ⟨v26, e16, h⟩ := bind_K h
          refine call_K (by have hh := s_l2Copy_ok e16; first | exact hh | (simp only [go_sem, *] at hh; exact hh)) ?_
          obtain ⟨p17, h⟩ := chk_K h
          try simp only [Nat.reduceLeDiff] at p17
          try simp only [go_sem, seval, *]
          obtain ⟨v27, e18, h⟩ := bind_K h
          refine call_K (by have hh := s_l2Copy_ok e18; first | exact hh | (simp only [go_sem, *] at hh; exact hh)) ?_
          obtain ⟨p19, h⟩ := chk_K h
          try simp only [Nat.reduceLeDiff] at p19
          try simp only [go_sem, seval, *]
          refine ⟨_, [], [0, 578], (Option.some.inj h).symm, by decide, ?_⟩
          try simp only [go_sem, seval, *]
        · obtain ⟨v28, e20, h⟩ := bind_K h
          refine call_K (by have hh := s_l2Copy_ok e20; first | exact hh | (simp only [go_sem, *] at hh; exact hh)) ?_
          obtain ⟨p21, h⟩ := chk_K h
          try simp only [Nat.reduceLeDiff] at p21
          try simp only [go_sem, seval, *]
          refine ⟨_, [], [0, 482], (Option.some.inj h).symm, by decide, ?_⟩
          try simp only [go_sem, seval, *]
      · obtain ⟨v29, e22, h⟩ := bind_K h
        refine call_K (by have hh := s_l2Copy_ok e22; first | exact hh | (simp only [go_sem, *] at hh; exact hh)) ?_
        obtain ⟨p23, h⟩ := chk_K h
        try simp only [Nat.reduceLeDiff] at p23
        try simp only [go_sem, seval, *]
        refine ⟨_, [], [0, 354], (Option.some.inj h).symm, by decide, ?_⟩
        try simp only [go_sem, seval, *]
  · rintro ⟨row_8, done_9⟩ ⟨sl, ob, n⟩ hI24 hW25 h
    simp only [go_sem, seval, str_len] at hI24
    obtain ⟨⟨g26_0, g26_3, g26_5, g26_6, g26_7⟩, og26_0, og26_1, hn⟩ := hI24
    subst hn
    have q27 := lt_f (l_0.length)
    try simp only [go_sem, seval, *]
    refine ite_K h (fun c28 h => ?_) (fun c28 h => ?_) <;> try simp only [go_sem, seval, *]
    · obtain rfl := Option.some.inj h
      try simp only [go_sem, seval, *]
    · obtain ⟨v30, e29, h⟩ := bind_K h
      refine call_K (by have hh := s_l2Copy_ok e29; first | exact hh | (simp only [go_sem, *] at hh; exact hh)) ?_
      obtain ⟨p30, h⟩ := chk_K h
      try simp only [Nat.reduceLeDiff] at p30
      obtain rfl := Option.some.inj h
      try simp only [go_sem, seval, *]
theorem i_putFact_ok {l_0 : (List FactD)} {f_1 : FactD} {r : (List FactD)} (h : i_putFact l_0 f_1 = some r) : Sound Tryz.prog J0 44 [(false, [.sl 57 2 (List.map eFact l_0)]), (true, eFact f_1)] [(false, [(false, .sl 57 2 (List.map eFact r))])] := by
  refine fnk Tryz.func44 (by kernel_rfl) rfl (by kernel_rfl) (by kernel_rfl) ?_
  unfold i_putFact at h
  simp only [fnS, f44, argSt, go_sem, seval]
  refine swp_for h (fun i s st => match s with | (row_11, done_13) => IV [(3, .bp 0 0), (5, .p false [.row 1]), (6, .p false [.c (.bool done_13)]), (9, .p false [.c (.sl 57 2 (List.map eFact l_0))]), (10, .p false [.c (.int .i64 ((l_0.length : Nat) : Int))]), (11, .p false [.c (.int .i64 ((i : Nat) : Int))])] [.box 57 [.c (.str f_1.rel), .c (.sl 9 1 (List.map eStr f_1.args))], .row 57 2 (List.map eFact row_11) 2] st) [(false, 5, 0)] [0, 112] (by decide) ?_ ?_ ?_
  · simp only [go_sem, seval, *]
  · rintro i21 x22 ⟨row_11, done_13⟩ ⟨sl, ob, n⟩ y1 hx2 hI3 hW4 h hy1
    simp only [go_sem, seval, str_len] at hI3
    obtain ⟨⟨g5_3, g5_5, g5_6, g5_9, g5_10, g5_11⟩, og5_0, og5_1, hn⟩ := hI3
    subst hn
    have hlhx2 := WF.slotL hW4 g5_9 (j := 0) rfl
    have q6 := lt_t hx2
    have q7 := lt_p hx2
    have q8 := nat_in (lt_n hx2) hlhx2
    try simp only [go_sem, seval, *]
    refine ite_K h (fun c9 h => ?_) (fun c9 h => ?_) <;> try simp only [go_sem, seval, *]
    · obtain ⟨v23, e10, h⟩ := bind_K h
      refine call_K (by have hh := i_copyFact_ok e10; first | exact hh | (simp only [go_sem, *] at hh; exact hh)) ?_
      obtain ⟨p11, h⟩ := chk_K h
      try simp only [Nat.reduceLeDiff] at p11
      try simp only [go_sem, seval, *]
      refine ⟨_, [], [0, 274], (Option.some.inj h).symm, by decide, ?_⟩
      try simp only [go_sem, seval, *]
    · obtain ⟨v24, e12, h⟩ := bind_K h
      refine call_K (by have hh := i_CompareFacts_ok e12; first | exact hh | (simp only [go_sem, *] at hh; exact hh)) ?_
      try simp only [go_sem, seval, *]
      refine ite_K h (fun c13 h => ?_) (fun c13 h => ?_) <;> try simp only [go_sem, seval, *]
      · obtain ⟨v25, e14, h⟩ := bind_K h
        refine call_K (by have hh := i_copyFact_ok e14; first | exact hh | (simp only [go_sem, *] at hh; exact hh)) ?_
        obtain ⟨p15, h⟩ := chk_K h
        try simp only [Nat.reduceLeDiff] at p15
        try simp only [go_sem, seval, *]
        obtain ⟨v26, e16, h⟩ := bind_K h
        refine call_K (by have hh := i_copyFact_ok e16; first | exact hh | (simp only [go_sem, *] at hh; exact hh)) ?_
        obtain ⟨p17, h⟩ := chk_K h
        try simp only [Nat.reduceLeDiff] at p17
        try simp only [go_sem, seval, *]
        refine ⟨_, [], [0, 386], (Option.some.inj h).symm, by decide, ?_⟩
        try simp only [go_sem, seval, *]
      · obtain ⟨v27, e18, h⟩ := bind_K h
        refine call_K (by have hh := i_copyFact_ok e18; first | exact hh | (simp only [go_sem, *] at hh; exact hh)) ?_
        obtain ⟨p19, h⟩ := chk_K h
        try simp only [Nat.reduceLeDiff] at p19
        try simp only [go_sem, seval, *]
        refine ⟨_, [], [0, 274], (Option.some.inj h).symm, by decide, ?_⟩
        try simp only [go_sem, seval, *]
  · rintro ⟨row_11, done_13⟩ ⟨sl, ob, n⟩ hI20 hW21 h
    simp only [go_sem, seval, str_len] at hI20
    obtain ⟨⟨g22_3, g22_5, g22_6, g22_9, g22_10, g22_11⟩, og22_0, og22_1, hn⟩ := hI20
    subst hn
    have q23 := lt_f (l_0.length)
    try simp only [go_sem, seval, *]
    refine ite_K h (fun c24 h => ?_) (fun c24 h => ?_) <;> try simp only [go_sem, seval, *]
    · obtain rfl := Option.some.inj h
      try simp only [go_sem, seval, *]
    · obtain ⟨v28, e25, h⟩ := bind_K h
      refine call_K (by have hh := i_copyFact_ok e25; first | exact hh | (simp only [go_sem, *] at hh; exact hh)) ?_
      obtain ⟨p26, h⟩ := chk_K h
      try simp only [Nat.reduceLeDiff] at p26
      obtain rfl := Option.some.inj h
      try simp only [go_sem, seval, *]
end Go.Proofs.YtlkgkkacnoaeaaaGreatDoor

namespace Go.Proofs.YtlkgkkacnoaeaaaGreatDoor
open Go.Proofs.Tryz
set_option linter.unusedSimpArgs false
set_option linter.unusedVariables false
set_option maxRecDepth 1000000
set_option maxHeartbeats 4000000
theorem s_IsCond_ok {x_0 : CondD} {r : Bool} (h : s_IsCond x_0 = some r) : Sound Tryz.prog J0 96 [(true, eCond x_0)] [(false, [(false, .bool r)])] := by
  refine fnk Tryz.func96 (by kernel_rfl) rfl (by kernel_rfl) (by kernel_rfl) ?_
  unfold s_IsCond at h
  have ks0 : strOk ⟨#[]⟩ = true := by decide
  simp only [fnS, f96, argSt, go_sem, seval, ks0]
  refine ite_K h (fun c1 h => ?_) (fun c1 h => ?_) <;> try simp only [go_sem, seval, *]
  · obtain ⟨v1, e2, h⟩ := bind_K h
    refine call_K (by have hh := s_IsPattern_ok e2; first | exact hh | (simp only [go_sem, *] at hh; exact hh)) ?_
    try simp only [go_sem, seval, *]
    refine ite_K h (fun c3 h => ?_) (fun c3 h => ?_) <;> try simp only [go_sem, seval, *]
    · refine ite_K h (fun c4 h => ?_) (fun c4 h => ?_) <;> try simp only [go_sem, seval, *]
      · obtain rfl := Option.some.inj h
        try simp only [go_sem, seval, *]
      · obtain rfl := Option.some.inj h
        try simp only [go_sem, seval, *]
    · obtain rfl := Option.some.inj h
      try simp only [go_sem, seval, *]
  · refine ite_K h (fun c5 h => ?_) (fun c5 h => ?_) <;> try simp only [go_sem, seval, *]
    · obtain ⟨v2, e6, h⟩ := bind_K h
      refine call_K (by have hh := s_IsPattern_ok e6; first | exact hh | (simp only [go_sem, *] at hh; exact hh)) ?_
      try simp only [go_sem, seval, *]
      refine ite_K h (fun c7 h => ?_) (fun c7 h => ?_) <;> try simp only [go_sem, seval, *]
      · refine ite_K h (fun c8 h => ?_) (fun c8 h => ?_) <;> try simp only [go_sem, seval, *]
        · obtain rfl := Option.some.inj h
          try simp only [go_sem, seval, *]
        · obtain rfl := Option.some.inj h
          try simp only [go_sem, seval, *]
      · obtain rfl := Option.some.inj h
        try simp only [go_sem, seval, *]
    · refine ite_K h (fun c9 h => ?_) (fun c9 h => ?_) <;> try simp only [go_sem, seval, *]
      · refine ite_K h (fun c10 h => ?_) (fun c10 h => ?_) <;> try simp only [go_sem, seval, *]
        · refine ite_K h (fun c11 h => ?_) (fun c11 h => ?_) <;> try simp only [go_sem, seval, *]
          · obtain ⟨v3, e12, h⟩ := bind_K h
            refine call_K (by have hh := s_IsTerm_ok e12; first | exact hh | (simp only [go_sem, *] at hh; exact hh)) ?_
            try simp only [go_sem, seval, *]
            refine ite_K h (fun c13 h => ?_) (fun c13 h => ?_) <;> try simp only [go_sem, seval, *]
            · obtain ⟨v4, e14, h⟩ := bind_K h
              refine call_K (by have hh := s_IsTerm_ok e14; first | exact hh | (simp only [go_sem, *] at hh; exact hh)) ?_
              obtain rfl := Option.some.inj h
              try simp only [go_sem, seval, *]
            · obtain rfl := Option.some.inj h
              try simp only [go_sem, seval, *]
          · obtain rfl := Option.some.inj h
            try simp only [go_sem, seval, *]
        · obtain rfl := Option.some.inj h
          try simp only [go_sem, seval, *]
      · refine ite_K h (fun c15 h => ?_) (fun c15 h => ?_) <;> try simp only [go_sem, seval, *]
        · refine ite_K h (fun c16 h => ?_) (fun c16 h => ?_) <;> try simp only [go_sem, seval, *]
          · refine ite_K h (fun c17 h => ?_) (fun c17 h => ?_) <;> try simp only [go_sem, seval, *]
            · obtain ⟨v5, e18, h⟩ := bind_K h
              refine call_K (by have hh := s_IsTerm_ok e18; first | exact hh | (simp only [go_sem, *] at hh; exact hh)) ?_
              try simp only [go_sem, seval, *]
              refine ite_K h (fun c19 h => ?_) (fun c19 h => ?_) <;> try simp only [go_sem, seval, *]
              · obtain ⟨v6, e20, h⟩ := bind_K h
                refine call_K (by have hh := s_IsTerm_ok e20; first | exact hh | (simp only [go_sem, *] at hh; exact hh)) ?_
                obtain rfl := Option.some.inj h
                try simp only [go_sem, seval, *]
              · obtain rfl := Option.some.inj h
                try simp only [go_sem, seval, *]
            · obtain rfl := Option.some.inj h
              try simp only [go_sem, seval, *]
          · obtain rfl := Option.some.inj h
            try simp only [go_sem, seval, *]
        · refine ite_K h (fun c21 h => ?_) (fun c21 h => ?_) <;> try simp only [go_sem, seval, *]
          · refine ite_K h (fun c22 h => ?_) (fun c22 h => ?_) <;> try simp only [go_sem, seval, *]
            · refine ite_K h (fun c23 h => ?_) (fun c23 h => ?_) <;> try simp only [go_sem, seval, *]
              · obtain ⟨v7, e24, h⟩ := bind_K h
                refine call_K (by have hh := s_IsTerm_ok e24; first | exact hh | (simp only [go_sem, *] at hh; exact hh)) ?_
                try simp only [go_sem, seval, *]
                refine ite_K h (fun c25 h => ?_) (fun c25 h => ?_) <;> try simp only [go_sem, seval, *]
                · obtain ⟨v8, e26, h⟩ := bind_K h
                  refine call_K (by have hh := s_IsTerm_ok e26; first | exact hh | (simp only [go_sem, *] at hh; exact hh)) ?_
                  obtain rfl := Option.some.inj h
                  try simp only [go_sem, seval, *]
                · obtain rfl := Option.some.inj h
                  try simp only [go_sem, seval, *]
              · obtain rfl := Option.some.inj h
                try simp only [go_sem, seval, *]
            · obtain rfl := Option.some.inj h
              try simp only [go_sem, seval, *]
          · obtain rfl := Option.some.inj h
            try simp only [go_sem, seval, *]
theorem s_l5Elsewhere_ok {r_0 : RuleD} {i_1 : Int} {v_2 : ByteArray} {r : Bool} (h : s_l5Elsewhere r_0 i_1 v_2 = some r) : Sound Tryz.prog J0 100 [(true, eRule r_0), (false, [.int .i64 i_1]), (false, [.str v_2])] [(false, [(false, .bool r)])] := by
  refine fnk Tryz.func100 (by kernel_rfl) rfl (by kernel_rfl) (by kernel_rfl) ?_
  unfold s_l5Elsewhere at h
  simp only [fnS, f100, argSt, go_sem, seval]
  refine swp_for h (fun i _ st => IV [(1, .p false [.c (.int .i64 i_1)]), (2, .p false [.c (.str v_2)]), (3, .bp 0 0), (7, .p false [.c (.int .i64 ((i : Nat) : Int))])] [.box 52 [.c (.str r_0.name), .c (.int .i64 r_0.priority), .c (.sl 99 5 (List.map eCond r_0.cond)), .c (.sl 62 3 (List.map eAction r_0.thn))]] st) [] [0] (by decide) ?_ ?_ ?_
  · simp only [go_sem, seval, *]
  · rintro i19 x20 ⟨⟩ ⟨sl, ob, n⟩ y1 hx2 hI3 hW4 h hy1
    simp only [go_sem, seval, str_len] at hI3
    obtain ⟨⟨g5_1, g5_2, g5_3, g5_7⟩, og5_0, hn⟩ := hI3
    subst hn
    have hlhx2 := WF.boxL hW4 og5_0 (j := 2) rfl
    have q6 := lt_t hx2
    have q7 := lt_p hx2
    have q8 := nat_in (lt_n hx2) hlhx2
    try simp only [go_sem, seval, *]
    refine ite_K h (fun c9 h => ?_) (fun c9 h => ?_) <;> try simp only [go_sem, seval, *]
    · obtain ⟨v21, e10, h⟩ := bind_K h
      refine call_K (by have hh := s_CondVars_ok e10; first | exact hh | (simp only [go_sem, *] at hh; exact hh)) ?_
      try simp only [go_sem, seval, *]
      obtain ⟨v22, e11, h⟩ := bind_K h
      refine call_K (by have hh := s_l1HasText_ok e11; first | exact hh | (simp only [go_sem, *] at hh; exact hh)) ?_
      try simp only [go_sem, seval, *]
      refine ite_K h (fun c12 h => ?_) (fun c12 h => ?_) <;> try simp only [go_sem, seval, *]
      · replace h := inr_K h hy1
        obtain rfl := Option.some.inj h
        try simp only [go_sem, seval, *]
      · refine ⟨_, [], [0], (Option.some.inj h).symm, by decide, ?_⟩
        try simp only [go_sem, seval, *]
    · refine ⟨_, [], [0], (Option.some.inj h).symm, by decide, ?_⟩
      try simp only [go_sem, seval, *]
  · rintro ⟨⟩ ⟨sl, ob, n⟩ hI13 hW14 h
    simp only [go_sem, seval, str_len] at hI13
    obtain ⟨⟨g15_1, g15_2, g15_3, g15_7⟩, og15_0, hn⟩ := hI13
    subst hn
    have q16 := lt_f (r_0.cond.length)
    try simp only [go_sem, seval, *]
    refine swp_for h (fun i _ st => IV [(2, .p false [.c (.str v_2)]), (3, .bp 0 0), (8, .p false [.c (.int .i64 ((i : Nat) : Int))])] [.box 52 [.c (.str r_0.name), .c (.int .i64 r_0.priority), .c (.sl 99 5 (List.map eCond r_0.cond)), .c (.sl 62 3 (List.map eAction r_0.thn))]] st) [] [0] (by decide) ?_ ?_ ?_
    · simp only [go_sem, seval, *]
    · rintro i30 x31 ⟨⟩ ⟨sl, ob, n⟩ y17 hx18 hI19 hW20 h hy17
      simp only [go_sem, seval, str_len] at hI19
      obtain ⟨⟨g21_2, g21_3, g21_8⟩, og21_0, hn⟩ := hI19
      subst hn
      have hlhx18 := WF.boxL hW20 og21_0 (j := 3) rfl
      have q22 := lt_t hx18
      have q23 := lt_p hx18
      have q24 := nat_in (lt_n hx18) hlhx18
      try simp only [go_sem, seval, *]
      obtain ⟨v32, e25, h⟩ := bind_K h
      refine call_K (by have hh := s_VarsOf_ok e25; first | exact hh | (simp only [go_sem, *] at hh; exact hh)) ?_
      try simp only [go_sem, seval, *]
      obtain ⟨v33, e26, h⟩ := bind_K h
      refine call_K (by have hh := s_l1HasText_ok e26; first | exact hh | (simp only [go_sem, *] at hh; exact hh)) ?_
      try simp only [go_sem, seval, *]
      refine ite_K h (fun c27 h => ?_) (fun c27 h => ?_) <;> try simp only [go_sem, seval, *]
      · replace h := inr_K h hy17
        obtain rfl := Option.some.inj h
        try simp only [go_sem, seval, *]
      · refine ⟨_, [], [0], (Option.some.inj h).symm, by decide, ?_⟩
        try simp only [go_sem, seval, *]
    · rintro ⟨⟩ ⟨sl, ob, n⟩ hI28 hW29 h
      simp only [go_sem, seval, str_len] at hI28
      obtain ⟨⟨g30_2, g30_3, g30_8⟩, og30_0, hn⟩ := hI28
      subst hn
      have q31 := lt_f (r_0.thn.length)
      obtain rfl := Option.some.inj h
      try simp only [go_sem, seval, *]
theorem s_IsAction_ok {a_0 : ActionD} {r : Bool} (h : s_IsAction a_0 = some r) : Sound Tryz.prog J0 101 [(true, eAction a_0)] [(false, [(false, .bool r)])] := by
  refine fnk Tryz.func101 (by kernel_rfl) rfl (by kernel_rfl) (by kernel_rfl) ?_
  unfold s_IsAction at h
  have ks0 : strOk ⟨#[]⟩ = true := by decide
  simp only [fnS, f101, argSt, go_sem, seval, ks0]
  refine ite_K h (fun c1 h => ?_) (fun c1 h => ?_) <;> try simp only [go_sem, seval, *]
  · obtain ⟨v1, e2, h⟩ := bind_K h
    refine call_K (by have hh := s_IsPattern_ok e2; first | exact hh | (simp only [go_sem, *] at hh; exact hh)) ?_
    obtain rfl := Option.some.inj h
    try simp only [go_sem, seval, *]
  · refine ite_K h (fun c3 h => ?_) (fun c3 h => ?_) <;> try simp only [go_sem, seval, *]
    · obtain ⟨v2, e4, h⟩ := bind_K h
      refine call_K (by have hh := s_IsPattern_ok e4; first | exact hh | (simp only [go_sem, *] at hh; exact hh)) ?_
      obtain rfl := Option.some.inj h
      try simp only [go_sem, seval, *]
    · refine ite_K h (fun c5 h => ?_) (fun c5 h => ?_) <;> try simp only [go_sem, seval, *]
      · refine ite_K h (fun c6 h => ?_) (fun c6 h => ?_) <;> try simp only [go_sem, seval, *]
        · obtain rfl := Option.some.inj h
          try simp only [go_sem, seval, *]
        · obtain rfl := Option.some.inj h
          try simp only [go_sem, seval, *]
      · obtain rfl := Option.some.inj h
        try simp only [go_sem, seval, *]
theorem s_RuleVars_ok {r_0 : RuleD} {r : (List ByteArray)} (h : s_RuleVars r_0 = some r) : Sound Tryz.prog J0 103 [(true, eRule r_0)] [(false, [(false, .sl 9 1 (List.map eStr r))])] := by
  refine fnk Tryz.func103 (by kernel_rfl) rfl (by kernel_rfl) (by kernel_rfl) ?_
  unfold s_RuleVars at h
  simp only [fnS, f103, argSt, go_sem, seval]
  refine swp_for h (fun i row_12 st => IV [(1, .bp 0 0), (3, .p false [.row 1]), (4, .p false [.c (.int .i64 ((i : Nat) : Int))])] [.box 52 [.c (.str r_0.name), .c (.int .i64 r_0.priority), .c (.sl 99 5 (List.map eCond r_0.cond)), .c (.sl 62 3 (List.map eAction r_0.thn))], .row 9 1 (List.map eStr row_12) 2] st) [] [0, 32] (by decide) ?_ ?_ ?_
  · simp only [go_sem, seval, *]
  · rintro i61 x62 row_12 ⟨sl, ob, n⟩ y1 hx2 hI3 hW4 h hy1
    simp only [go_sem, seval, str_len] at hI3
    obtain ⟨⟨g5_1, g5_3, g5_4⟩, og5_0, og5_1, hn⟩ := hI3
    subst hn
    have hlhx2 := WF.boxL hW4 og5_0 (j := 2) rfl
    have q6 := lt_t hx2
    have q7 := lt_p hx2
    have q8 := nat_in (lt_n hx2) hlhx2
    try simp only [go_sem, seval, *]
    obtain ⟨v63, e9, h⟩ := bind_K h
    refine call_K (by have hh := s_CondVars_ok e9; first | exact hh | (simp only [go_sem, *] at hh; exact hh)) ?_
    try simp only [go_sem, seval, *]
    refine swp_for h (fun i row_66 st => IV [(1, .bp 0 0), (3, .p false [.row 1]), (4, .p false [.c (.int .i64 ((i61 : Nat) : Int))]), (5, .p false [.row 2]), (6, .p false [.c (.int .i64 ((i : Nat) : Int))])] [.box 52 [.c (.str r_0.name), .c (.int .i64 r_0.priority), .c (.sl 99 5 (List.map eCond r_0.cond)), .c (.sl 62 3 (List.map eAction r_0.thn))], .row 9 1 (List.map eStr row_66) 2, .row 9 1 (List.map eStr v63) 2] st) [] [0, 1, 162] (by decide) ?_ ?_ ?_
    · simp only [go_sem, seval, *]
    · rintro i70 x71 row_66 ⟨sl, ob, n⟩ y10 hx11 hI12 hW13 h hy10
      simp only [go_sem, seval, str_len] at hI12
      obtain ⟨⟨g14_1, g14_3, g14_4, g14_5, g14_6⟩, og14_0, og14_1, og14_2, hn⟩ := hI12
      subst hn
      have hlhx11 := WF.rowL hW13 og14_2
      have q15 := lt_t hx11
      have q16 := lt_p hx11
      have q17 := nat_in (lt_n hx11) hlhx11
      try simp only [go_sem, seval, *]
      obtain ⟨v72, e18, h⟩ := bind_K h
      refine call_K (by have hh := s_l1Put_ok e18; first | exact hh | (simp only [go_sem, *] at hh; exact hh)) ?_
      try simp only [go_sem, seval, *]
      refine ⟨_, [], [0, 147, 2], (Option.some.inj h).symm, by decide, ?_⟩
      try simp only [go_sem, seval, *]
    · rintro row_66 ⟨sl, ob, n⟩ hI19 hW20 h
      simp only [go_sem, seval, str_len] at hI19
      obtain ⟨⟨g21_1, g21_3, g21_4, g21_5, g21_6⟩, og21_0, og21_1, og21_2, hn⟩ := hI19
      subst hn
      have q22 := lt_f (v63.length)
      try simp only [go_sem, seval, *]
      refine ⟨_, [], [0, 1], (Option.some.inj h).symm, by decide, ?_⟩
      try simp only [go_sem, seval, *]
  · rintro row_12 ⟨sl, ob, n⟩ hI23 hW24 h
    simp only [go_sem, seval, str_len] at hI23
    obtain ⟨⟨g25_1, g25_3, g25_4⟩, og25_0, og25_1, hn⟩ := hI23
    subst hn
    have q26 := lt_f (r_0.cond.length)
    try simp only [go_sem, seval, *]
    refine swp_for h (fun i row_84 st => IV [(1, .bp 0 0), (3, .p false [.row 1]), (7, .p false [.c (.int .i64 ((i : Nat) : Int))])] [.box 52 [.c (.str r_0.name), .c (.int .i64 r_0.priority), .c (.sl 99 5 (List.map eCond r_0.cond)), .c (.sl 62 3 (List.map eAction r_0.thn))], .row 9 1 (List.map eStr row_84) 2] st) [] [0, 1] (by decide) ?_ ?_ ?_
    · simp only [go_sem, seval, *]
    · rintro i97 x98 row_84 ⟨sl, ob, n⟩ y27 hx28 hI29 hW30 h hy27
      simp only [go_sem, seval, str_len] at hI29
      obtain ⟨⟨g31_1, g31_3, g31_7⟩, og31_0, og31_1, hn⟩ := hI29
      subst hn
      have hlhx28 := WF.boxL hW30 og31_0 (j := 3) rfl
      have q32 := lt_t hx28
      have q33 := lt_p hx28
      have q34 := nat_in (lt_n hx28) hlhx28
      try simp only [go_sem, seval, *]
      obtain ⟨v99, e35, h⟩ := bind_K h
      refine call_K (by have hh := s_VarsOf_ok e35; first | exact hh | (simp only [go_sem, *] at hh; exact hh)) ?_
      try simp only [go_sem, seval, *]
      refine swp_for h (fun i row_102 st => IV [(1, .bp 0 0), (3, .p false [.row 1]), (7, .p false [.c (.int .i64 ((i97 : Nat) : Int))]), (8, .p false [.row 2]), (9, .p false [.c (.int .i64 ((i : Nat) : Int))])] [.box 52 [.c (.str r_0.name), .c (.int .i64 r_0.priority), .c (.sl 99 5 (List.map eCond r_0.cond)), .c (.sl 62 3 (List.map eAction r_0.thn))], .row 9 1 (List.map eStr row_102) 2, .row 9 1 (List.map eStr v99) 2] st) [] [0, 1, 178] (by decide) ?_ ?_ ?_
      · simp only [go_sem, seval, *]
      · rintro i106 x107 row_102 ⟨sl, ob, n⟩ y36 hx37 hI38 hW39 h hy36
        simp only [go_sem, seval, str_len] at hI38
        obtain ⟨⟨g40_1, g40_3, g40_7, g40_8, g40_9⟩, og40_0, og40_1, og40_2, hn⟩ := hI38
        subst hn
        have hlhx37 := WF.rowL hW39 og40_2
        have q41 := lt_t hx37
        have q42 := lt_p hx37
        have q43 := nat_in (lt_n hx37) hlhx37
        try simp only [go_sem, seval, *]
        obtain ⟨v108, e44, h⟩ := bind_K h
        refine call_K (by have hh := s_l1Put_ok e44; first | exact hh | (simp only [go_sem, *] at hh; exact hh)) ?_
        try simp only [go_sem, seval, *]
        refine ⟨_, [], [0, 147, 2], (Option.some.inj h).symm, by decide, ?_⟩
        try simp only [go_sem, seval, *]
      · rintro row_102 ⟨sl, ob, n⟩ hI45 hW46 h
        simp only [go_sem, seval, str_len] at hI45
        obtain ⟨⟨g47_1, g47_3, g47_7, g47_8, g47_9⟩, og47_0, og47_1, og47_2, hn⟩ := hI45
        subst hn
        have q48 := lt_f (v99.length)
        try simp only [go_sem, seval, *]
        refine ⟨_, [], [0, 1], (Option.some.inj h).symm, by decide, ?_⟩
        try simp only [go_sem, seval, *]
    · rintro row_84 ⟨sl, ob, n⟩ hI49 hW50 h
      simp only [go_sem, seval, str_len] at hI49
      obtain ⟨⟨g51_1, g51_3, g51_7⟩, og51_0, og51_1, hn⟩ := hI49
      subst hn
      have q52 := lt_f (r_0.thn.length)
      obtain rfl := Option.some.inj h
      try simp only [go_sem, seval, *]
theorem s_MatchFact_ok {append_0 : PatternD} {String_1 : FactD} {a_2 : (List PairD)} {r : ((List PairD) × Bool)} (h : s_MatchFact append_0 String_1 a_2 = some r) : Sound Tryz.prog J0 132 [(true, ePattern append_0), (true, eFact String_1), (false, [.sl 119 2 (List.map ePair a_2)])] [(false, [(false, .sl 119 2 (List.map ePair r.1))]), (false, [(false, .bool r.2)])] := by
  refine fnk Tryz.func132 (by kernel_rfl) rfl (by kernel_rfl) (by kernel_rfl) ?_
  unfold s_MatchFact at h
  simp only [fnS, f132, argSt, go_sem, seval]
  obtain ⟨v1, e1, h⟩ := bind_K h
  refine call_K (by have hh := s_IsPattern_ok e1; first | exact hh | (simp only [go_sem, *] at hh; exact hh)) ?_
  try simp only [go_sem, seval, *]
  refine ite_K h (fun c2 h => ?_) (fun c2 h => ?_) <;> try simp only [go_sem, seval, *]
  · obtain ⟨v2, e3, h⟩ := bind_K h
    refine call_K (by have hh := s_IsFact_ok e3; first | exact hh | (simp only [go_sem, *] at hh; exact hh)) ?_
    try simp only [go_sem, seval, *]
    refine ite_K h (fun c4 h => ?_) (fun c4 h => ?_) <;> try simp only [go_sem, seval, *]
    · obtain ⟨v3, e5, h⟩ := bind_K h
      refine call_K (by have hh := s_IsBinding_ok e5; first | exact hh | (simp only [go_sem, *] at hh; exact hh)) ?_
      try simp only [go_sem, seval, *]
      refine ite_K h (fun c6 h => ?_) (fun c6 h => ?_) <;> try simp only [go_sem, seval, *]
      · refine ite_K h (fun c7 h => ?_) (fun c7 h => ?_) <;> try simp only [go_sem, seval, *]
        · refine ite_K h (fun c8 h => ?_) (fun c8 h => ?_) <;> try simp only [go_sem, seval, *]
          · obtain rfl := Option.some.inj h
            try simp only [go_sem, seval, *]
          · obtain ⟨v4, e9, h⟩ := bind_K h
            refine call_K (by have hh := s_l3Copy_ok e9; first | exact hh | (simp only [go_sem, *] at hh; exact hh)) ?_
            try simp only [go_sem, seval, *]
            refine swp_for h (fun i row_16 st => IV [(3, .bp 0 0), (4, .bp 1 0), (8, .p false [.row 2]), (9, .p false [.c (.int .i64 ((i : Nat) : Int))])] [.box 60 [.c (.str append_0.rel), .c (.sl 9 1 (List.map eStr append_0.args))], .box 57 [.c (.str String_1.rel), .c (.sl 9 1 (List.map eStr String_1.args))], .row 119 2 (List.map ePair row_16) 2] st) [] [0, 16, 544] (by decide) ?_ ?_ ?_
            · simp only [go_sem, seval, *]
            · rintro i22 x23 row_16 ⟨sl, ob, n⟩ y10 hx11 hI12 hW13 h hy10
              simp only [go_sem, seval, str_len] at hI12
              obtain ⟨⟨g14_3, g14_4, g14_8, g14_9⟩, og14_0, og14_1, og14_2, hn⟩ := hI12
              subst hn
              have hlhx11 := WF.boxL hW13 og14_0 (j := 1) rfl
              have q15 := lt_t hx11
              have q16 := lt_p hx11
              have q17 := nat_in (lt_n hx11) hlhx11
              try simp only [go_sem, seval, *]
              obtain ⟨v24, e18, h⟩ := bind_K h
              refine call_K (by have hh := s_IsAtom_ok e18; first | exact hh | (simp only [go_sem, *] at hh; exact hh)) ?_
              try simp only [go_sem, seval, *]
              refine ite_K h (fun c19 h => ?_) (fun c19 h => ?_) <;> try simp only [go_sem, seval, *]
              · obtain ⟨x25, a20, a21, e22, h⟩ := at_K h
                simp only [Int.toNat_natCast] at e22
                try simp only [go_sem, seval, *]
                refine ite_K h (fun c23 h => ?_) (fun c23 h => ?_) <;> try simp only [go_sem, seval, *]
                · refine ⟨_, [], [0, 1, 2], (Option.some.inj h).symm, by decide, ?_⟩
                  try simp only [go_sem, seval, *]
                · replace h := inr_K h hy10
                  obtain rfl := Option.some.inj h
                  try simp only [go_sem, seval, *]
              · obtain ⟨x26, a24, a25, e26, h⟩ := at_K h
                simp only [Int.toNat_natCast] at e26
                try simp only [go_sem, seval, *]
                obtain ⟨v27, e27, h⟩ := bind_K h
                refine call_K (by have hh := s_Extend_ok e27; first | exact hh | (simp only [go_sem, *] at hh; exact hh)) ?_
                try simp only [go_sem, seval, *]
                refine ite_K h (fun c28 h => ?_) (fun c28 h => ?_) <;> try simp only [go_sem, seval, *]
                · refine ⟨_, [], [0, 1, 355], (Option.some.inj h).symm, by decide, ?_⟩
                  try simp only [go_sem, seval, *]
                · replace h := inr_K h hy10
                  obtain rfl := Option.some.inj h
                  try simp only [go_sem, seval, *]
            · rintro row_16 ⟨sl, ob, n⟩ hI29 hW30 h
              simp only [go_sem, seval, str_len] at hI29
              obtain ⟨⟨g31_3, g31_4, g31_8, g31_9⟩, og31_0, og31_1, og31_2, hn⟩ := hI29
              subst hn
              have q32 := lt_f (append_0.args.length)
              obtain rfl := Option.some.inj h
              try simp only [go_sem, seval, *]
        · obtain rfl := Option.some.inj h
          try simp only [go_sem, seval, *]
      · obtain rfl := Option.some.inj h
        try simp only [go_sem, seval, *]
    · obtain rfl := Option.some.inj h
      try simp only [go_sem, seval, *]
  · obtain rfl := Option.some.inj h
    try simp only [go_sem, seval, *]
theorem s_Instance_ok {p_0 : PatternD} {b_1 : (List PairD)} {r : (FactD × Bool)} (h : s_Instance p_0 b_1 = some r) : Sound Tryz.prog J0 22 [(true, ePattern p_0), (false, [.sl 119 2 (List.map ePair b_1)])] [(true, [(false, .str r.1.rel), (false, .sl 9 1 (List.map eStr r.1.args))]), (false, [(false, .bool r.2)])] := by
  refine fnk Tryz.func22 (by kernel_rfl) rfl (by kernel_rfl) (by kernel_rfl) ?_
  unfold s_Instance at h
  simp only [fnS, f22, argSt, go_sem, seval]
  obtain ⟨v1, e1, h⟩ := bind_K h
  refine call_K (by have hh := s_IsPattern_ok e1; first | exact hh | (simp only [go_sem, *] at hh; exact hh)) ?_
  try simp only [go_sem, seval, *]
  refine ite_K h (fun c2 h => ?_) (fun c2 h => ?_) <;> try simp only [go_sem, seval, *]
  · obtain ⟨v2, e3, h⟩ := bind_K h
    refine call_K (by have hh := s_IsBinding_ok e3; first | exact hh | (simp only [go_sem, *] at hh; exact hh)) ?_
    try simp only [go_sem, seval, *]
    refine ite_K h (fun c4 h => ?_) (fun c4 h => ?_) <;> try simp only [go_sem, seval, *]
    · refine swp_for h (fun i row_7 st => IV [(1, .p false [.c (.sl 119 2 (List.map ePair b_1))]), (2, .bp 0 0), (4, .bp 1 0), (6, .bp 2 0), (7, .p false [.c (.int .i64 ((i : Nat) : Int))])] [.box 60 [.c (.str p_0.rel), .c (.sl 9 1 (List.map eStr p_0.args))], .box 57 [.c (.str ⟨#[]⟩), .nil 9 1], .box 57 [.c (.str p_0.rel), .row 3], .row 9 1 (List.map eStr row_7) 2] st) [(true, 224, 1)] [0, 16, 224, 272] (by decide) ?_ ?_ ?_
      · simp only [go_sem, seval, *]
      · rintro i11 x12 row_7 ⟨sl, ob, n⟩ y5 hx6 hI7 hW8 h hy5
        simp only [go_sem, seval, str_len] at hI7
        obtain ⟨⟨g9_1, g9_2, g9_4, g9_6, g9_7⟩, og9_0, og9_1, og9_2, og9_3, hn⟩ := hI7
        subst hn
        have hlhx6 := WF.boxL hW8 og9_0 (j := 1) rfl
        have q10 := lt_t hx6
        have q11 := lt_p hx6
        have q12 := nat_in (lt_n hx6) hlhx6
        try simp only [go_sem, seval, *]
        obtain ⟨v13, e13, h⟩ := bind_K h
        refine call_K (by have hh := s_ValueOf_ok e13; first | exact hh | (simp only [go_sem, *] at hh; exact hh)) ?_
        try simp only [go_sem, seval, *]
        refine ite_K h (fun c14 h => ?_) (fun c14 h => ?_) <;> try simp only [go_sem, seval, *]
        · obtain ⟨p15, h⟩ := chk_K h
          try simp only [Nat.reduceLeDiff] at p15
          try simp only [go_sem, seval, *]
          refine ⟨_, [], [0, 1, 2, 372], (Option.some.inj h).symm, by decide, ?_⟩
          try simp only [go_sem, seval, *]
        · replace h := inr_K h hy5
          obtain rfl := Option.some.inj h
          try simp only [go_sem, seval, *]
      · rintro row_7 ⟨sl, ob, n⟩ hI16 hW17 h
        simp only [go_sem, seval, str_len] at hI16
        obtain ⟨⟨g18_1, g18_2, g18_4, g18_6, g18_7⟩, og18_0, og18_1, og18_2, og18_3, hn⟩ := hI16
        subst hn
        have q19 := lt_f (p_0.args.length)
        obtain rfl := Option.some.inj h
        try simp only [go_sem, seval, *]
    · obtain rfl := Option.some.inj h
      try simp only [go_sem, seval, *]
  · obtain rfl := Option.some.inj h
    try simp only [go_sem, seval, *]
theorem i_condFits_ok {r_0 : RuleD} {k_1 : Int} {r : Bool} (h : i_condFits r_0 k_1 = some r) : Sound Tryz.prog J0 110 [(true, eRule r_0), (false, [.int .i64 k_1])] [(false, [(false, .bool r)])] := by
  refine fnk Tryz.func110 (by kernel_rfl) rfl (by kernel_rfl) (by kernel_rfl) ?_
  unfold i_condFits at h
  simp only [fnS, f110, argSt, go_sem, seval]
  obtain ⟨x1, a1, a2, e3, h⟩ := at_K h
  try simp only [go_sem, seval, *]
  obtain ⟨v2, e4, h⟩ := bind_K h
  refine call_K (by have hh := i_BoundVars_ok e4; first | exact hh | (simp only [go_sem, *] at hh; exact hh)) ?_
  try simp only [go_sem, seval, *]
  obtain ⟨v3, e5, h⟩ := bind_K h
  refine call_K (by have hh := i_CondVars_ok e5; first | exact hh | (simp only [go_sem, *] at hh; exact hh)) ?_
  try simp only [go_sem, seval, *]
  refine swp_for h (fun i _ st => IV [(1, .p false [.c (.int .i64 k_1)]), (2, .bp 0 0), (5, .bp 1 0), (6, .p false [.row 2]), (18, .p false [.row 3]), (19, .p false [.c (.int .i64 ((v3.length : Nat) : Int))]), (20, .p false [.c (.int .i64 ((i : Nat) : Int))])] [.box 52 [.c (.str r_0.name), .c (.int .i64 r_0.priority), .c (.sl 99 5 (List.map eCond r_0.cond)), .c (.sl 62 3 (List.map eAction r_0.thn))], .box 99 [.c (.int .i64 x1.kind), .c (.str x1.pattern.rel), .c (.sl 9 1 (List.map eStr x1.pattern.args)), .c (.str x1.left), .c (.str x1.right)], .row 9 1 (List.map eStr v2) 2, .row 9 1 (List.map eStr v3) 2] st) [] [0, 112, 176, 224] (by decide) ?_ ?_ ?_
  · simp only [go_sem, seval, *]
  · rintro i11 x12 ⟨⟩ ⟨sl, ob, n⟩ y6 hx7 hI8 hW9 h hy6
    simp only [go_sem, seval, str_len] at hI8
    obtain ⟨⟨g10_1, g10_2, g10_5, g10_6, g10_18, g10_19, g10_20⟩, og10_0, og10_1, og10_2, og10_3, hn⟩ := hI8
    subst hn
    have hlhx7 := WF.rowL hW9 og10_3
    have q11 := lt_t hx7
    have q12 := lt_p hx7
    have q13 := nat_in (lt_n hx7) hlhx7
    try simp only [go_sem, seval, *]
    refine ite_K h (fun c14 h => ?_) (fun c14 h => ?_) <;> try simp only [go_sem, seval, *]
    · refine ⟨_, [], [0, 1, 2, 3], (Option.some.inj h).symm, by decide, ?_⟩
      try simp only [go_sem, seval, *]
    · obtain ⟨v13, e15, h⟩ := bind_K h
      refine call_K (by have hh := i_hasText_ok e15; first | exact hh | (simp only [go_sem, *] at hh; exact hh)) ?_
      try simp only [go_sem, seval, *]
      refine ite_K h (fun c16 h => ?_) (fun c16 h => ?_) <;> try simp only [go_sem, seval, *]
      · refine ⟨_, [], [0, 1, 2, 3], (Option.some.inj h).symm, by decide, ?_⟩
        try simp only [go_sem, seval, *]
      · refine ite_K h (fun c17 h => ?_) (fun c17 h => ?_) <;> try simp only [go_sem, seval, *]
        · replace h := inr_K h hy6
          obtain rfl := Option.some.inj h
          try simp only [go_sem, seval, *]
        · obtain ⟨v14, e18, h⟩ := bind_K h
          refine call_K (by have hh := i_occursElsewhere_ok e18; first | exact hh | (simp only [go_sem, *] at hh; exact hh)) ?_
          try simp only [go_sem, seval, *]
          refine ite_K h (fun c19 h => ?_) (fun c19 h => ?_) <;> try simp only [go_sem, seval, *]
          · replace h := inr_K h hy6
            obtain rfl := Option.some.inj h
            try simp only [go_sem, seval, *]
          · refine ⟨_, [], [0, 1, 2, 3], (Option.some.inj h).symm, by decide, ?_⟩
            try simp only [go_sem, seval, *]
  · rintro ⟨⟩ ⟨sl, ob, n⟩ hI20 hW21 h
    simp only [go_sem, seval, str_len] at hI20
    obtain ⟨⟨g22_1, g22_2, g22_5, g22_6, g22_18, g22_19, g22_20⟩, og22_0, og22_1, og22_2, og22_3, hn⟩ := hI20
    subst hn
    have q23 := lt_f (v3.length)
    obtain rfl := Option.some.inj h
    try simp only [go_sem, seval, *]
theorem i_MatchingFacts_ok {p_0 : PatternD} {b_1 : (List PairD)} {facts_2 : (List FactD)} {r : (List FactD)} (h : i_MatchingFacts p_0 b_1 facts_2 = some r) : Sound Tryz.prog J0 137 [(true, ePattern p_0), (false, [.sl 119 2 (List.map ePair b_1)]), (false, [.sl 57 2 (List.map eFact facts_2)])] [(false, [(false, .sl 57 2 (List.map eFact r))])] := by
  refine fnk Tryz.func137 (by kernel_rfl) rfl (by kernel_rfl) (by kernel_rfl) ?_
  unfold i_MatchingFacts at h
  simp only [fnS, f137, argSt, go_sem, seval]
  refine swp_for h (fun i row_7 st => IV [(1, .p false [.c (.sl 119 2 (List.map ePair b_1))]), (3, .bp 0 0), (7, .p false [.row 1]), (12, .p false [.c (.sl 57 2 (List.map eFact facts_2))]), (13, .p false [.c (.int .i64 ((facts_2.length : Nat) : Int))]), (14, .p false [.c (.int .i64 ((i : Nat) : Int))])] [.box 60 [.c (.str p_0.rel), .c (.sl 9 1 (List.map eStr p_0.args))], .row 57 2 (List.map eFact row_7) 2] st) [(false, 7, 0)] [0, 96] (by decide) ?_ ?_ ?_
  · simp only [go_sem, seval, *]
  · rintro i12 x13 row_7 ⟨sl, ob, n⟩ y1 hx2 hI3 hW4 h hy1
    simp only [go_sem, seval, str_len] at hI3
    obtain ⟨⟨g5_1, g5_3, g5_7, g5_12, g5_13, g5_14⟩, og5_0, og5_1, hn⟩ := hI3
    subst hn
    have hlhx2 := WF.slotL hW4 g5_12 (j := 0) rfl
    have q6 := lt_t hx2
    have q7 := lt_p hx2
    have q8 := nat_in (lt_n hx2) hlhx2
    try simp only [go_sem, seval, *]
    obtain ⟨v14, e9, h⟩ := bind_K h
    refine call_K (by have hh := i_MatchFact_ok e9; first | exact hh | (simp only [go_sem, *] at hh; exact hh)) ?_
    try simp only [go_sem, seval, *]
    refine ite_K h (fun c10 h => ?_) (fun c10 h => ?_) <;> try simp only [go_sem, seval, *]
    · obtain ⟨v15, e11, h⟩ := bind_K h
      refine call_K (by have hh := i_copyFact_ok e11; first | exact hh | (simp only [go_sem, *] at hh; exact hh)) ?_
      obtain ⟨p12, h⟩ := chk_K h
      try simp only [Nat.reduceLeDiff] at p12
      try simp only [go_sem, seval, *]
      refine ⟨_, [], [0, 306], (Option.some.inj h).symm, by decide, ?_⟩
      try simp only [go_sem, seval, *]
    · refine ⟨_, [], [0, 1], (Option.some.inj h).symm, by decide, ?_⟩
      try simp only [go_sem, seval, *]
  · rintro row_7 ⟨sl, ob, n⟩ hI13 hW14 h
    simp only [go_sem, seval, str_len] at hI13
    obtain ⟨⟨g15_1, g15_3, g15_7, g15_12, g15_13, g15_14⟩, og15_0, og15_1, hn⟩ := hI13
    subst hn
    have q16 := lt_f (facts_2.length)
    obtain rfl := Option.some.inj h
    try simp only [go_sem, seval, *]
theorem i_IsTest_ok {x_0 : CondD} {r : Bool} (h : i_IsTest x_0 = some r) : Sound Tryz.prog J0 155 [(true, eCond x_0)] [(false, [(false, .bool r)])] := by
  refine fnk Tryz.func155 (by kernel_rfl) rfl (by kernel_rfl) (by kernel_rfl) ?_
  unfold i_IsTest at h
  simp only [fnS, f155, argSt, go_sem, seval]
  obtain ⟨v1, e1, h⟩ := bind_K h
  refine call_K (by have hh := i_IsCond_ok e1; first | exact hh | (simp only [go_sem, *] at hh; exact hh)) ?_
  try simp only [go_sem, seval, *]
  refine ite_K h (fun c2 h => ?_) (fun c2 h => ?_) <;> try simp only [go_sem, seval, *]
  · obtain rfl := Option.some.inj h
    try simp only [go_sem, seval, *]
  · obtain rfl := Option.some.inj h
    try simp only [go_sem, seval, *]
end Go.Proofs.YtlkgkkacnoaeaaaGreatDoor

namespace Go.Proofs.YtlkgkkacnoaeaaaGreatDoor
open Go.Proofs.Tryz
set_option linter.unusedSimpArgs false
set_option linter.unusedVariables false
set_option maxRecDepth 1000000
set_option maxHeartbeats 4000000
theorem s_IsTest_ok {x_0 : CondD} {r : Bool} (h : s_IsTest x_0 = some r) : Sound Tryz.prog J0 99 [(true, eCond x_0)] [(false, [(false, .bool r)])] := by
  refine fnk Tryz.func99 (by kernel_rfl) rfl (by kernel_rfl) (by kernel_rfl) ?_
  unfold s_IsTest at h
  simp only [fnS, f99, argSt, go_sem, seval]
  obtain ⟨v1, e1, h⟩ := bind_K h
  refine call_K (by have hh := s_IsCond_ok e1; first | exact hh | (simp only [go_sem, *] at hh; exact hh)) ?_
  try simp only [go_sem, seval, *]
  refine ite_K h (fun c2 h => ?_) (fun c2 h => ?_) <;> try simp only [go_sem, seval, *]
  · obtain rfl := Option.some.inj h
    try simp only [go_sem, seval, *]
  · obtain rfl := Option.some.inj h
    try simp only [go_sem, seval, *]
theorem s_MatchingFacts_ok {p_0 : PatternD} {b_1 : (List PairD)} {facts_2 : (List FactD)} {r : (List FactD)} (h : s_MatchingFacts p_0 b_1 facts_2 = some r) : Sound Tryz.prog J0 150 [(true, ePattern p_0), (false, [.sl 119 2 (List.map ePair b_1)]), (false, [.sl 57 2 (List.map eFact facts_2)])] [(false, [(false, .sl 57 2 (List.map eFact r))])] := by
  refine fnk Tryz.func150 (by kernel_rfl) rfl (by kernel_rfl) (by kernel_rfl) ?_
  unfold s_MatchingFacts at h
  simp only [fnS, f150, argSt, go_sem, seval]
  refine swp_for h (fun i row_4 st => IV [(1, .p false [.c (.sl 119 2 (List.map ePair b_1))]), (2, .p false [.c (.sl 57 2 (List.map eFact facts_2))]), (3, .bp 0 0), (7, .p false [.row 1]), (8, .p false [.c (.int .i64 ((i : Nat) : Int))])] [.box 60 [.c (.str p_0.rel), .c (.sl 9 1 (List.map eStr p_0.args))], .row 57 2 (List.map eFact row_4) 2] st) [] [0, 32] (by decide) ?_ ?_ ?_
  · simp only [go_sem, seval, *]
  · rintro i9 x10 row_4 ⟨sl, ob, n⟩ y1 hx2 hI3 hW4 h hy1
    simp only [go_sem, seval, str_len] at hI3
    obtain ⟨⟨g5_1, g5_2, g5_3, g5_7, g5_8⟩, og5_0, og5_1, hn⟩ := hI3
    subst hn
    have hlhx2 := WF.slotL hW4 g5_2 (j := 0) rfl
    have q6 := lt_t hx2
    have q7 := lt_p hx2
    have q8 := nat_in (lt_n hx2) hlhx2
    try simp only [go_sem, seval, *]
    obtain ⟨v11, e9, h⟩ := bind_K h
    refine call_K (by have hh := s_MatchFact_ok e9; first | exact hh | (simp only [go_sem, *] at hh; exact hh)) ?_
    try simp only [go_sem, seval, *]
    refine ite_K h (fun c10 h => ?_) (fun c10 h => ?_) <;> try simp only [go_sem, seval, *]
    · obtain ⟨v12, e11, h⟩ := bind_K h
      refine call_K (by have hh := s_l2Copy_ok e11; first | exact hh | (simp only [go_sem, *] at hh; exact hh)) ?_
      obtain ⟨p12, h⟩ := chk_K h
      try simp only [Nat.reduceLeDiff] at p12
      try simp only [go_sem, seval, *]
      refine ⟨_, [], [0, 386], (Option.some.inj h).symm, by decide, ?_⟩
      try simp only [go_sem, seval, *]
    · refine ⟨_, [], [0, 1], (Option.some.inj h).symm, by decide, ?_⟩
      try simp only [go_sem, seval, *]
  · rintro row_4 ⟨sl, ob, n⟩ hI13 hW14 h
    simp only [go_sem, seval, str_len] at hI13
    obtain ⟨⟨g15_1, g15_2, g15_3, g15_7, g15_8⟩, og15_0, og15_1, hn⟩ := hI13
    subst hn
    have q16 := lt_f (facts_2.length)
    obtain rfl := Option.some.inj h
    try simp only [go_sem, seval, *]
theorem i_IsRule_ok {append_0 : RuleD} {r : Bool} (h : i_IsRule append_0 = some r) : Sound Tryz.prog J0 64 [(true, eRule append_0)] [(false, [(false, .bool r)])] := by
  refine fnk Tryz.func64 (by kernel_rfl) rfl (by kernel_rfl) (by kernel_rfl) ?_
  unfold i_IsRule at h
  simp only [fnS, f64, argSt, go_sem, seval]
  obtain ⟨v1, e1, h⟩ := bind_K h
  refine call_K (by have hh := i_IsName_ok e1; first | exact hh | (simp only [go_sem, *] at hh; exact hh)) ?_
  try simp only [go_sem, seval, *]
  refine ite_K h (fun c2 h => ?_) (fun c2 h => ?_) <;> try simp only [go_sem, seval, *]
  · refine ite_K h (fun c3 h => ?_) (fun c3 h => ?_) <;> try simp only [go_sem, seval, *]
    · obtain rfl := Option.some.inj h
      try simp only [go_sem, seval, *]
    · refine ite_K h (fun c4 h => ?_) (fun c4 h => ?_) <;> try simp only [go_sem, seval, *]
      · obtain rfl := Option.some.inj h
        try simp only [go_sem, seval, *]
      · refine ite_K h (fun c5 h => ?_) (fun c5 h => ?_) <;> try simp only [go_sem, seval, *]
        · obtain rfl := Option.some.inj h
          try simp only [go_sem, seval, *]
        · refine ite_K h (fun c6 h => ?_) (fun c6 h => ?_) <;> try simp only [go_sem, seval, *]
          · obtain rfl := Option.some.inj h
            try simp only [go_sem, seval, *]
          · refine ite_K h (fun c7 h => ?_) (fun c7 h => ?_) <;> try simp only [go_sem, seval, *]
            · obtain rfl := Option.some.inj h
              try simp only [go_sem, seval, *]
            · refine ite_K h (fun c8 h => ?_) (fun c8 h => ?_) <;> try simp only [go_sem, seval, *]
              · obtain rfl := Option.some.inj h
                try simp only [go_sem, seval, *]
              · refine swp_for h (fun i _ st => IV [(1, .bp 0 0), (49, .p false [.c (.sl 99 5 (List.map eCond append_0.cond))]), (50, .p false [.c (.int .i64 ((append_0.cond.length : Nat) : Int))]), (51, .p false [.c (.int .i64 ((i : Nat) : Int))])] [.box 52 [.c (.str append_0.name), .c (.int .i64 append_0.priority), .c (.sl 99 5 (List.map eCond append_0.cond)), .c (.sl 62 3 (List.map eAction append_0.thn))]] st) [] [0] (by decide) ?_ ?_ ?_
                · simp only [go_sem, seval, *]
                · rintro i50 x51 ⟨⟩ ⟨sl, ob, n⟩ y9 hx10 hI11 hW12 h hy9
                  simp only [go_sem, seval, str_len] at hI11
                  obtain ⟨⟨g13_1, g13_49, g13_50, g13_51⟩, og13_0, hn⟩ := hI11
                  subst hn
                  have hlhx10 := WF.slotL hW12 g13_49 (j := 0) rfl
                  have q14 := lt_t hx10
                  have q15 := lt_p hx10
                  have q16 := nat_in (lt_n hx10) hlhx10
                  try simp only [go_sem, seval, *]
                  obtain ⟨v52, e17, h⟩ := bind_K h
                  refine call_K (by have hh := i_IsCond_ok e17; first | exact hh | (simp only [go_sem, *] at hh; exact hh)) ?_
                  try simp only [go_sem, seval, *]
                  refine ite_K h (fun c18 h => ?_) (fun c18 h => ?_) <;> try simp only [go_sem, seval, *]
                  · refine ite_K h (fun c19 h => ?_) (fun c19 h => ?_) <;> try simp only [go_sem, seval, *]
                    · refine ite_K h (fun c20 h => ?_) (fun c20 h => ?_) <;> try simp only [go_sem, seval, *]
                      · replace h := inr_K h hy9
                        obtain rfl := Option.some.inj h
                        try simp only [go_sem, seval, *]
                      · obtain ⟨v53, e21, h⟩ := bind_K h
                        refine call_K (by have hh := i_condFits_ok e21; first | exact hh | (simp only [go_sem, *] at hh; exact hh)) ?_
                        try simp only [go_sem, seval, *]
                        refine ite_K h (fun c22 h => ?_) (fun c22 h => ?_) <;> try simp only [go_sem, seval, *]
                        · refine ⟨_, [], [0], (Option.some.inj h).symm, by decide, ?_⟩
                          try simp only [go_sem, seval, *]
                        · replace h := inr_K h hy9
                          obtain rfl := Option.some.inj h
                          try simp only [go_sem, seval, *]
                    · obtain ⟨v54, e23, h⟩ := bind_K h
                      refine call_K (by have hh := i_condFits_ok e23; first | exact hh | (simp only [go_sem, *] at hh; exact hh)) ?_
                      try simp only [go_sem, seval, *]
                      refine ite_K h (fun c24 h => ?_) (fun c24 h => ?_) <;> try simp only [go_sem, seval, *]
                      · refine ⟨_, [], [0], (Option.some.inj h).symm, by decide, ?_⟩
                        try simp only [go_sem, seval, *]
                      · replace h := inr_K h hy9
                        obtain rfl := Option.some.inj h
                        try simp only [go_sem, seval, *]
                  · replace h := inr_K h hy9
                    obtain rfl := Option.some.inj h
                    try simp only [go_sem, seval, *]
                · rintro ⟨⟩ ⟨sl, ob, n⟩ hI25 hW26 h
                  simp only [go_sem, seval, str_len] at hI25
                  obtain ⟨⟨g27_1, g27_49, g27_50, g27_51⟩, og27_0, hn⟩ := hI25
                  subst hn
                  have q28 := lt_f (append_0.cond.length)
                  try simp only [go_sem, seval, *]
                  obtain ⟨v55, e29, h⟩ := bind_K h
                  refine call_K (by have hh := i_BoundVars_ok e29; first | exact hh | (simp only [go_sem, *] at hh; exact hh)) ?_
                  try simp only [go_sem, seval, *]
                  refine swp_for h (fun i _ st => IV [(1, .bp 0 0), (5, .p false [.row 1]), (81, .p false [.c (.sl 62 3 (List.map eAction append_0.thn))]), (82, .p false [.c (.int .i64 ((append_0.thn.length : Nat) : Int))]), (83, .p false [.c (.int .i64 ((i : Nat) : Int))])] [.box 52 [.c (.str append_0.name), .c (.int .i64 append_0.priority), .c (.sl 99 5 (List.map eCond append_0.cond)), .c (.sl 62 3 (List.map eAction append_0.thn))], .row 9 1 (List.map eStr v55) 2] st) [] [0, 81] (by decide) ?_ ?_ ?_
                  · simp only [go_sem, seval, *]
                  · rintro i81 x82 ⟨⟩ ⟨sl, ob, n⟩ y30 hx31 hI32 hW33 h hy30
                    simp only [go_sem, seval, str_len] at hI32
                    obtain ⟨⟨g34_1, g34_5, g34_81, g34_82, g34_83⟩, og34_0, og34_1, hn⟩ := hI32
                    subst hn
                    have hlhx31 := WF.slotL hW33 g34_81 (j := 0) rfl
                    have q35 := lt_t hx31
                    have q36 := lt_p hx31
                    have q37 := nat_in (lt_n hx31) hlhx31
                    try simp only [go_sem, seval, *]
                    obtain ⟨v83, e38, h⟩ := bind_K h
                    refine call_K (by have hh := i_IsAction_ok e38; first | exact hh | (simp only [go_sem, *] at hh; exact hh)) ?_
                    try simp only [go_sem, seval, *]
                    refine ite_K h (fun c39 h => ?_) (fun c39 h => ?_) <;> try simp only [go_sem, seval, *]
                    · obtain ⟨v84, e40, h⟩ := bind_K h
                      refine call_K (by have hh := i_varsAmong_ok e40; first | exact hh | (simp only [go_sem, *] at hh; exact hh)) ?_
                      try simp only [go_sem, seval, *]
                      refine swp_for h (fun i _ st => IV [(1, .bp 0 0), (5, .p false [.row 1]), (81, .p false [.c (.sl 62 3 (List.map eAction append_0.thn))]), (82, .p false [.c (.int .i64 ((append_0.thn.length : Nat) : Int))]), (83, .p false [.c (.int .i64 ((i81 : Nat) : Int))]), (93, .p false [.row 2]), (94, .p false [.c (.int .i64 ((v84.length : Nat) : Int))]), (95, .p false [.c (.int .i64 ((i : Nat) : Int))])] [.box 52 [.c (.str append_0.name), .c (.int .i64 append_0.priority), .c (.sl 99 5 (List.map eCond append_0.cond)), .c (.sl 62 3 (List.map eAction append_0.thn))], .row 9 1 (List.map eStr v55) 2, .row 9 1 (List.map eStr v84) 2] st) [] [0, 1, 178] (by decide) ?_ ?_ ?_
                      · simp only [go_sem, seval, *]
                      · rintro i90 x91 ⟨⟩ ⟨sl, ob, n⟩ y41 hx42 hI43 hW44 h hy41
                        simp only [go_sem, seval, str_len] at hI43
                        obtain ⟨⟨g45_1, g45_5, g45_81, g45_82, g45_83, g45_93, g45_94, g45_95⟩, og45_0, og45_1, og45_2, hn⟩ := hI43
                        subst hn
                        have hlhx42 := WF.rowL hW44 og45_2
                        have q46 := lt_t hx42
                        have q47 := lt_p hx42
                        have q48 := nat_in (lt_n hx42) hlhx42
                        try simp only [go_sem, seval, *]
                        obtain ⟨v92, e49, h⟩ := bind_K h
                        refine call_K (by have hh := i_hasText_ok e49; first | exact hh | (simp only [go_sem, *] at hh; exact hh)) ?_
                        try simp only [go_sem, seval, *]
                        refine ite_K h (fun c50 h => ?_) (fun c50 h => ?_) <;> try simp only [go_sem, seval, *]
                        · refine ⟨_, [], [0, 1, 2], (Option.some.inj h).symm, by decide, ?_⟩
                          try simp only [go_sem, seval, *]
                        · replace h := inr_K h hy41
                          replace h := inr_K h hy30
                          obtain rfl := Option.some.inj h
                          try simp only [go_sem, seval, *]
                      · rintro ⟨⟩ ⟨sl, ob, n⟩ hI51 hW52 h
                        simp only [go_sem, seval, str_len] at hI51
                        obtain ⟨⟨g53_1, g53_5, g53_81, g53_82, g53_83, g53_93, g53_94, g53_95⟩, og53_0, og53_1, og53_2, hn⟩ := hI51
                        subst hn
                        have q54 := lt_f (v84.length)
                        try simp only [go_sem, seval, *]
                        refine ⟨_, [], [0, 1], (Option.some.inj h).symm, by decide, ?_⟩
                        try simp only [go_sem, seval, *]
                    · replace h := inr_K h hy30
                      obtain rfl := Option.some.inj h
                      try simp only [go_sem, seval, *]
                  · rintro ⟨⟩ ⟨sl, ob, n⟩ hI55 hW56 h
                    simp only [go_sem, seval, str_len] at hI55
                    obtain ⟨⟨g57_1, g57_5, g57_81, g57_82, g57_83⟩, og57_0, og57_1, hn⟩ := hI55
                    subst hn
                    have q58 := lt_f (append_0.thn.length)
                    try simp only [go_sem, seval, *]
                    obtain ⟨v93, e59, h⟩ := bind_K h
                    refine call_K (by have hh := i_condVarsOf_ok e59; first | exact hh | (simp only [go_sem, *] at hh; exact hh)) ?_
                    try simp only [go_sem, seval, *]
                    obtain ⟨v94, e60, h⟩ := bind_K h
                    refine call_K (by have hh := i_SortedTexts_ok e60; first | exact hh | (simp only [go_sem, *] at hh; exact hh)) ?_
                    obtain rfl := Option.some.inj h
                    try simp only [go_sem, seval, *]
  · obtain rfl := Option.some.inj h
    try simp only [go_sem, seval, *]
theorem i_HoldsTest_ok {append_0 : CondD} {String_1 : (List PairD)} {r : Bool} (h : i_HoldsTest append_0 String_1 = some r) : Sound Tryz.prog J0 138 [(true, eCond append_0), (false, [.sl 119 2 (List.map ePair String_1)])] [(false, [(false, .bool r)])] := by
  refine fnk Tryz.func138 (by kernel_rfl) rfl (by kernel_rfl) (by kernel_rfl) ?_
  unfold i_HoldsTest at h
  simp only [fnS, f138, argSt, go_sem, seval]
  obtain ⟨v1, e1, h⟩ := bind_K h
  refine call_K (by have hh := i_IsTest_ok e1; first | exact hh | (simp only [go_sem, *] at hh; exact hh)) ?_
  try simp only [go_sem, seval, *]
  refine ite_K h (fun c2 h => ?_) (fun c2 h => ?_) <;> try simp only [go_sem, seval, *]
  · obtain ⟨v2, e3, h⟩ := bind_K h
    refine call_K (by have hh := i_IsBinding_ok e3; first | exact hh | (simp only [go_sem, *] at hh; exact hh)) ?_
    try simp only [go_sem, seval, *]
    refine ite_K h (fun c4 h => ?_) (fun c4 h => ?_) <;> try simp only [go_sem, seval, *]
    · obtain ⟨v3, e5, h⟩ := bind_K h
      refine call_K (by have hh := i_ValueOf_ok e5; first | exact hh | (simp only [go_sem, *] at hh; exact hh)) ?_
      try simp only [go_sem, seval, *]
      obtain ⟨v4, e6, h⟩ := bind_K h
      refine call_K (by have hh := i_ValueOf_ok e6; first | exact hh | (simp only [go_sem, *] at hh; exact hh)) ?_
      try simp only [go_sem, seval, *]
      refine ite_K h (fun c7 h => ?_) (fun c7 h => ?_) <;> try simp only [go_sem, seval, *]
      · refine ite_K h (fun c8 h => ?_) (fun c8 h => ?_) <;> try simp only [go_sem, seval, *]
        · refine ite_K h (fun c9 h => ?_) (fun c9 h => ?_) <;> try simp only [go_sem, seval, *]
          · obtain rfl := Option.some.inj h
            try simp only [go_sem, seval, *]
          · refine ite_K h (fun c10 h => ?_) (fun c10 h => ?_) <;> try simp only [go_sem, seval, *]
            · obtain rfl := Option.some.inj h
              try simp only [go_sem, seval, *]
            · obtain ⟨v5, e11, h⟩ := bind_K h
              refine call_K (by have hh := i_ParseInt_ok e11; first | exact hh | (simp only [go_sem, *] at hh; exact hh)) ?_
              try simp only [go_sem, seval, *]
              obtain ⟨v6, e12, h⟩ := bind_K h
              refine call_K (by have hh := i_ParseInt_ok e12; first | exact hh | (simp only [go_sem, *] at hh; exact hh)) ?_
              try simp only [go_sem, seval, *]
              refine ite_K h (fun c13 h => ?_) (fun c13 h => ?_) <;> try simp only [go_sem, seval, *]
              · refine ite_K h (fun c14 h => ?_) (fun c14 h => ?_) <;> try simp only [go_sem, seval, *]
                · obtain rfl := Option.some.inj h
                  try simp only [go_sem, seval, *]
                · obtain rfl := Option.some.inj h
                  try simp only [go_sem, seval, *]
              · obtain rfl := Option.some.inj h
                try simp only [go_sem, seval, *]
        · obtain rfl := Option.some.inj h
          try simp only [go_sem, seval, *]
      · obtain rfl := Option.some.inj h
        try simp only [go_sem, seval, *]
    · obtain rfl := Option.some.inj h
      try simp only [go_sem, seval, *]
  · obtain rfl := Option.some.inj h
    try simp only [go_sem, seval, *]
end Go.Proofs.YtlkgkkacnoaeaaaGreatDoor

namespace Go.Proofs.YtlkgkkacnoaeaaaGreatDoor
open Go.Proofs.Tryz
set_option linter.unusedSimpArgs false
set_option linter.unusedVariables false
set_option maxRecDepth 1000000
set_option maxHeartbeats 4000000
theorem s_IsRule_ok {append_0 : RuleD} {r : Bool} (h : s_IsRule append_0 = some r) : Sound Tryz.prog J0 58 [(true, eRule append_0)] [(false, [(false, .bool r)])] := by
  refine fnk Tryz.func58 (by kernel_rfl) rfl (by kernel_rfl) (by kernel_rfl) ?_
  unfold s_IsRule at h
  simp only [fnS, f58, argSt, go_sem, seval]
  obtain ⟨v1, e1, h⟩ := bind_K h
  refine call_K (by have hh := s_IsName_ok e1; first | exact hh | (simp only [go_sem, *] at hh; exact hh)) ?_
  try simp only [go_sem, seval, *]
  refine ite_K h (fun c2 h => ?_) (fun c2 h => ?_) <;> try simp only [go_sem, seval, *]
  · obtain ⟨v2, e3, h⟩ := bind_K h
    refine call_K (by have hh := s_l1In_ok e3; first | exact hh | (simp only [go_sem, *] at hh; exact hh)) ?_
    try simp only [go_sem, seval, *]
    refine ite_K h (fun c4 h => ?_) (fun c4 h => ?_) <;> try simp only [go_sem, seval, *]
    · obtain ⟨v3, e5, h⟩ := bind_K h
      refine call_K (by have hh := s_l1In_ok e5; first | exact hh | (simp only [go_sem, *] at hh; exact hh)) ?_
      try simp only [go_sem, seval, *]
      refine ite_K h (fun c6 h => ?_) (fun c6 h => ?_) <;> try simp only [go_sem, seval, *]
      · obtain ⟨v4, e7, h⟩ := bind_K h
        refine call_K (by have hh := s_l1In_ok e7; first | exact hh | (simp only [go_sem, *] at hh; exact hh)) ?_
        try simp only [go_sem, seval, *]
        refine ite_K h (fun c8 h => ?_) (fun c8 h => ?_) <;> try simp only [go_sem, seval, *]
        · obtain ⟨v5, e9, h⟩ := bind_K h
          refine call_K (by have hh := s_BoundVars_ok e9; first | exact hh | (simp only [go_sem, *] at hh; exact hh)) ?_
          try simp only [go_sem, seval, *]
          refine swp_for h (fun i _ st => IV [(1, .bp 0 0), (3, .p false [.row 1]), (4, .p false [.c (.int .i64 ((i : Nat) : Int))])] [.box 52 [.c (.str append_0.name), .c (.int .i64 append_0.priority), .c (.sl 99 5 (List.map eCond append_0.cond)), .c (.sl 62 3 (List.map eAction append_0.thn))], .row 9 1 (List.map eStr v5) 2] st) [] [0, 480] (by decide) ?_ ?_ ?_
          · simp only [go_sem, seval, *]
          · rintro i96 x97 ⟨⟩ ⟨sl, ob, n⟩ y10 hx11 hI12 hW13 h hy10
            simp only [go_sem, seval, str_len] at hI12
            obtain ⟨⟨g14_1, g14_3, g14_4⟩, og14_0, og14_1, hn⟩ := hI12
            subst hn
            have hlhx11 := WF.boxL hW13 og14_0 (j := 2) rfl
            have q15 := lt_t hx11
            have q16 := lt_p hx11
            have q17 := nat_in (lt_n hx11) hlhx11
            try simp only [go_sem, seval, *]
            obtain ⟨v98, e18, h⟩ := bind_K h
            refine call_K (by have hh := s_IsCond_ok e18; first | exact hh | (simp only [go_sem, *] at hh; exact hh)) ?_
            try simp only [go_sem, seval, *]
            refine ite_K h (fun c19 h => ?_) (fun c19 h => ?_) <;> try simp only [go_sem, seval, *]
            · refine ite_K h (fun c20 h => ?_) (fun c20 h => ?_) <;> try simp only [go_sem, seval, *]
              · refine ite_K h (fun c21 h => ?_) (fun c21 h => ?_) <;> try simp only [go_sem, seval, *]
                · replace h := inr_K h hy10
                  obtain rfl := Option.some.inj h
                  try simp only [go_sem, seval, *]
                · obtain ⟨v99, e22, h⟩ := bind_K h
                  refine call_K (by have hh := s_BoundVars_ok e22; first | exact hh | (simp only [go_sem, *] at hh; exact hh)) ?_
                  try simp only [go_sem, seval, *]
                  obtain ⟨v100, e23, h⟩ := bind_K h
                  refine call_K (by have hh := s_CondVars_ok e23; first | exact hh | (simp only [go_sem, *] at hh; exact hh)) ?_
                  try simp only [go_sem, seval, *]
                  refine swp_for h (fun i _ st => IV [(1, .bp 0 0), (3, .p false [.row 1]), (4, .p false [.c (.int .i64 ((i96 : Nat) : Int))]), (5, .bp 2 0), (6, .p false [.row 3]), (7, .p false [.row 4]), (8, .p false [.c (.int .i64 ((i : Nat) : Int))]), (58, .p false [.c (.int .i64 ((i96 : Nat) : Int))]), (59, .p false [.c (.bool (((i96 : Nat) : Int) == 0))]), (60, .p false [.c (.bool (((i96 : Nat) : Int) == 0))]), (61, .bp 2 0), (62, .p false [.c (.int .i64 x97.kind)]), (63, .p false [.c (.bool (x97.kind != 1))]), (64, .p false [.c (.bool (x97.kind != 1))])] [.box 52 [.c (.str append_0.name), .c (.int .i64 append_0.priority), .c (.sl 99 5 (List.map eCond append_0.cond)), .c (.sl 62 3 (List.map eAction append_0.thn))], .row 9 1 (List.map eStr v5) 2, .box 99 [.c (.int .i64 x97.kind), .c (.str x97.pattern.rel), .c (.sl 9 1 (List.map eStr x97.pattern.args)), .c (.str x97.left), .c (.str x97.right)], .row 9 1 (List.map eStr v99) 2, .row 9 1 (List.map eStr v100) 2] st) [] [0, 1, 162, 418, 466] (by decide) ?_ ?_ ?_
                  · simp only [go_sem, seval, *]
                  · rintro i110 x111 ⟨⟩ ⟨sl, ob, n⟩ y24 hx25 hI26 hW27 h hy24
                    simp only [go_sem, seval, str_len] at hI26
                    obtain ⟨⟨g28_1, g28_3, g28_4, g28_5, g28_6, g28_7, g28_8, g28_58, g28_59, g28_60, g28_61, g28_62, g28_63, g28_64⟩, og28_0, og28_1, og28_2, og28_3, og28_4, hn⟩ := hI26
                    subst hn
                    have hlhx25 := WF.rowL hW27 og28_4
                    have q29 := lt_t hx25
                    have q30 := lt_p hx25
                    have q31 := nat_in (lt_n hx25) hlhx25
                    try simp only [go_sem, seval, *]
                    obtain ⟨v112, e32, h⟩ := bind_K h
                    refine call_K (by have hh := s_l1HasText_ok e32; first | exact hh | (simp only [go_sem, *] at hh; exact hh)) ?_
                    try simp only [go_sem, seval, *]
                    obtain ⟨v113, e33, h⟩ := bind_K h
                    refine call_K (by have hh := s_IsTest_ok e33; first | exact hh | (simp only [go_sem, *] at hh; exact hh)) ?_
                    try simp only [go_sem, seval, *]
                    refine ite_K h (fun c34 h => ?_) (fun c34 h => ?_) <;> try simp only [go_sem, seval, *]
                    · refine ite_K h (fun c35 h => ?_) (fun c35 h => ?_) <;> try simp only [go_sem, seval, *]
                      · refine ite_K h (fun c36 h => ?_) (fun c36 h => ?_) <;> try simp only [go_sem, seval, *]
                        · refine ⟨_, [], [0, 1, 2, 3, 4], (Option.some.inj h).symm, by decide, ?_⟩
                          try simp only [go_sem, seval, *]
                        · refine ⟨_, [], [0, 1, 2, 3, 4], (Option.some.inj h).symm, by decide, ?_⟩
                          try simp only [go_sem, seval, *]
                      · replace h := inr_K h hy24
                        replace h := inr_K h hy10
                        obtain rfl := Option.some.inj h
                        try simp only [go_sem, seval, *]
                    · refine ite_K h (fun c37 h => ?_) (fun c37 h => ?_) <;> try simp only [go_sem, seval, *]
                      · refine ite_K h (fun c38 h => ?_) (fun c38 h => ?_) <;> try simp only [go_sem, seval, *]
                        · refine ⟨_, [], [0, 1, 2, 3, 4], (Option.some.inj h).symm, by decide, ?_⟩
                          try simp only [go_sem, seval, *]
                        · obtain ⟨v114, e39, h⟩ := bind_K h
                          refine call_K (by have hh := s_l5Elsewhere_ok e39; first | exact hh | (simp only [go_sem, *] at hh; exact hh)) ?_
                          try simp only [go_sem, seval, *]
                          refine ite_K h (fun c40 h => ?_) (fun c40 h => ?_) <;> try simp only [go_sem, seval, *]
                          · replace h := inr_K h hy24
                            replace h := inr_K h hy10
                            obtain rfl := Option.some.inj h
                            try simp only [go_sem, seval, *]
                          · refine ⟨_, [], [0, 1, 2, 3, 4], (Option.some.inj h).symm, by decide, ?_⟩
                            try simp only [go_sem, seval, *]
                      · refine ⟨_, [], [0, 1, 2, 3, 4], (Option.some.inj h).symm, by decide, ?_⟩
                        try simp only [go_sem, seval, *]
                  · rintro ⟨⟩ ⟨sl, ob, n⟩ hI41 hW42 h
                    simp only [go_sem, seval, str_len] at hI41
                    obtain ⟨⟨g43_1, g43_3, g43_4, g43_5, g43_6, g43_7, g43_8, g43_58, g43_59, g43_60, g43_61, g43_62, g43_63, g43_64⟩, og43_0, og43_1, og43_2, og43_3, og43_4, hn⟩ := hI41
                    subst hn
                    have q44 := lt_f (v100.length)
                    try simp only [go_sem, seval, *]
                    refine ⟨_, [], [0, 1], (Option.some.inj h).symm, by decide, ?_⟩
                    try simp only [go_sem, seval, *]
              · obtain ⟨v115, e45, h⟩ := bind_K h
                refine call_K (by have hh := s_BoundVars_ok e45; first | exact hh | (simp only [go_sem, *] at hh; exact hh)) ?_
                try simp only [go_sem, seval, *]
                obtain ⟨v116, e46, h⟩ := bind_K h
                refine call_K (by have hh := s_CondVars_ok e46; first | exact hh | (simp only [go_sem, *] at hh; exact hh)) ?_
                try simp only [go_sem, seval, *]
                refine swp_for h (fun i _ st => IV [(1, .bp 0 0), (3, .p false [.row 1]), (4, .p false [.c (.int .i64 ((i96 : Nat) : Int))]), (5, .bp 2 0), (6, .p false [.row 3]), (7, .p false [.row 4]), (8, .p false [.c (.int .i64 ((i : Nat) : Int))]), (58, .p false [.c (.int .i64 ((i96 : Nat) : Int))]), (59, .p false [.c (.bool (((i96 : Nat) : Int) == 0))]), (60, .p false [.c (.bool (((i96 : Nat) : Int) == 0))]), (64, .p false [.c (.bool false)])] [.box 52 [.c (.str append_0.name), .c (.int .i64 append_0.priority), .c (.sl 99 5 (List.map eCond append_0.cond)), .c (.sl 62 3 (List.map eAction append_0.thn))], .row 9 1 (List.map eStr v5) 2, .box 99 [.c (.int .i64 x97.kind), .c (.str x97.pattern.rel), .c (.sl 9 1 (List.map eStr x97.pattern.args)), .c (.str x97.left), .c (.str x97.right)], .row 9 1 (List.map eStr v115) 2, .row 9 1 (List.map eStr v116) 2] st) [] [0, 1, 162, 418, 466] (by decide) ?_ ?_ ?_
                · simp only [go_sem, seval, *]
                · rintro i126 x127 ⟨⟩ ⟨sl, ob, n⟩ y47 hx48 hI49 hW50 h hy47
                  simp only [go_sem, seval, str_len] at hI49
                  obtain ⟨⟨g51_1, g51_3, g51_4, g51_5, g51_6, g51_7, g51_8, g51_58, g51_59, g51_60, g51_64⟩, og51_0, og51_1, og51_2, og51_3, og51_4, hn⟩ := hI49
                  subst hn
                  have hlhx48 := WF.rowL hW50 og51_4
                  have q52 := lt_t hx48
                  have q53 := lt_p hx48
                  have q54 := nat_in (lt_n hx48) hlhx48
                  try simp only [go_sem, seval, *]
                  obtain ⟨v128, e55, h⟩ := bind_K h
                  refine call_K (by have hh := s_l1HasText_ok e55; first | exact hh | (simp only [go_sem, *] at hh; exact hh)) ?_
                  try simp only [go_sem, seval, *]
                  obtain ⟨v129, e56, h⟩ := bind_K h
                  refine call_K (by have hh := s_IsTest_ok e56; first | exact hh | (simp only [go_sem, *] at hh; exact hh)) ?_
                  try simp only [go_sem, seval, *]
                  refine ite_K h (fun c57 h => ?_) (fun c57 h => ?_) <;> try simp only [go_sem, seval, *]
                  · refine ite_K h (fun c58 h => ?_) (fun c58 h => ?_) <;> try simp only [go_sem, seval, *]
                    · refine ite_K h (fun c59 h => ?_) (fun c59 h => ?_) <;> try simp only [go_sem, seval, *]
                      · refine ⟨_, [], [0, 1, 2, 3, 4], (Option.some.inj h).symm, by decide, ?_⟩
                        try simp only [go_sem, seval, *]
                      · refine ⟨_, [], [0, 1, 2, 3, 4], (Option.some.inj h).symm, by decide, ?_⟩
                        try simp only [go_sem, seval, *]
                    · replace h := inr_K h hy47
                      replace h := inr_K h hy10
                      obtain rfl := Option.some.inj h
                      try simp only [go_sem, seval, *]
                  · refine ite_K h (fun c60 h => ?_) (fun c60 h => ?_) <;> try simp only [go_sem, seval, *]
                    · refine ite_K h (fun c61 h => ?_) (fun c61 h => ?_) <;> try simp only [go_sem, seval, *]
                      · refine ⟨_, [], [0, 1, 2, 3, 4], (Option.some.inj h).symm, by decide, ?_⟩
                        try simp only [go_sem, seval, *]
                      · obtain ⟨v130, e62, h⟩ := bind_K h
                        refine call_K (by have hh := s_l5Elsewhere_ok e62; first | exact hh | (simp only [go_sem, *] at hh; exact hh)) ?_
                        try simp only [go_sem, seval, *]
                        refine ite_K h (fun c63 h => ?_) (fun c63 h => ?_) <;> try simp only [go_sem, seval, *]
                        · replace h := inr_K h hy47
                          replace h := inr_K h hy10
                          obtain rfl := Option.some.inj h
                          try simp only [go_sem, seval, *]
                        · refine ⟨_, [], [0, 1, 2, 3, 4], (Option.some.inj h).symm, by decide, ?_⟩
                          try simp only [go_sem, seval, *]
                    · refine ⟨_, [], [0, 1, 2, 3, 4], (Option.some.inj h).symm, by decide, ?_⟩
                      try simp only [go_sem, seval, *]
                · rintro ⟨⟩ ⟨sl, ob, n⟩ hI64 hW65 h
                  simp only [go_sem, seval, str_len] at hI64
                  obtain ⟨⟨g66_1, g66_3, g66_4, g66_5, g66_6, g66_7, g66_8, g66_58, g66_59, g66_60, g66_64⟩, og66_0, og66_1, og66_2, og66_3, og66_4, hn⟩ := hI64
                  subst hn
                  have q67 := lt_f (v116.length)
                  try simp only [go_sem, seval, *]
                  refine ⟨_, [], [0, 1], (Option.some.inj h).symm, by decide, ?_⟩
                  try simp only [go_sem, seval, *]
            · replace h := inr_K h hy10
              obtain rfl := Option.some.inj h
              try simp only [go_sem, seval, *]
          · rintro ⟨⟩ ⟨sl, ob, n⟩ hI68 hW69 h
            simp only [go_sem, seval, str_len] at hI68
            obtain ⟨⟨g70_1, g70_3, g70_4⟩, og70_0, og70_1, hn⟩ := hI68
            subst hn
            have q71 := lt_f (append_0.cond.length)
            try simp only [go_sem, seval, *]
            refine swp_for h (fun i _ st => IV [(1, .bp 0 0), (3, .p false [.row 1]), (10, .p false [.c (.int .i64 ((i : Nat) : Int))])] [.box 52 [.c (.str append_0.name), .c (.int .i64 append_0.priority), .c (.sl 99 5 (List.map eCond append_0.cond)), .c (.sl 62 3 (List.map eAction append_0.thn))], .row 9 1 (List.map eStr v5) 2] st) [] [0, 1] (by decide) ?_ ?_ ?_
            · simp only [go_sem, seval, *]
            · rintro i155 x156 ⟨⟩ ⟨sl, ob, n⟩ y72 hx73 hI74 hW75 h hy72
              simp only [go_sem, seval, str_len] at hI74
              obtain ⟨⟨g76_1, g76_3, g76_10⟩, og76_0, og76_1, hn⟩ := hI74
              subst hn
              have hlhx73 := WF.boxL hW75 og76_0 (j := 3) rfl
              have q77 := lt_t hx73
              have q78 := lt_p hx73
              have q79 := nat_in (lt_n hx73) hlhx73
              try simp only [go_sem, seval, *]
              obtain ⟨v157, e80, h⟩ := bind_K h
              refine call_K (by have hh := s_IsAction_ok e80; first | exact hh | (simp only [go_sem, *] at hh; exact hh)) ?_
              try simp only [go_sem, seval, *]
              refine ite_K h (fun c81 h => ?_) (fun c81 h => ?_) <;> try simp only [go_sem, seval, *]
              · obtain ⟨v158, e82, h⟩ := bind_K h
                refine call_K (by have hh := s_VarsOf_ok e82; first | exact hh | (simp only [go_sem, *] at hh; exact hh)) ?_
                try simp only [go_sem, seval, *]
                refine swp_for h (fun i _ st => IV [(1, .bp 0 0), (3, .p false [.row 1]), (10, .p false [.c (.int .i64 ((i155 : Nat) : Int))]), (11, .p false [.row 2]), (12, .p false [.c (.int .i64 ((i : Nat) : Int))])] [.box 52 [.c (.str append_0.name), .c (.int .i64 append_0.priority), .c (.sl 99 5 (List.map eCond append_0.cond)), .c (.sl 62 3 (List.map eAction append_0.thn))], .row 9 1 (List.map eStr v5) 2, .row 9 1 (List.map eStr v158) 2] st) [] [0, 1, 290] (by decide) ?_ ?_ ?_
                · simp only [go_sem, seval, *]
                · rintro i164 x165 ⟨⟩ ⟨sl, ob, n⟩ y83 hx84 hI85 hW86 h hy83
                  simp only [go_sem, seval, str_len] at hI85
                  obtain ⟨⟨g87_1, g87_3, g87_10, g87_11, g87_12⟩, og87_0, og87_1, og87_2, hn⟩ := hI85
                  subst hn
                  have hlhx84 := WF.rowL hW86 og87_2
                  have q88 := lt_t hx84
                  have q89 := lt_p hx84
                  have q90 := nat_in (lt_n hx84) hlhx84
                  try simp only [go_sem, seval, *]
                  obtain ⟨v166, e91, h⟩ := bind_K h
                  refine call_K (by have hh := s_l1HasText_ok e91; first | exact hh | (simp only [go_sem, *] at hh; exact hh)) ?_
                  try simp only [go_sem, seval, *]
                  refine ite_K h (fun c92 h => ?_) (fun c92 h => ?_) <;> try simp only [go_sem, seval, *]
                  · refine ⟨_, [], [0, 1, 2], (Option.some.inj h).symm, by decide, ?_⟩
                    try simp only [go_sem, seval, *]
                  · replace h := inr_K h hy83
                    replace h := inr_K h hy72
                    obtain rfl := Option.some.inj h
                    try simp only [go_sem, seval, *]
                · rintro ⟨⟩ ⟨sl, ob, n⟩ hI93 hW94 h
                  simp only [go_sem, seval, str_len] at hI93
                  obtain ⟨⟨g95_1, g95_3, g95_10, g95_11, g95_12⟩, og95_0, og95_1, og95_2, hn⟩ := hI93
                  subst hn
                  have q96 := lt_f (v158.length)
                  try simp only [go_sem, seval, *]
                  refine ⟨_, [], [0, 1], (Option.some.inj h).symm, by decide, ?_⟩
                  try simp only [go_sem, seval, *]
              · replace h := inr_K h hy72
                obtain rfl := Option.some.inj h
                try simp only [go_sem, seval, *]
            · rintro ⟨⟩ ⟨sl, ob, n⟩ hI97 hW98 h
              simp only [go_sem, seval, str_len] at hI97
              obtain ⟨⟨g99_1, g99_3, g99_10⟩, og99_0, og99_1, hn⟩ := hI97
              subst hn
              have q100 := lt_f (append_0.thn.length)
              try simp only [go_sem, seval, *]
              obtain ⟨v167, e101, h⟩ := bind_K h
              refine call_K (by have hh := s_RuleVars_ok e101; first | exact hh | (simp only [go_sem, *] at hh; exact hh)) ?_
              obtain rfl := Option.some.inj h
              try simp only [go_sem, seval, *]
        · obtain rfl := Option.some.inj h
          try simp only [go_sem, seval, *]
      · obtain rfl := Option.some.inj h
        try simp only [go_sem, seval, *]
    · obtain rfl := Option.some.inj h
      try simp only [go_sem, seval, *]
  · obtain rfl := Option.some.inj h
    try simp only [go_sem, seval, *]
theorem s_HoldsTest_ok {x_0 : CondD} {b_1 : (List PairD)} {r : Bool} (h : s_HoldsTest x_0 b_1 = some r) : Sound Tryz.prog J0 151 [(true, eCond x_0), (false, [.sl 119 2 (List.map ePair b_1)])] [(false, [(false, .bool r)])] := by
  refine fnk Tryz.func151 (by kernel_rfl) rfl (by kernel_rfl) (by kernel_rfl) ?_
  unfold s_HoldsTest at h
  simp only [fnS, f151, argSt, go_sem, seval]
  obtain ⟨v1, e1, h⟩ := bind_K h
  refine call_K (by have hh := s_IsTest_ok e1; first | exact hh | (simp only [go_sem, *] at hh; exact hh)) ?_
  try simp only [go_sem, seval, *]
  refine ite_K h (fun c2 h => ?_) (fun c2 h => ?_) <;> try simp only [go_sem, seval, *]
  · obtain ⟨v2, e3, h⟩ := bind_K h
    refine call_K (by have hh := s_IsBinding_ok e3; first | exact hh | (simp only [go_sem, *] at hh; exact hh)) ?_
    try simp only [go_sem, seval, *]
    refine ite_K h (fun c4 h => ?_) (fun c4 h => ?_) <;> try simp only [go_sem, seval, *]
    · obtain ⟨v3, e5, h⟩ := bind_K h
      refine call_K (by have hh := s_ValueOf_ok e5; first | exact hh | (simp only [go_sem, *] at hh; exact hh)) ?_
      try simp only [go_sem, seval, *]
      obtain ⟨v4, e6, h⟩ := bind_K h
      refine call_K (by have hh := s_ValueOf_ok e6; first | exact hh | (simp only [go_sem, *] at hh; exact hh)) ?_
      try simp only [go_sem, seval, *]
      refine ite_K h (fun c7 h => ?_) (fun c7 h => ?_) <;> try simp only [go_sem, seval, *]
      · refine ite_K h (fun c8 h => ?_) (fun c8 h => ?_) <;> try simp only [go_sem, seval, *]
        · refine ite_K h (fun c9 h => ?_) (fun c9 h => ?_) <;> try simp only [go_sem, seval, *]
          · obtain rfl := Option.some.inj h
            try simp only [go_sem, seval, *]
          · refine ite_K h (fun c10 h => ?_) (fun c10 h => ?_) <;> try simp only [go_sem, seval, *]
            · obtain rfl := Option.some.inj h
              try simp only [go_sem, seval, *]
            · obtain ⟨v5, e11, h⟩ := bind_K h
              refine call_K (by have hh := s_IsNumber_ok e11; first | exact hh | (simp only [go_sem, *] at hh; exact hh)) ?_
              try simp only [go_sem, seval, *]
              refine ite_K h (fun c12 h => ?_) (fun c12 h => ?_) <;> try simp only [go_sem, seval, *]
              · obtain ⟨v6, e13, h⟩ := bind_K h
                refine call_K (by have hh := s_IsNumber_ok e13; first | exact hh | (simp only [go_sem, *] at hh; exact hh)) ?_
                try simp only [go_sem, seval, *]
                refine ite_K h (fun c14 h => ?_) (fun c14 h => ?_) <;> try simp only [go_sem, seval, *]
                · obtain ⟨v7, e15, h⟩ := bind_K h
                  refine call_K (by have hh := s_CompareAtoms_ok e15; first | exact hh | (simp only [go_sem, *] at hh; exact hh)) ?_
                  obtain rfl := Option.some.inj h
                  try simp only [go_sem, seval, *]
                · obtain rfl := Option.some.inj h
                  try simp only [go_sem, seval, *]
              · obtain rfl := Option.some.inj h
                try simp only [go_sem, seval, *]
        · obtain rfl := Option.some.inj h
          try simp only [go_sem, seval, *]
      · obtain rfl := Option.some.inj h
        try simp only [go_sem, seval, *]
    · obtain rfl := Option.some.inj h
      try simp only [go_sem, seval, *]
  · obtain rfl := Option.some.inj h
    try simp only [go_sem, seval, *]
theorem i_AreRules_ok {l_0 : (List RuleD)} {r : Bool} (h : i_AreRules l_0 = some r) : Sound Tryz.prog J0 28 [(false, [.sl 52 4 (List.map eRule l_0)])] [(false, [(false, .bool r)])] := by
  refine fnk Tryz.func28 (by kernel_rfl) rfl (by kernel_rfl) (by kernel_rfl) ?_
  unfold i_AreRules at h
  simp only [fnS, f28, argSt, go_sem, seval]
  refine ite_K h (fun c1 h => ?_) (fun c1 h => ?_) <;> try simp only [go_sem, seval, *]
  · obtain rfl := Option.some.inj h
    try simp only [go_sem, seval, *]
  · refine swp_for h (fun i _ st => IV [(0, .p false [.c (.sl 52 4 (List.map eRule l_0))]), (8, .p false [.c (.sl 52 4 (List.map eRule l_0))]), (9, .p false [.c (.int .i64 ((l_0.length : Nat) : Int))]), (10, .p false [.c (.int .i64 ((i : Nat) : Int))])] [] st) [] [] (by decide) ?_ ?_ ?_
    · simp only [go_sem, seval, *]
    · rintro i8 x9 ⟨⟩ ⟨sl, ob, n⟩ y2 hx3 hI4 hW5 h hy2
      simp only [go_sem, seval, str_len] at hI4
      obtain ⟨⟨g6_0, g6_8, g6_9, g6_10⟩, hn⟩ := hI4
      subst hn
      have hlhx3 := WF.slotL hW5 g6_0 (j := 0) rfl
      have q7 := lt_t hx3
      have q8 := lt_p hx3
      have q9 := nat_in (lt_n hx3) hlhx3
      try simp only [go_sem, seval, *]
      obtain ⟨v10, e10, h⟩ := bind_K h
      refine call_K (by have hh := i_IsRule_ok e10; first | exact hh | (simp only [go_sem, *] at hh; exact hh)) ?_
      try simp only [go_sem, seval, *]
      refine ite_K h (fun c11 h => ?_) (fun c11 h => ?_) <;> try simp only [go_sem, seval, *]
      · obtain ⟨v11, e12, h⟩ := bind_K h
        refine call_K (by have hh := i_FindRule_ok e12; first | exact hh | (simp only [go_sem, *] at hh; exact hh)) ?_
        try simp only [go_sem, seval, *]
        refine ite_K h (fun c13 h => ?_) (fun c13 h => ?_) <;> try simp only [go_sem, seval, *]
        · replace h := inr_K h hy2
          obtain rfl := Option.some.inj h
          try simp only [go_sem, seval, *]
        · refine ⟨_, [], [], (Option.some.inj h).symm, by decide, ?_⟩
          try simp only [go_sem, seval, *]
      · replace h := inr_K h hy2
        obtain rfl := Option.some.inj h
        try simp only [go_sem, seval, *]
    · rintro ⟨⟩ ⟨sl, ob, n⟩ hI14 hW15 h
      simp only [go_sem, seval, str_len] at hI14
      obtain ⟨⟨g16_0, g16_8, g16_9, g16_10⟩, hn⟩ := hI14
      subst hn
      have q17 := lt_f (l_0.length)
      obtain rfl := Option.some.inj h
      try simp only [go_sem, seval, *]
theorem i_HoldsCond_ok {x_0 : CondD} {b_1 : (List PairD)} {facts_2 : (List FactD)} {r : Bool} (h : i_HoldsCond x_0 b_1 facts_2 = some r) : Sound Tryz.prog J0 84 [(true, eCond x_0), (false, [.sl 119 2 (List.map ePair b_1)]), (false, [.sl 57 2 (List.map eFact facts_2)])] [(false, [(false, .bool r)])] := by
  refine fnk Tryz.func84 (by kernel_rfl) rfl (by kernel_rfl) (by kernel_rfl) ?_
  unfold i_HoldsCond at h
  simp only [fnS, f84, argSt, go_sem, seval]
  obtain ⟨v1, e1, h⟩ := bind_K h
  refine call_K (by have hh := i_IsCond_ok e1; first | exact hh | (simp only [go_sem, *] at hh; exact hh)) ?_
  try simp only [go_sem, seval, *]
  refine ite_K h (fun c2 h => ?_) (fun c2 h => ?_) <;> try simp only [go_sem, seval, *]
  · obtain ⟨v2, e3, h⟩ := bind_K h
    refine call_K (by have hh := i_IsBinding_ok e3; first | exact hh | (simp only [go_sem, *] at hh; exact hh)) ?_
    try simp only [go_sem, seval, *]
    refine ite_K h (fun c4 h => ?_) (fun c4 h => ?_) <;> try simp only [go_sem, seval, *]
    · refine ite_K h (fun c5 h => ?_) (fun c5 h => ?_) <;> try simp only [go_sem, seval, *]
      · obtain ⟨v3, e6, h⟩ := bind_K h
        refine call_K (by have hh := i_MatchingFacts_ok e6; first | exact hh | (simp only [go_sem, *] at hh; exact hh)) ?_
        obtain rfl := Option.some.inj h
        try simp only [go_sem, seval, *]
      · refine ite_K h (fun c7 h => ?_) (fun c7 h => ?_) <;> try simp only [go_sem, seval, *]
        · obtain ⟨v4, e8, h⟩ := bind_K h
          refine call_K (by have hh := i_MatchingFacts_ok e8; first | exact hh | (simp only [go_sem, *] at hh; exact hh)) ?_
          obtain rfl := Option.some.inj h
          try simp only [go_sem, seval, *]
        · obtain ⟨v5, e9, h⟩ := bind_K h
          refine call_K (by have hh := i_HoldsTest_ok e9; first | exact hh | (simp only [go_sem, *] at hh; exact hh)) ?_
          obtain rfl := Option.some.inj h
          try simp only [go_sem, seval, *]
    · obtain rfl := Option.some.inj h
      try simp only [go_sem, seval, *]
  · obtain rfl := Option.some.inj h
    try simp only [go_sem, seval, *]
theorem i_IsLogical_ok {r_0 : RuleD} {r : Bool} (h : i_IsLogical r_0 = some r) : Sound Tryz.prog J0 80 [(true, eRule r_0)] [(false, [(false, .bool r)])] := by
  refine fnk Tryz.func80 (by kernel_rfl) rfl (by kernel_rfl) (by kernel_rfl) ?_
  unfold i_IsLogical at h
  simp only [fnS, f80, argSt, go_sem, seval]
  obtain ⟨v1, e1, h⟩ := bind_K h
  refine call_K (by have hh := i_IsRule_ok e1; first | exact hh | (simp only [go_sem, *] at hh; exact hh)) ?_
  try simp only [go_sem, seval, *]
  refine ite_K h (fun c2 h => ?_) (fun c2 h => ?_) <;> try simp only [go_sem, seval, *]
  · obtain ⟨v2, e3, h⟩ := bind_K h
    refine call_K (by have hh := i_onlyAdds_ok e3; first | exact hh | (simp only [go_sem, *] at hh; exact hh)) ?_
    try simp only [go_sem, seval, *]
    refine ite_K h (fun c4 h => ?_) (fun c4 h => ?_) <;> try simp only [go_sem, seval, *]
    · refine swp_for h (fun i _ st => IV [(1, .bp 0 0), (17, .p false [.c (.sl 99 5 (List.map eCond r_0.cond))]), (18, .p false [.c (.int .i64 ((r_0.cond.length : Nat) : Int))]), (19, .p false [.c (.int .i64 ((i : Nat) : Int))])] [.box 52 [.c (.str r_0.name), .c (.int .i64 r_0.priority), .c (.sl 99 5 (List.map eCond r_0.cond)), .c (.sl 62 3 (List.map eAction r_0.thn))]] st) [] [0] (by decide) ?_ ?_ ?_
      · simp only [go_sem, seval, *]
      · rintro i26 x27 ⟨⟩ ⟨sl, ob, n⟩ y5 hx6 hI7 hW8 h hy5
        simp only [go_sem, seval, str_len] at hI7
        obtain ⟨⟨g9_1, g9_17, g9_18, g9_19⟩, og9_0, hn⟩ := hI7
        subst hn
        have hlhx6 := WF.slotL hW8 g9_17 (j := 0) rfl
        have q10 := lt_t hx6
        have q11 := lt_p hx6
        have q12 := nat_in (lt_n hx6) hlhx6
        try simp only [go_sem, seval, *]
        refine ite_K h (fun c13 h => ?_) (fun c13 h => ?_) <;> try simp only [go_sem, seval, *]
        · refine ⟨_, [], [0], (Option.some.inj h).symm, by decide, ?_⟩
          try simp only [go_sem, seval, *]
        · obtain ⟨v28, e14, h⟩ := bind_K h
          refine call_K (by have hh := i_BoundVars_ok e14; first | exact hh | (simp only [go_sem, *] at hh; exact hh)) ?_
          try simp only [go_sem, seval, *]
          obtain ⟨v29, e15, h⟩ := bind_K h
          refine call_K (by have hh := i_CondVars_ok e15; first | exact hh | (simp only [go_sem, *] at hh; exact hh)) ?_
          try simp only [go_sem, seval, *]
          refine swp_for h (fun i _ st => IV [(1, .bp 0 0), (5, .p false [.row 1]), (17, .p false [.c (.sl 99 5 (List.map eCond r_0.cond))]), (18, .p false [.c (.int .i64 ((r_0.cond.length : Nat) : Int))]), (19, .p false [.c (.int .i64 ((i26 : Nat) : Int))]), (31, .p false [.row 2]), (32, .p false [.c (.int .i64 ((v29.length : Nat) : Int))]), (33, .p false [.c (.int .i64 ((i : Nat) : Int))])] [.box 52 [.c (.str r_0.name), .c (.int .i64 r_0.priority), .c (.sl 99 5 (List.map eCond r_0.cond)), .c (.sl 62 3 (List.map eAction r_0.thn))], .row 9 1 (List.map eStr v28) 2, .row 9 1 (List.map eStr v29) 2] st) [] [0, 193, 241] (by decide) ?_ ?_ ?_
          · simp only [go_sem, seval, *]
          · rintro i35 x36 ⟨⟩ ⟨sl, ob, n⟩ y16 hx17 hI18 hW19 h hy16
            simp only [go_sem, seval, str_len] at hI18
            obtain ⟨⟨g20_1, g20_5, g20_17, g20_18, g20_19, g20_31, g20_32, g20_33⟩, og20_0, og20_1, og20_2, hn⟩ := hI18
            subst hn
            have hlhx17 := WF.rowL hW19 og20_2
            have q21 := lt_t hx17
            have q22 := lt_p hx17
            have q23 := nat_in (lt_n hx17) hlhx17
            try simp only [go_sem, seval, *]
            obtain ⟨v37, e24, h⟩ := bind_K h
            refine call_K (by have hh := i_hasText_ok e24; first | exact hh | (simp only [go_sem, *] at hh; exact hh)) ?_
            try simp only [go_sem, seval, *]
            refine ite_K h (fun c25 h => ?_) (fun c25 h => ?_) <;> try simp only [go_sem, seval, *]
            · refine ⟨_, [], [0, 1, 2], (Option.some.inj h).symm, by decide, ?_⟩
              try simp only [go_sem, seval, *]
            · replace h := inr_K h hy16
              replace h := inr_K h hy5
              obtain rfl := Option.some.inj h
              try simp only [go_sem, seval, *]
          · rintro ⟨⟩ ⟨sl, ob, n⟩ hI26 hW27 h
            simp only [go_sem, seval, str_len] at hI26
            obtain ⟨⟨g28_1, g28_5, g28_17, g28_18, g28_19, g28_31, g28_32, g28_33⟩, og28_0, og28_1, og28_2, hn⟩ := hI26
            subst hn
            have q29 := lt_f (v29.length)
            try simp only [go_sem, seval, *]
            refine ⟨_, [], [0], (Option.some.inj h).symm, by decide, ?_⟩
            try simp only [go_sem, seval, *]
      · rintro ⟨⟩ ⟨sl, ob, n⟩ hI30 hW31 h
        simp only [go_sem, seval, str_len] at hI30
        obtain ⟨⟨g32_1, g32_17, g32_18, g32_19⟩, og32_0, hn⟩ := hI30
        subst hn
        have q33 := lt_f (r_0.cond.length)
        obtain rfl := Option.some.inj h
        try simp only [go_sem, seval, *]
    · obtain rfl := Option.some.inj h
      try simp only [go_sem, seval, *]
  · obtain rfl := Option.some.inj h
    try simp only [go_sem, seval, *]
end Go.Proofs.YtlkgkkacnoaeaaaGreatDoor

namespace Go.Proofs.YtlkgkkacnoaeaaaGreatDoor
open Go.Proofs.Tryz
set_option linter.unusedSimpArgs false
set_option linter.unusedVariables false
set_option maxRecDepth 1000000
set_option maxHeartbeats 4000000
theorem s_AreRules_ok {l_0 : (List RuleD)} {r : Bool} (h : s_AreRules l_0 = some r) : Sound Tryz.prog J0 24 [(false, [.sl 52 4 (List.map eRule l_0)])] [(false, [(false, .bool r)])] := by
  refine fnk Tryz.func24 (by kernel_rfl) rfl (by kernel_rfl) (by kernel_rfl) ?_
  unfold s_AreRules at h
  simp only [fnS, f24, argSt, go_sem, seval]
  refine swp_for h (fun i _ st => IV [(0, .p false [.c (.sl 52 4 (List.map eRule l_0))]), (3, .p false [.c (.int .i64 ((i : Nat) : Int))])] [] st) [] [] (by decide) ?_ ?_ ?_
  · simp only [go_sem, seval, *]
  · rintro i8 x9 ⟨⟩ ⟨sl, ob, n⟩ y1 hx2 hI3 hW4 h hy1
    simp only [go_sem, seval, str_len] at hI3
    obtain ⟨⟨g5_0, g5_3⟩, hn⟩ := hI3
    subst hn
    have hlhx2 := WF.slotL hW4 g5_0 (j := 0) rfl
    have q6 := lt_t hx2
    have q7 := lt_p hx2
    have q8 := nat_in (lt_n hx2) hlhx2
    try simp only [go_sem, seval, *]
    obtain ⟨v10, e9, h⟩ := bind_K h
    refine call_K (by have hh := s_IsRule_ok e9; first | exact hh | (simp only [go_sem, *] at hh; exact hh)) ?_
    try simp only [go_sem, seval, *]
    refine ite_K h (fun c10 h => ?_) (fun c10 h => ?_) <;> try simp only [go_sem, seval, *]
    · obtain ⟨v11, e11, h⟩ := bind_K h
      refine call_K (by have hh := s_FindRule_ok e11; first | exact hh | (simp only [go_sem, *] at hh; exact hh)) ?_
      try simp only [go_sem, seval, *]
      refine ite_K h (fun c12 h => ?_) (fun c12 h => ?_) <;> try simp only [go_sem, seval, *]
      · replace h := inr_K h hy1
        obtain rfl := Option.some.inj h
        try simp only [go_sem, seval, *]
      · refine ⟨_, [], [], (Option.some.inj h).symm, by decide, ?_⟩
        try simp only [go_sem, seval, *]
    · replace h := inr_K h hy1
      obtain rfl := Option.some.inj h
      try simp only [go_sem, seval, *]
  · rintro ⟨⟩ ⟨sl, ob, n⟩ hI13 hW14 h
    simp only [go_sem, seval, str_len] at hI13
    obtain ⟨⟨g15_0, g15_3⟩, hn⟩ := hI13
    subst hn
    have q16 := lt_f (l_0.length)
    obtain rfl := Option.some.inj h
    try simp only [go_sem, seval, *]
theorem s_HoldsCond_ok {x_0 : CondD} {b_1 : (List PairD)} {facts_2 : (List FactD)} {r : Bool} (h : s_HoldsCond x_0 b_1 facts_2 = some r) : Sound Tryz.prog J0 130 [(true, eCond x_0), (false, [.sl 119 2 (List.map ePair b_1)]), (false, [.sl 57 2 (List.map eFact facts_2)])] [(false, [(false, .bool r)])] := by
  refine fnk Tryz.func130 (by kernel_rfl) rfl (by kernel_rfl) (by kernel_rfl) ?_
  unfold s_HoldsCond at h
  simp only [fnS, f130, argSt, go_sem, seval]
  obtain ⟨v1, e1, h⟩ := bind_K h
  refine call_K (by have hh := s_IsCond_ok e1; first | exact hh | (simp only [go_sem, *] at hh; exact hh)) ?_
  try simp only [go_sem, seval, *]
  refine ite_K h (fun c2 h => ?_) (fun c2 h => ?_) <;> try simp only [go_sem, seval, *]
  · obtain ⟨v2, e3, h⟩ := bind_K h
    refine call_K (by have hh := s_IsBinding_ok e3; first | exact hh | (simp only [go_sem, *] at hh; exact hh)) ?_
    try simp only [go_sem, seval, *]
    refine ite_K h (fun c4 h => ?_) (fun c4 h => ?_) <;> try simp only [go_sem, seval, *]
    · refine ite_K h (fun c5 h => ?_) (fun c5 h => ?_) <;> try simp only [go_sem, seval, *]
      · obtain ⟨v3, e6, h⟩ := bind_K h
        refine call_K (by have hh := s_MatchingFacts_ok e6; first | exact hh | (simp only [go_sem, *] at hh; exact hh)) ?_
        obtain rfl := Option.some.inj h
        try simp only [go_sem, seval, *]
      · refine ite_K h (fun c7 h => ?_) (fun c7 h => ?_) <;> try simp only [go_sem, seval, *]
        · obtain ⟨v4, e8, h⟩ := bind_K h
          refine call_K (by have hh := s_MatchingFacts_ok e8; first | exact hh | (simp only [go_sem, *] at hh; exact hh)) ?_
          obtain rfl := Option.some.inj h
          try simp only [go_sem, seval, *]
        · obtain ⟨v5, e9, h⟩ := bind_K h
          refine call_K (by have hh := s_HoldsTest_ok e9; first | exact hh | (simp only [go_sem, *] at hh; exact hh)) ?_
          obtain rfl := Option.some.inj h
          try simp only [go_sem, seval, *]
    · obtain rfl := Option.some.inj h
      try simp only [go_sem, seval, *]
  · obtain rfl := Option.some.inj h
    try simp only [go_sem, seval, *]
theorem i_tokensOf_ok {append_0 : (List CondD)} {String_1 : (List FactD)} {r : (List TokenD)} (h : i_tokensOf append_0 String_1 = some r) : Sound Tryz.prog J0 42 [(false, [.sl 99 5 (List.map eCond append_0)]), (false, [.sl 57 2 (List.map eFact String_1)])] [(false, [(true, .sl 76 2 (List.map eToken r))])] := by
  refine fnk Tryz.func42 (by kernel_rfl) rfl (by kernel_rfl) (by kernel_rfl) ?_
  unfold i_tokensOf at h
  simp only [fnS, f42, argSt, go_sem, seval]
  refine swp_for h (fun i row_151 st => IV [(1, .p false [.c (.sl 57 2 (List.map eFact String_1))]), (5, .p false [.row 0]), (17, .p false [.c (.sl 99 5 (List.map eCond append_0))]), (18, .p false [.c (.int .i64 ((append_0.length : Nat) : Int))]), (19, .p false [.c (.int .i64 ((i : Nat) : Int))])] [.row 76 2 (List.map eToken row_151) 1] st) [(true, 32, 1)] [32] (by decide) ?_ ?_ ?_
  · simp only [go_sem, seval, *]
  · rintro i246 x247 row_151 ⟨sl, ob, n⟩ y1 hx2 hI3 hW4 h hy1
    simp only [go_sem, seval, str_len] at hI3
    obtain ⟨⟨g5_1, g5_5, g5_17, g5_18, g5_19⟩, og5_0, hn⟩ := hI3
    subst hn
    have hlhx2 := WF.slotL hW4 g5_17 (j := 0) rfl
    have q6 := lt_t hx2
    have q7 := lt_p hx2
    have q8 := nat_in (lt_n hx2) hlhx2
    try simp only [go_sem, seval, *]
    refine swp_for h (fun i row_303 st => IV [(1, .p false [.c (.sl 57 2 (List.map eFact String_1))]), (7, .bp 0 0), (8, .p false [.row 1]), (17, .p false [.c (.sl 99 5 (List.map eCond append_0))]), (18, .p false [.c (.int .i64 ((append_0.length : Nat) : Int))]), (19, .p false [.c (.int .i64 ((i246 : Nat) : Int))]), (23, .p false [.row 2]), (24, .p false [.c (.int .i64 ((row_151.length : Nat) : Int))]), (25, .p false [.c (.int .i64 ((i : Nat) : Int))])] [.box 99 [.c (.int .i64 x247.kind), .c (.str x247.pattern.rel), .c (.sl 9 1 (List.map eStr x247.pattern.args)), .c (.str x247.left), .c (.str x247.right)], .row 76 2 (List.map eToken row_303) 1, .row 76 2 (List.map eToken row_151) 1] st) [(false, 8, 0), (true, 145, 1)] [49, 145, 0] (by decide) ?_ ?_ ?_
    · simp only [go_sem, seval, *]
    · rintro i322 x323 row_303 ⟨sl, ob, n⟩ y9 hx10 hI11 hW12 h hy9
      simp only [go_sem, seval, str_len] at hI11
      obtain ⟨⟨g13_1, g13_7, g13_8, g13_17, g13_18, g13_19, g13_23, g13_24, g13_25⟩, og13_0, og13_1, og13_2, hn⟩ := hI11
      subst hn
      have hlhx10 := WF.rowL hW12 og13_2
      have q14 := lt_t hx10
      have q15 := lt_p hx10
      have q16 := nat_in (lt_n hx10) hlhx10
      try simp only [go_sem, seval, *]
      refine ite_K h (fun c17 h => ?_) (fun c17 h => ?_) <;> try simp only [go_sem, seval, *]
      · obtain ⟨v324, e18, h⟩ := bind_K h
        refine call_K (by have hh := i_HoldsCond_ok e18; first | exact hh | (simp only [go_sem, *] at hh; exact hh)) ?_
        try simp only [go_sem, seval, *]
        refine ite_K h (fun c19 h => ?_) (fun c19 h => ?_) <;> try simp only [go_sem, seval, *]
        · obtain ⟨p20, h⟩ := chk_K h
          try simp only [Nat.reduceLeDiff] at p20
          try simp only [go_sem, seval, *]
          refine ⟨_, [], [0, 259, 2], (Option.some.inj h).symm, by decide, ?_⟩
          try simp only [go_sem, seval, *]
        · refine ⟨_, [], [0, 1, 2], (Option.some.inj h).symm, by decide, ?_⟩
          try simp only [go_sem, seval, *]
      · refine swp_for h (fun i row_329 st => IV [(1, .p false [.c (.sl 57 2 (List.map eFact String_1))]), (7, .bp 0 0), (8, .p false [.row 1]), (10, .bp 2 0), (17, .p false [.c (.sl 99 5 (List.map eCond append_0))]), (18, .p false [.c (.int .i64 ((append_0.length : Nat) : Int))]), (19, .p false [.c (.int .i64 ((i246 : Nat) : Int))]), (23, .p false [.row 3]), (24, .p false [.c (.int .i64 ((row_151.length : Nat) : Int))]), (25, .p false [.c (.int .i64 ((i322 : Nat) : Int))]), (41, .p false [.c (.sl 57 2 (List.map eFact String_1))]), (42, .p false [.c (.int .i64 ((String_1.length : Nat) : Int))]), (43, .p false [.c (.int .i64 ((i : Nat) : Int))])] [.box 99 [.c (.int .i64 x247.kind), .c (.str x247.pattern.rel), .c (.sl 9 1 (List.map eStr x247.pattern.args)), .c (.str x247.left), .c (.str x247.right)], .row 76 2 (List.map eToken row_329) 1, .box 76 [.c (.sl 57 2 (List.map eFact x323.facts)), .c (.sl 119 2 (List.map ePair x323.binding))], .row 76 2 (List.map eToken row_151) 1] st) [] [0, 1, 51, 2] (by decide) ?_ ?_ ?_
        · simp only [go_sem, seval, *]
        · rintro i335 x336 row_329 ⟨sl, ob, n⟩ y21 hx22 hI23 hW24 h hy21
          simp only [go_sem, seval, str_len] at hI23
          obtain ⟨⟨g25_1, g25_7, g25_8, g25_10, g25_17, g25_18, g25_19, g25_23, g25_24, g25_25, g25_41, g25_42, g25_43⟩, og25_0, og25_1, og25_2, og25_3, hn⟩ := hI23
          subst hn
          have hlhx22 := WF.slotL hW24 g25_1 (j := 0) rfl
          have q26 := lt_t hx22
          have q27 := lt_p hx22
          have q28 := nat_in (lt_n hx22) hlhx22
          try simp only [go_sem, seval, *]
          obtain ⟨v337, e29, h⟩ := bind_K h
          refine call_K (by have hh := i_MatchFact_ok e29; first | exact hh | (simp only [go_sem, *] at hh; exact hh)) ?_
          try simp only [go_sem, seval, *]
          refine ite_K h (fun c30 h => ?_) (fun c30 h => ?_) <;> try simp only [go_sem, seval, *]
          · obtain ⟨v338, e31, h⟩ := bind_K h
            refine call_K (by have hh := i_copyFacts_ok e31; first | exact hh | (simp only [go_sem, *] at hh; exact hh)) ?_
            try simp only [go_sem, seval, *]
            obtain ⟨v339, e32, h⟩ := bind_K h
            refine call_K (by have hh := i_copyFact_ok e32; first | exact hh | (simp only [go_sem, *] at hh; exact hh)) ?_
            obtain ⟨p33, h⟩ := chk_K h
            try simp only [Nat.reduceLeDiff] at p33
            obtain ⟨p34, h⟩ := chk_K h
            try simp only [Nat.reduceLeDiff] at p34
            try simp only [go_sem, seval, *]
            refine ⟨_, [], [0, 452, 2, 3], (Option.some.inj h).symm, by decide, ?_⟩
            try simp only [go_sem, seval, *]
          · refine ⟨_, [], [0, 1, 2, 3], (Option.some.inj h).symm, by decide, ?_⟩
            try simp only [go_sem, seval, *]
        · rintro row_329 ⟨sl, ob, n⟩ hI35 hW36 h
          simp only [go_sem, seval, str_len] at hI35
          obtain ⟨⟨g37_1, g37_7, g37_8, g37_10, g37_17, g37_18, g37_19, g37_23, g37_24, g37_25, g37_41, g37_42, g37_43⟩, og37_0, og37_1, og37_2, og37_3, hn⟩ := hI35
          subst hn
          have q38 := lt_f (String_1.length)
          try simp only [go_sem, seval, *]
          refine ⟨_, [], [0, 1, 3], (Option.some.inj h).symm, by decide, ?_⟩
          try simp only [go_sem, seval, *]
    · rintro row_303 ⟨sl, ob, n⟩ hI39 hW40 h
      simp only [go_sem, seval, str_len] at hI39
      obtain ⟨⟨g41_1, g41_7, g41_8, g41_17, g41_18, g41_19, g41_23, g41_24, g41_25⟩, og41_0, og41_1, og41_2, hn⟩ := hI39
      subst hn
      have q42 := lt_f (row_151.length)
      try simp only [go_sem, seval, *]
      refine ⟨_, [], [1], (Option.some.inj h).symm, by decide, ?_⟩
      try simp only [go_sem, seval, *]
  · rintro row_151 ⟨sl, ob, n⟩ hI43 hW44 h
    simp only [go_sem, seval, str_len] at hI43
    obtain ⟨⟨g45_1, g45_5, g45_17, g45_18, g45_19⟩, og45_0, hn⟩ := hI43
    subst hn
    have q46 := lt_f (append_0.length)
    obtain rfl := Option.some.inj h
    try simp only [go_sem, seval, *]
theorem s_IsLogical_ok {r_0 : RuleD} {r : Bool} (h : s_IsLogical r_0 = some r) : Sound Tryz.prog J0 75 [(true, eRule r_0)] [(false, [(false, .bool r)])] := by
  refine fnk Tryz.func75 (by kernel_rfl) rfl (by kernel_rfl) (by kernel_rfl) ?_
  unfold s_IsLogical at h
  simp only [fnS, f75, argSt, go_sem, seval]
  obtain ⟨v1, e1, h⟩ := bind_K h
  refine call_K (by have hh := s_IsRule_ok e1; first | exact hh | (simp only [go_sem, *] at hh; exact hh)) ?_
  try simp only [go_sem, seval, *]
  refine ite_K h (fun c2 h => ?_) (fun c2 h => ?_) <;> try simp only [go_sem, seval, *]
  · refine swp_for h (fun i _ st => IV [(1, .bp 0 0), (3, .p false [.c (.int .i64 ((i : Nat) : Int))])] [.box 52 [.c (.str r_0.name), .c (.int .i64 r_0.priority), .c (.sl 99 5 (List.map eCond r_0.cond)), .c (.sl 62 3 (List.map eAction r_0.thn))]] st) [] [0] (by decide) ?_ ?_ ?_
    · simp only [go_sem, seval, *]
    · rintro i16 x17 ⟨⟩ ⟨sl, ob, n⟩ y3 hx4 hI5 hW6 h hy3
      simp only [go_sem, seval, str_len] at hI5
      obtain ⟨⟨g7_1, g7_3⟩, og7_0, hn⟩ := hI5
      subst hn
      have hlhx4 := WF.boxL hW6 og7_0 (j := 2) rfl
      have q8 := lt_t hx4
      have q9 := lt_p hx4
      have q10 := nat_in (lt_n hx4) hlhx4
      try simp only [go_sem, seval, *]
      refine ite_K h (fun c11 h => ?_) (fun c11 h => ?_) <;> try simp only [go_sem, seval, *]
      · obtain ⟨v18, e12, h⟩ := bind_K h
        refine call_K (by have hh := s_CondVars_ok e12; first | exact hh | (simp only [go_sem, *] at hh; exact hh)) ?_
        try simp only [go_sem, seval, *]
        obtain ⟨v19, e13, h⟩ := bind_K h
        refine call_K (by have hh := s_BoundVars_ok e13; first | exact hh | (simp only [go_sem, *] at hh; exact hh)) ?_
        try simp only [go_sem, seval, *]
        obtain ⟨v20, e14, h⟩ := bind_K h
        refine call_K (by have hh := s_l14Bound_ok e14; first | exact hh | (simp only [go_sem, *] at hh; exact hh)) ?_
        try simp only [go_sem, seval, *]
        refine ite_K h (fun c15 h => ?_) (fun c15 h => ?_) <;> try simp only [go_sem, seval, *]
        · refine ⟨_, [], [0], (Option.some.inj h).symm, by decide, ?_⟩
          try simp only [go_sem, seval, *]
        · replace h := inr_K h hy3
          obtain rfl := Option.some.inj h
          try simp only [go_sem, seval, *]
      · refine ⟨_, [], [0], (Option.some.inj h).symm, by decide, ?_⟩
        try simp only [go_sem, seval, *]
    · rintro ⟨⟩ ⟨sl, ob, n⟩ hI16 hW17 h
      simp only [go_sem, seval, str_len] at hI16
      obtain ⟨⟨g18_1, g18_3⟩, og18_0, hn⟩ := hI16
      subst hn
      have q19 := lt_f (r_0.cond.length)
      try simp only [go_sem, seval, *]
      refine swp_for h (fun i _ st => IV [(1, .bp 0 0), (4, .p false [.c (.int .i64 ((i : Nat) : Int))])] [.box 52 [.c (.str r_0.name), .c (.int .i64 r_0.priority), .c (.sl 99 5 (List.map eCond r_0.cond)), .c (.sl 62 3 (List.map eAction r_0.thn))]] st) [] [0] (by decide) ?_ ?_ ?_
      · simp only [go_sem, seval, *]
      · rintro i24 x25 ⟨⟩ ⟨sl, ob, n⟩ y20 hx21 hI22 hW23 h hy20
        simp only [go_sem, seval, str_len] at hI22
        obtain ⟨⟨g24_1, g24_4⟩, og24_0, hn⟩ := hI22
        subst hn
        have hlhx21 := WF.boxL hW23 og24_0 (j := 3) rfl
        have q25 := lt_t hx21
        have q26 := lt_p hx21
        have q27 := nat_in (lt_n hx21) hlhx21
        try simp only [go_sem, seval, *]
        refine ite_K h (fun c28 h => ?_) (fun c28 h => ?_) <;> try simp only [go_sem, seval, *]
        · replace h := inr_K h hy20
          obtain rfl := Option.some.inj h
          try simp only [go_sem, seval, *]
        · refine ⟨_, [], [0], (Option.some.inj h).symm, by decide, ?_⟩
          try simp only [go_sem, seval, *]
      · rintro ⟨⟩ ⟨sl, ob, n⟩ hI29 hW30 h
        simp only [go_sem, seval, str_len] at hI29
        obtain ⟨⟨g31_1, g31_4⟩, og31_0, hn⟩ := hI29
        subst hn
        have q32 := lt_f (r_0.thn.length)
        obtain rfl := Option.some.inj h
        try simp only [go_sem, seval, *]
  · obtain rfl := Option.some.inj h
    try simp only [go_sem, seval, *]
theorem i_AreLogical_ok {rules_0 : (List RuleD)} {r : Bool} (h : i_AreLogical rules_0 = some r) : Sound Tryz.prog J0 40 [(false, [.sl 52 4 (List.map eRule rules_0)])] [(false, [(false, .bool r)])] := by
  refine fnk Tryz.func40 (by kernel_rfl) rfl (by kernel_rfl) (by kernel_rfl) ?_
  unfold i_AreLogical at h
  simp only [fnS, f40, argSt, go_sem, seval]
  obtain ⟨v1, e1, h⟩ := bind_K h
  refine call_K (by have hh := i_AreRules_ok e1; first | exact hh | (simp only [go_sem, *] at hh; exact hh)) ?_
  try simp only [go_sem, seval, *]
  refine ite_K h (fun c2 h => ?_) (fun c2 h => ?_) <;> try simp only [go_sem, seval, *]
  · refine swp_for h (fun i _ st => IV [(0, .p false [.c (.sl 52 4 (List.map eRule rules_0))]), (13, .p false [.c (.sl 52 4 (List.map eRule rules_0))]), (14, .p false [.c (.int .i64 ((rules_0.length : Nat) : Int))]), (15, .p false [.c (.int .i64 ((i : Nat) : Int))])] [] st) [] [] (by decide) ?_ ?_ ?_
    · simp only [go_sem, seval, *]
    · rintro i59 x60 ⟨⟩ ⟨sl, ob, n⟩ y3 hx4 hI5 hW6 h hy3
      simp only [go_sem, seval, str_len] at hI5
      obtain ⟨⟨g7_0, g7_13, g7_14, g7_15⟩, hn⟩ := hI5
      subst hn
      have hlhx4 := WF.slotL hW6 g7_0 (j := 0) rfl
      have q8 := lt_t hx4
      have q9 := lt_p hx4
      have q10 := nat_in (lt_n hx4) hlhx4
      try simp only [go_sem, seval, *]
      obtain ⟨v61, e11, h⟩ := bind_K h
      refine call_K (by have hh := i_IsLogical_ok e11; first | exact hh | (simp only [go_sem, *] at hh; exact hh)) ?_
      try simp only [go_sem, seval, *]
      refine ite_K h (fun c12 h => ?_) (fun c12 h => ?_) <;> try simp only [go_sem, seval, *]
      · refine swp_for h (fun i _ st => IV [(0, .p false [.c (.sl 52 4 (List.map eRule rules_0))]), (4, .bp 0 0), (13, .p false [.c (.sl 52 4 (List.map eRule rules_0))]), (14, .p false [.c (.int .i64 ((rules_0.length : Nat) : Int))]), (15, .p false [.c (.int .i64 ((i59 : Nat) : Int))]), (23, .p false [.c (.sl 99 5 (List.map eCond x60.cond))]), (24, .p false [.c (.int .i64 ((x60.cond.length : Nat) : Int))]), (25, .p false [.c (.int .i64 ((i : Nat) : Int))])] [.box 52 [.c (.str x60.name), .c (.int .i64 x60.priority), .c (.sl 99 5 (List.map eCond x60.cond)), .c (.sl 62 3 (List.map eAction x60.thn))]] st) [] [48] (by decide) ?_ ?_ ?_
        · simp only [go_sem, seval, *]
        · rintro i79 x80 ⟨⟩ ⟨sl, ob, n⟩ y13 hx14 hI15 hW16 h hy13
          simp only [go_sem, seval, str_len] at hI15
          obtain ⟨⟨g17_0, g17_4, g17_13, g17_14, g17_15, g17_23, g17_24, g17_25⟩, og17_0, hn⟩ := hI15
          subst hn
          have hlhx14 := WF.slotL hW16 g17_23 (j := 0) rfl
          have q18 := lt_t hx14
          have q19 := lt_p hx14
          have q20 := nat_in (lt_n hx14) hlhx14
          try simp only [go_sem, seval, *]
          refine ite_K h (fun c21 h => ?_) (fun c21 h => ?_) <;> try simp only [go_sem, seval, *]
          · refine ⟨_, [], [0], (Option.some.inj h).symm, by decide, ?_⟩
            try simp only [go_sem, seval, *]
          · obtain ⟨v81, e22, h⟩ := bind_K h
            refine new_KM (by have hh := i_relReach_ok e22; first | exact hh | (simp only [go_sem, *] at hh; exact hh)) ?_
            try simp only [go_sem, seval, *]
            obtain ⟨v82, e23, h⟩ := bind_K h
            refine call_K (by have hh := i_WritesOf_ok e23; first | exact hh | (simp only [go_sem, *] at hh; exact hh)) ?_
            try simp only [go_sem, seval, *]
            refine swp_for h (fun i _ st => IV [(0, .p false [.c (.sl 52 4 (List.map eRule rules_0))]), (4, .bp 0 0), (6, .bp 1 0), (7, .p false [.row 2]), (13, .p false [.c (.sl 52 4 (List.map eRule rules_0))]), (14, .p false [.c (.int .i64 ((rules_0.length : Nat) : Int))]), (15, .p false [.c (.int .i64 ((i59 : Nat) : Int))]), (23, .p false [.c (.sl 99 5 (List.map eCond x60.cond))]), (24, .p false [.c (.int .i64 ((x60.cond.length : Nat) : Int))]), (25, .p false [.c (.int .i64 ((i79 : Nat) : Int))]), (38, .p false [.row 3]), (39, .p false [.c (.int .i64 ((v82.length : Nat) : Int))]), (40, .p false [.c (.int .i64 ((i : Nat) : Int))])] [.box 52 [.c (.str x60.name), .c (.int .i64 x60.priority), .c (.sl 99 5 (List.map eCond x60.cond)), .c (.sl 62 3 (List.map eAction x60.thn))], .box 99 [.c (.int .i64 x80.kind), .c (.str x80.pattern.rel), .c (.sl 9 1 (List.map eStr x80.pattern.args)), .c (.str x80.left), .c (.str x80.right)], .map .str .bool (List.map eSB v81), .row 9 1 (List.map eStr v82) 2] st) [] [0, 49, 193, 241] (by decide) ?_ ?_ ?_
            · simp only [go_sem, seval, *]
            · rintro i86 x87 ⟨⟩ ⟨sl, ob, n⟩ y24 hx25 hI26 hW27 h hy24
              simp only [go_sem, seval, str_len] at hI26
              obtain ⟨⟨g28_0, g28_4, g28_6, g28_7, g28_13, g28_14, g28_15, g28_23, g28_24, g28_25, g28_38, g28_39, g28_40⟩, og28_0, og28_1, og28_2, og28_3, hn⟩ := hI26
              subst hn
              have hlhx25 := WF.rowL hW27 og28_3
              have q29 := lt_t hx25
              have q30 := lt_p hx25
              have q31 := nat_in (lt_n hx25) hlhx25
              try simp only [go_sem, seval, *]
              refine ite_K h (fun c32 h => ?_) (fun c32 h => ?_) <;> try simp only [go_sem, seval, *]
              · replace h := inr_K h hy24
                replace h := inr_K h hy13
                replace h := inr_K h hy3
                obtain rfl := Option.some.inj h
                try simp only [go_sem, seval, *]
              · refine ite_K h (fun c33 h => ?_) (fun c33 h => ?_) <;> try simp only [go_sem, seval, *]
                · replace h := inr_K h hy24
                  replace h := inr_K h hy13
                  replace h := inr_K h hy3
                  obtain rfl := Option.some.inj h
                  try simp only [go_sem, seval, *]
                · refine ⟨_, [], [0, 1, 2, 3], (Option.some.inj h).symm, by decide, ?_⟩
                  try simp only [go_sem, seval, *]
            · rintro ⟨⟩ ⟨sl, ob, n⟩ hI34 hW35 h
              simp only [go_sem, seval, str_len] at hI34
              obtain ⟨⟨g36_0, g36_4, g36_6, g36_7, g36_13, g36_14, g36_15, g36_23, g36_24, g36_25, g36_38, g36_39, g36_40⟩, og36_0, og36_1, og36_2, og36_3, hn⟩ := hI34
              subst hn
              have q37 := lt_f (v82.length)
              try simp only [go_sem, seval, *]
              refine ⟨_, [], [0], (Option.some.inj h).symm, by decide, ?_⟩
              try simp only [go_sem, seval, *]
        · rintro ⟨⟩ ⟨sl, ob, n⟩ hI38 hW39 h
          simp only [go_sem, seval, str_len] at hI38
          obtain ⟨⟨g40_0, g40_4, g40_13, g40_14, g40_15, g40_23, g40_24, g40_25⟩, og40_0, hn⟩ := hI38
          subst hn
          have q41 := lt_f (x60.cond.length)
          try simp only [go_sem, seval, *]
          refine ⟨_, [], [], (Option.some.inj h).symm, by decide, ?_⟩
          try simp only [go_sem, seval, *]
      · replace h := inr_K h hy3
        obtain rfl := Option.some.inj h
        try simp only [go_sem, seval, *]
    · rintro ⟨⟩ ⟨sl, ob, n⟩ hI42 hW43 h
      simp only [go_sem, seval, str_len] at hI42
      obtain ⟨⟨g44_0, g44_13, g44_14, g44_15⟩, hn⟩ := hI42
      subst hn
      have q45 := lt_f (rules_0.length)
      obtain rfl := Option.some.inj h
      try simp only [go_sem, seval, *]
  · obtain rfl := Option.some.inj h
    try simp only [go_sem, seval, *]
end Go.Proofs.YtlkgkkacnoaeaaaGreatDoor

namespace Go.Proofs.YtlkgkkacnoaeaaaGreatDoor
open Go.Proofs.Tryz
set_option linter.unusedSimpArgs false
set_option linter.unusedVariables false
set_option maxRecDepth 1000000
set_option maxHeartbeats 4000000
theorem s_l6Next_ok {append_0 : (List TokenD)} {String_1 : CondD} {a_2 : (List FactD)} {r : (List TokenD)} (h : s_l6Next append_0 String_1 a_2 = some r) : Sound Tryz.prog J0 79 [(false, [.sl 76 2 (List.map eToken append_0)]), (true, eCond String_1), (false, [.sl 57 2 (List.map eFact a_2)])] [(false, [(false, .sl 76 2 (List.map eToken r))])] := by
  refine fnk Tryz.func79 (by kernel_rfl) rfl (by kernel_rfl) (by kernel_rfl) ?_
  unfold s_l6Next at h
  simp only [fnS, f79, argSt, go_sem, seval]
  refine swp_for h (fun i row_22 st => IV [(0, .p false [.c (.sl 76 2 (List.map eToken append_0))]), (2, .p false [.c (.sl 57 2 (List.map eFact a_2))]), (4, .bp 0 0), (7, .p false [.row 1]), (8, .p false [.c (.int .i64 ((i : Nat) : Int))])] [.box 99 [.c (.int .i64 String_1.kind), .c (.str String_1.pattern.rel), .c (.sl 9 1 (List.map eStr String_1.pattern.args)), .c (.str String_1.left), .c (.str String_1.right)], .row 76 2 (List.map eToken row_22) 2] st) [] [0, 32] (by decide) ?_ ?_ ?_
  · simp only [go_sem, seval, *]
  · rintro i45 x46 row_22 ⟨sl, ob, n⟩ y1 hx2 hI3 hW4 h hy1
    simp only [go_sem, seval, str_len] at hI3
    obtain ⟨⟨g5_0, g5_2, g5_4, g5_7, g5_8⟩, og5_0, og5_1, hn⟩ := hI3
    subst hn
    have hlhx2 := WF.slotL hW4 g5_0 (j := 0) rfl
    have q6 := lt_t hx2
    have q7 := lt_p hx2
    have q8 := nat_in (lt_n hx2) hlhx2
    try simp only [go_sem, seval, *]
    refine ite_K h (fun c9 h => ?_) (fun c9 h => ?_) <;> try simp only [go_sem, seval, *]
    · obtain ⟨v47, e10, h⟩ := bind_K h
      refine call_K (by have hh := s_HoldsCond_ok e10; first | exact hh | (simp only [go_sem, *] at hh; exact hh)) ?_
      try simp only [go_sem, seval, *]
      refine ite_K h (fun c11 h => ?_) (fun c11 h => ?_) <;> try simp only [go_sem, seval, *]
      · obtain ⟨v48, e12, h⟩ := bind_K h
        refine call_K (by have hh := s_l6Copy_ok e12; first | exact hh | (simp only [go_sem, *] at hh; exact hh)) ?_
        obtain ⟨p13, h⟩ := chk_K h
        try simp only [Nat.reduceLeDiff] at p13
        try simp only [go_sem, seval, *]
        refine ⟨_, [], [0, 354], (Option.some.inj h).symm, by decide, ?_⟩
        try simp only [go_sem, seval, *]
      · refine ⟨_, [], [0, 1], (Option.some.inj h).symm, by decide, ?_⟩
        try simp only [go_sem, seval, *]
    · refine swp_for h (fun i row_53 st => IV [(0, .p false [.c (.sl 76 2 (List.map eToken append_0))]), (2, .p false [.c (.sl 57 2 (List.map eFact a_2))]), (4, .bp 0 0), (7, .p false [.row 1]), (8, .p false [.c (.int .i64 ((i45 : Nat) : Int))]), (9, .p false [.c (.int .i64 ((i : Nat) : Int))])] [.box 99 [.c (.int .i64 String_1.kind), .c (.str String_1.pattern.rel), .c (.sl 9 1 (List.map eStr String_1.pattern.args)), .c (.str String_1.left), .c (.str String_1.right)], .row 76 2 (List.map eToken row_53) 2] st) [] [0, 1] (by decide) ?_ ?_ ?_
      · simp only [go_sem, seval, *]
      · rintro i59 x60 row_53 ⟨sl, ob, n⟩ y14 hx15 hI16 hW17 h hy14
        simp only [go_sem, seval, str_len] at hI16
        obtain ⟨⟨g18_0, g18_2, g18_4, g18_7, g18_8, g18_9⟩, og18_0, og18_1, hn⟩ := hI16
        subst hn
        have hlhx15 := WF.slotL hW17 g18_2 (j := 0) rfl
        have q19 := lt_t hx15
        have q20 := lt_p hx15
        have q21 := nat_in (lt_n hx15) hlhx15
        try simp only [go_sem, seval, *]
        obtain ⟨v61, e22, h⟩ := bind_K h
        refine call_K (by have hh := s_MatchFact_ok e22; first | exact hh | (simp only [go_sem, *] at hh; exact hh)) ?_
        try simp only [go_sem, seval, *]
        refine ite_K h (fun c23 h => ?_) (fun c23 h => ?_) <;> try simp only [go_sem, seval, *]
        · obtain ⟨v62, e24, h⟩ := bind_K h
          refine call_K (by have hh := s_l2Copies_ok e24; first | exact hh | (simp only [go_sem, *] at hh; exact hh)) ?_
          try simp only [go_sem, seval, *]
          obtain ⟨v63, e25, h⟩ := bind_K h
          refine call_K (by have hh := s_l2Copy_ok e25; first | exact hh | (simp only [go_sem, *] at hh; exact hh)) ?_
          obtain ⟨p26, h⟩ := chk_K h
          try simp only [Nat.reduceLeDiff] at p26
          obtain ⟨p27, h⟩ := chk_K h
          try simp only [Nat.reduceLeDiff] at p27
          try simp only [go_sem, seval, *]
          refine ⟨_, [], [0, 626], (Option.some.inj h).symm, by decide, ?_⟩
          try simp only [go_sem, seval, *]
        · refine ⟨_, [], [0, 1], (Option.some.inj h).symm, by decide, ?_⟩
          try simp only [go_sem, seval, *]
      · rintro row_53 ⟨sl, ob, n⟩ hI28 hW29 h
        simp only [go_sem, seval, str_len] at hI28
        obtain ⟨⟨g30_0, g30_2, g30_4, g30_7, g30_8, g30_9⟩, og30_0, og30_1, hn⟩ := hI28
        subst hn
        have q31 := lt_f (a_2.length)
        try simp only [go_sem, seval, *]
        refine ⟨_, [], [0, 1], (Option.some.inj h).symm, by decide, ?_⟩
        try simp only [go_sem, seval, *]
  · rintro row_22 ⟨sl, ob, n⟩ hI32 hW33 h
    simp only [go_sem, seval, str_len] at hI32
    obtain ⟨⟨g34_0, g34_2, g34_4, g34_7, g34_8⟩, og34_0, og34_1, hn⟩ := hI32
    subst hn
    have q35 := lt_f (append_0.length)
    obtain rfl := Option.some.inj h
    try simp only [go_sem, seval, *]
theorem s_AreLogical_ok {append_0 : (List RuleD)} {r : Bool} (h : s_AreLogical append_0 = some r) : Sound Tryz.prog J0 35 [(false, [.sl 52 4 (List.map eRule append_0)])] [(false, [(false, .bool r)])] := by
  refine fnk Tryz.func35 (by kernel_rfl) rfl (by kernel_rfl) (by kernel_rfl) ?_
  unfold s_AreLogical at h
  simp only [fnS, f35, argSt, go_sem, seval]
  refine swp_for h (fun i _ st => IV [(0, .p false [.c (.sl 52 4 (List.map eRule append_0))]), (3, .p false [.c (.int .i64 ((i : Nat) : Int))])] [] st) [] [] (by decide) ?_ ?_ ?_
  · simp only [go_sem, seval, *]
  · rintro i67 x68 ⟨⟩ ⟨sl, ob, n⟩ y1 hx2 hI3 hW4 h hy1
    simp only [go_sem, seval, str_len] at hI3
    obtain ⟨⟨g5_0, g5_3⟩, hn⟩ := hI3
    subst hn
    have hlhx2 := WF.slotL hW4 g5_0 (j := 0) rfl
    have q6 := lt_t hx2
    have q7 := lt_p hx2
    have q8 := nat_in (lt_n hx2) hlhx2
    try simp only [go_sem, seval, *]
    obtain ⟨v69, e9, h⟩ := bind_K h
    refine call_K (by have hh := s_IsLogical_ok e9; first | exact hh | (simp only [go_sem, *] at hh; exact hh)) ?_
    try simp only [go_sem, seval, *]
    refine ite_K h (fun c10 h => ?_) (fun c10 h => ?_) <;> try simp only [go_sem, seval, *]
    · obtain ⟨v70, e11, h⟩ := bind_K h
      refine call_K (by have hh := s_WritesOf_ok e11; first | exact hh | (simp only [go_sem, *] at hh; exact hh)) ?_
      try simp only [go_sem, seval, *]
      refine swp_for h (fun i _ st => IV [(0, .p false [.c (.sl 52 4 (List.map eRule append_0))]), (3, .p false [.c (.int .i64 ((i67 : Nat) : Int))]), (4, .p false [.row 0]), (5, .p false [.c (.int .i64 ((i : Nat) : Int))])] [.row 9 1 (List.map eStr v70) 2] st) [] [224] (by decide) ?_ ?_ ?_
      · simp only [go_sem, seval, *]
      · rintro i90 x91 ⟨⟩ ⟨sl, ob, n⟩ y12 hx13 hI14 hW15 h hy12
        simp only [go_sem, seval, str_len] at hI14
        obtain ⟨⟨g16_0, g16_3, g16_4, g16_5⟩, og16_0, hn⟩ := hI14
        subst hn
        have hlhx13 := WF.elL (WF.slotD hW15 g16_0 (j := 0) rfl) hx2 (j := 2) rfl
        have q17 := lt_t hx13
        have q18 := lt_p hx13
        have q19 := nat_in (lt_n hx13) hlhx13
        try simp only [go_sem, seval, *]
        refine swp_for h (fun i _ st => IV [(0, .p false [.c (.sl 52 4 (List.map eRule append_0))]), (3, .p false [.c (.int .i64 ((i67 : Nat) : Int))]), (4, .p false [.row 0]), (5, .p false [.c (.int .i64 ((i90 : Nat) : Int))]), (6, .bp 1 0), (7, .p false [.c (.int .i64 ((i : Nat) : Int))])] [.row 9 1 (List.map eStr v70) 2, .box 99 [.c (.int .i64 x91.kind), .c (.str x91.pattern.rel), .c (.sl 9 1 (List.map eStr x91.pattern.args)), .c (.str x91.left), .c (.str x91.right)]] st) [] [0, 257] (by decide) ?_ ?_ ?_
        · simp only [go_sem, seval, *]
        · rintro i97 x98 ⟨⟩ ⟨sl, ob, n⟩ y20 hx21 hI22 hW23 h hy20
          simp only [go_sem, seval, str_len] at hI22
          obtain ⟨⟨g24_0, g24_3, g24_4, g24_5, g24_6, g24_7⟩, og24_0, og24_1, hn⟩ := hI22
          subst hn
          have hlhx21 := WF.rowL hW23 og24_0
          have q25 := lt_t hx21
          have q26 := lt_p hx21
          have q27 := nat_in (lt_n hx21) hlhx21
          try simp only [go_sem, seval, *]
          refine ite_K h (fun c28 h => ?_) (fun c28 h => ?_) <;> try simp only [go_sem, seval, *]
          · refine ite_K h (fun c29 h => ?_) (fun c29 h => ?_) <;> try simp only [go_sem, seval, *]
            · replace h := inr_K h hy20
              replace h := inr_K h hy12
              replace h := inr_K h hy1
              obtain rfl := Option.some.inj h
              try simp only [go_sem, seval, *]
            · obtain ⟨v99, e30, h⟩ := bind_K h
              refine call_K (by have hh := s_RelDepends_ok e30; first | exact hh | (simp only [go_sem, *] at hh; exact hh)) ?_
              try simp only [go_sem, seval, *]
              refine ite_K h (fun c31 h => ?_) (fun c31 h => ?_) <;> try simp only [go_sem, seval, *]
              · replace h := inr_K h hy20
                replace h := inr_K h hy12
                replace h := inr_K h hy1
                obtain rfl := Option.some.inj h
                try simp only [go_sem, seval, *]
              · refine ⟨_, [], [0, 1], (Option.some.inj h).symm, by decide, ?_⟩
                try simp only [go_sem, seval, *]
          · replace h := inr_K h hy20
            refine ⟨_, [], [0], (Option.some.inj h).symm, by decide, ?_⟩
            try simp only [go_sem, seval, *]
        · rintro ⟨⟩ ⟨sl, ob, n⟩ hI32 hW33 h
          simp only [go_sem, seval, str_len] at hI32
          obtain ⟨⟨g34_0, g34_3, g34_4, g34_5, g34_6, g34_7⟩, og34_0, og34_1, hn⟩ := hI32
          subst hn
          have q35 := lt_f (v70.length)
          try simp only [go_sem, seval, *]
          refine ⟨_, [], [0], (Option.some.inj h).symm, by decide, ?_⟩
          try simp only [go_sem, seval, *]
      · rintro ⟨⟩ ⟨sl, ob, n⟩ hI36 hW37 h
        simp only [go_sem, seval, str_len] at hI36
        obtain ⟨⟨g38_0, g38_3, g38_4, g38_5⟩, og38_0, hn⟩ := hI36
        subst hn
        have q39 := lt_f (x68.cond.length)
        try simp only [go_sem, seval, *]
        refine ⟨_, [], [], (Option.some.inj h).symm, by decide, ?_⟩
        try simp only [go_sem, seval, *]
    · replace h := inr_K h hy1
      obtain rfl := Option.some.inj h
      try simp only [go_sem, seval, *]
  · rintro ⟨⟩ ⟨sl, ob, n⟩ hI40 hW41 h
    simp only [go_sem, seval, str_len] at hI40
    obtain ⟨⟨g42_0, g42_3⟩, hn⟩ := hI40
    subst hn
    have q43 := lt_f (append_0.length)
    try simp only [go_sem, seval, *]
    obtain ⟨v100, e44, h⟩ := bind_K h
    refine call_K (by have hh := s_AreRules_ok e44; first | exact hh | (simp only [go_sem, *] at hh; exact hh)) ?_
    obtain rfl := Option.some.inj h
    try simp only [go_sem, seval, *]
theorem i_PossibleFacts_ok {append_0 : (List RuleD)} {String_1 : (List FactD)} {r : ((List FactD) × Bool)} (h : i_PossibleFacts append_0 String_1 = some r) : Sound Tryz.prog J0 14 [(false, [.sl 52 4 (List.map eRule append_0)]), (false, [.sl 57 2 (List.map eFact String_1)])] [(false, [(false, .sl 57 2 (List.map eFact r.1))]), (false, [(false, .bool r.2)])] := by
  refine fnn 4 Tryz.func14 (by kernel_rfl) rfl (by kernel_rfl) (by kernel_rfl) ?_
  unfold i_PossibleFacts at h
  simp only [fnN, f14, argSt, go_sem, seval]
  obtain ⟨v1, e1, h⟩ := bind_K h
  refine call_K (by have hh := i_AreLogical_ok e1; first | exact hh | (simp only [go_sem, *] at hh; exact hh)) ?_
  try simp only [go_sem, seval, *]
  refine ite_K h (fun c2 h => ?_) (fun c2 h => ?_) <;> try simp only [go_sem, seval, *]
  · obtain ⟨v2, e3, h⟩ := bind_K h
    refine call_K (by have hh := i_AreFacts_ok e3; first | exact hh | (simp only [go_sem, *] at hh; exact hh)) ?_
    try simp only [go_sem, seval, *]
    refine ite_K h (fun c4 h => ?_) (fun c4 h => ?_) <;> try simp only [go_sem, seval, *]
    · obtain ⟨v3, e5, h⟩ := bind_K h
      refine call_K (by have hh := i_copyFacts_ok e5; first | exact hh | (simp only [go_sem, *] at hh; exact hh)) ?_
      try simp only [go_sem, seval, *]
      refine swp_iter h (fun s st => match s with | (u_254, u_255) => IV [(0, .p false [.c (.sl 52 4 (List.map eRule append_0))]), (6, .p false [.n (.sl 57 2 (List.map eFact u_254))]), (7, .p false [.c (.bool u_255)])] [] st) [(false, 6, 4096)] [] (by decide) ?_ ?_
      · simp only [go_sem, seval, *]
      · rintro ⟨u_254, u_255⟩ ⟨sl, ob, n⟩ y6 hI7 hW8 h hy6
        simp only [go_sem, seval, str_len] at hI7
        obtain ⟨⟨g9_0, g9_6, g9_7⟩, hn⟩ := hI7
        subst hn
        try simp only [go_sem, seval, *]
        refine ite_K h (fun c10 h => ?_) (fun c10 h => ?_) <;> try simp only [go_sem, seval, *]
        · refine swp_for h (fun i s st => match s with | (u_339, u_340) => IV [(0, .p false [.c (.sl 52 4 (List.map eRule append_0))]), (6, .p false [.n (.sl 57 2 (List.map eFact u_339))]), (7, .p false [.c (.bool u_340)]), (27, .p false [.c (.sl 52 4 (List.map eRule append_0))]), (28, .p false [.c (.int .i64 ((append_0.length : Nat) : Int))]), (29, .p false [.c (.int .i64 ((i : Nat) : Int))])] [] st) [] [] (by decide) ?_ ?_ ?_
          · simp only [go_sem, seval, *]
          · rintro i423 x424 ⟨u_339, u_340⟩ ⟨sl, ob, n⟩ y11 hx12 hI13 hW14 h hy11
            simp only [go_sem, seval, str_len] at hI13
            obtain ⟨⟨g15_0, g15_6, g15_7, g15_27, g15_28, g15_29⟩, hn⟩ := hI13
            subst hn
            have hlhx12 := WF.slotL hW14 g15_0 (j := 0) rfl
            have q16 := lt_t hx12
            have q17 := lt_p hx12
            have q18 := nat_in (lt_n hx12) hlhx12
            try simp only [go_sem, seval, *]
            obtain ⟨v425, e19, h⟩ := bind_K h
            refine frz_K (by have hh := i_withoutNots_ok e19; first | exact hh | (simp only [go_sem, *] at hh; exact hh)) ?_
            try simp only [go_sem, seval, *]
            obtain ⟨v426, e20, h⟩ := bind_K h
            refine frz_K (by have hh := i_tokensOf_ok e20; first | exact hh | (simp only [go_sem, *] at hh; exact hh)) ?_
            try simp only [go_sem, seval, *]
            refine swp_for h (fun i s st => match s with | (u_453, u_454) => IV [(0, .p false [.c (.sl 52 4 (List.map eRule append_0))]), (6, .p false [.n (.sl 57 2 (List.map eFact u_453))]), (7, .p false [.c (.bool u_454)]), (9, .bp 0 0), (27, .p false [.c (.sl 52 4 (List.map eRule append_0))]), (28, .p false [.c (.int .i64 ((append_0.length : Nat) : Int))]), (29, .p false [.c (.int .i64 ((i423 : Nat) : Int))]), (36, .p false [.c (.sl 76 2 (List.map eToken v426))]), (37, .p false [.c (.int .i64 ((v426.length : Nat) : Int))]), (38, .p false [.c (.int .i64 ((i : Nat) : Int))])] [.box 52 [.c (.str x424.name), .c (.int .i64 x424.priority), .c (.sl 99 5 (List.map eCond x424.cond)), .c (.sl 62 3 (List.map eAction x424.thn))]] st) [] [48] (by decide) ?_ ?_ ?_
            · simp only [go_sem, seval, *]
            · rintro i480 x481 ⟨u_453, u_454⟩ ⟨sl, ob, n⟩ y21 hx22 hI23 hW24 h hy21
              simp only [go_sem, seval, str_len] at hI23
              obtain ⟨⟨g25_0, g25_6, g25_7, g25_9, g25_27, g25_28, g25_29, g25_36, g25_37, g25_38⟩, og25_0, hn⟩ := hI23
              subst hn
              have hlhx22 := WF.slotL hW24 g25_36 (j := 0) rfl
              have q26 := lt_t hx22
              have q27 := lt_p hx22
              have q28 := nat_in (lt_n hx22) hlhx22
              try simp only [go_sem, seval, *]
              refine swp_for h (fun i s st => match s with | (u_495, u_496) => IV [(0, .p false [.c (.sl 52 4 (List.map eRule append_0))]), (6, .p false [.n (.sl 57 2 (List.map eFact u_495))]), (7, .p false [.c (.bool u_496)]), (9, .bp 0 0), (11, .bp 1 0), (27, .p false [.c (.sl 52 4 (List.map eRule append_0))]), (28, .p false [.c (.int .i64 ((append_0.length : Nat) : Int))]), (29, .p false [.c (.int .i64 ((i423 : Nat) : Int))]), (36, .p false [.c (.sl 76 2 (List.map eToken v426))]), (37, .p false [.c (.int .i64 ((v426.length : Nat) : Int))]), (38, .p false [.c (.int .i64 ((i480 : Nat) : Int))]), (43, .p false [.c (.sl 62 3 (List.map eAction x424.thn))]), (44, .p false [.c (.int .i64 ((x424.thn.length : Nat) : Int))]), (45, .p false [.c (.int .i64 ((i : Nat) : Int))])] [.box 52 [.c (.str x424.name), .c (.int .i64 x424.priority), .c (.sl 99 5 (List.map eCond x424.cond)), .c (.sl 62 3 (List.map eAction x424.thn))], .box 76 [.c (.sl 57 2 (List.map eFact x481.facts)), .c (.sl 119 2 (List.map ePair x481.binding))]] st) [] [0, 49] (by decide) ?_ ?_ ?_
              · simp only [go_sem, seval, *]
              · rintro i501 x502 ⟨u_495, u_496⟩ ⟨sl, ob, n⟩ y29 hx30 hI31 hW32 h hy29
                simp only [go_sem, seval, str_len] at hI31
                obtain ⟨⟨g33_0, g33_6, g33_7, g33_9, g33_11, g33_27, g33_28, g33_29, g33_36, g33_37, g33_38, g33_43, g33_44, g33_45⟩, og33_0, og33_1, hn⟩ := hI31
                subst hn
                have hlhx30 := WF.slotL hW32 g33_43 (j := 0) rfl
                have q34 := lt_t hx30
                have q35 := lt_p hx30
                have q36 := nat_in (lt_n hx30) hlhx30
                try simp only [go_sem, seval, *]
                obtain ⟨v503, e37, h⟩ := bind_K h
                refine call_K (by have hh := i_Instance_ok e37; first | exact hh | (simp only [go_sem, *] at hh; exact hh)) ?_
                try simp only [go_sem, seval, *]
                obtain ⟨v504, e38, h⟩ := bind_K h
                refine call_K (by have hh := i_FindFact_ok e38; first | exact hh | (simp only [go_sem, *] at hh; exact hh)) ?_
                try simp only [go_sem, seval, *]
                refine ite_K h (fun c39 h => ?_) (fun c39 h => ?_) <;> try simp only [go_sem, seval, *]
                · refine ⟨_, [], [0, 1], (Option.some.inj h).symm, by decide, ?_⟩
                  try simp only [go_sem, seval, *]
                · refine ite_K h (fun c40 h => ?_) (fun c40 h => ?_) <;> try simp only [go_sem, seval, *]
                  · replace h := inr_K h hy29
                    replace h := inr_K h hy21
                    replace h := inr_K h hy11
                    replace h := inr_K h hy6
                    obtain rfl := Option.some.inj h
                    try simp only [go_sem, seval, *]
                  · obtain ⟨v505, e41, h⟩ := bind_K h
                    refine call_K (by have hh := i_putFact_ok e41; first | exact hh | (simp only [go_sem, *] at hh; exact hh)) ?_
                    try simp only [go_sem, seval, *]
                    refine ⟨_, [(false, 6, 4096)], [0, 1], (Option.some.inj h).symm, by decide, ?_⟩
                    try simp only [go_sem, seval, *]
              · rintro ⟨u_495, u_496⟩ ⟨sl, ob, n⟩ hI42 hW43 h
                simp only [go_sem, seval, str_len] at hI42
                obtain ⟨⟨g44_0, g44_6, g44_7, g44_9, g44_11, g44_27, g44_28, g44_29, g44_36, g44_37, g44_38, g44_43, g44_44, g44_45⟩, og44_0, og44_1, hn⟩ := hI42
                subst hn
                have q45 := lt_f (x424.thn.length)
                try simp only [go_sem, seval, *]
                refine ⟨_, [], [0], (Option.some.inj h).symm, by decide, ?_⟩
                try simp only [go_sem, seval, *]
            · rintro ⟨u_453, u_454⟩ ⟨sl, ob, n⟩ hI46 hW47 h
              simp only [go_sem, seval, str_len] at hI46
              obtain ⟨⟨g48_0, g48_6, g48_7, g48_9, g48_27, g48_28, g48_29, g48_36, g48_37, g48_38⟩, og48_0, hn⟩ := hI46
              subst hn
              have q49 := lt_f (v426.length)
              try simp only [go_sem, seval, *]
              refine ⟨_, [], [], (Option.some.inj h).symm, by decide, ?_⟩
              try simp only [go_sem, seval, *]
          · rintro ⟨u_339, u_340⟩ ⟨sl, ob, n⟩ hI50 hW51 h
            simp only [go_sem, seval, str_len] at hI50
            obtain ⟨⟨g52_0, g52_6, g52_7, g52_27, g52_28, g52_29⟩, hn⟩ := hI50
            subst hn
            have q53 := lt_f (append_0.length)
            try simp only [go_sem, seval, *]
            refine ⟨_, [], [], (Option.some.inj h).symm, by decide, ?_⟩
            try simp only [go_sem, seval, *]
        · replace h := inr_K h hy6
          obtain rfl := Option.some.inj h
          try simp only [go_sem, seval, *]
    · obtain rfl := Option.some.inj h
      try simp only [go_sem, seval, *]
  · obtain rfl := Option.some.inj h
    try simp only [go_sem, seval, *]
end Go.Proofs.YtlkgkkacnoaeaaaGreatDoor

namespace Go.Proofs.YtlkgkkacnoaeaaaGreatDoor
open Go.Proofs.Tryz
set_option linter.unusedSimpArgs false
set_option linter.unusedVariables false
set_option maxRecDepth 1000000
set_option maxHeartbeats 4000000
theorem s_l6Tokens_ok {l_0 : (List CondD)} {facts_1 : (List FactD)} {r : (List TokenD)} (h : s_l6Tokens l_0 facts_1 = some r) : Sound Tryz.prog J0 37 [(false, [.sl 99 5 (List.map eCond l_0)]), (false, [.sl 57 2 (List.map eFact facts_1)])] [(false, [(false, .sl 76 2 (List.map eToken r))])] := by
  refine fnk Tryz.func37 (by kernel_rfl) rfl (by kernel_rfl) (by kernel_rfl) ?_
  unfold s_l6Tokens at h
  simp only [fnS, f37, argSt, go_sem, seval]
  refine swp_for h (fun i row_3 st => IV [(0, .p false [.c (.sl 99 5 (List.map eCond l_0))]), (1, .p false [.c (.sl 57 2 (List.map eFact facts_1))]), (5, .p false [.row 0]), (6, .p false [.c (.int .i64 ((i : Nat) : Int))])] [.row 76 2 (List.map eToken row_3) 2] st) [] [32] (by decide) ?_ ?_ ?_
  · simp only [go_sem, seval, *]
  · rintro i7 x8 row_3 ⟨sl, ob, n⟩ y1 hx2 hI3 hW4 h hy1
    simp only [go_sem, seval, str_len] at hI3
    obtain ⟨⟨g5_0, g5_1, g5_5, g5_6⟩, og5_0, hn⟩ := hI3
    subst hn
    have hlhx2 := WF.slotL hW4 g5_0 (j := 0) rfl
    have q6 := lt_t hx2
    have q7 := lt_p hx2
    have q8 := nat_in (lt_n hx2) hlhx2
    try simp only [go_sem, seval, *]
    obtain ⟨v9, e9, h⟩ := bind_K h
    refine call_K (by have hh := s_l6Next_ok e9; first | exact hh | (simp only [go_sem, *] at hh; exact hh)) ?_
    try simp only [go_sem, seval, *]
    refine ⟨_, [], [161], (Option.some.inj h).symm, by decide, ?_⟩
    try simp only [go_sem, seval, *]
  · rintro row_3 ⟨sl, ob, n⟩ hI10 hW11 h
    simp only [go_sem, seval, str_len] at hI10
    obtain ⟨⟨g12_0, g12_1, g12_5, g12_6⟩, og12_0, hn⟩ := hI10
    subst hn
    have q13 := lt_f (l_0.length)
    obtain rfl := Option.some.inj h
    try simp only [go_sem, seval, *]
end Go.Proofs.YtlkgkkacnoaeaaaGreatDoor

namespace Go.Proofs.YtlkgkkacnoaeaaaGreatDoor
open Go.Proofs.Tryz
set_option linter.unusedSimpArgs false
set_option linter.unusedVariables false
set_option maxRecDepth 1000000
set_option maxHeartbeats 4000000
theorem s_PossibleFacts_ok {append_0 : (List RuleD)} {String_1 : (List FactD)} {r : ((List FactD) × Bool)} (h : s_PossibleFacts append_0 String_1 = some r) : Sound Tryz.prog J0 13 [(false, [.sl 52 4 (List.map eRule append_0)]), (false, [.sl 57 2 (List.map eFact String_1)])] [(false, [(false, .sl 57 2 (List.map eFact r.1))]), (false, [(false, .bool r.2)])] := by
  refine fnn 4 Tryz.func13 (by kernel_rfl) rfl (by kernel_rfl) (by kernel_rfl) ?_
  unfold s_PossibleFacts at h
  simp only [fnN, f13, argSt, go_sem, seval]
  obtain ⟨v1, e1, h⟩ := bind_K h
  refine call_K (by have hh := s_AreLogical_ok e1; first | exact hh | (simp only [go_sem, *] at hh; exact hh)) ?_
  try simp only [go_sem, seval, *]
  refine ite_K h (fun c2 h => ?_) (fun c2 h => ?_) <;> try simp only [go_sem, seval, *]
  · obtain ⟨v2, e3, h⟩ := bind_K h
    refine call_K (by have hh := s_AreFacts_ok e3; first | exact hh | (simp only [go_sem, *] at hh; exact hh)) ?_
    try simp only [go_sem, seval, *]
    refine ite_K h (fun c4 h => ?_) (fun c4 h => ?_) <;> try simp only [go_sem, seval, *]
    · obtain ⟨v3, e5, h⟩ := bind_K h
      refine call_K (by have hh := s_l2Copies_ok e5; first | exact hh | (simp only [go_sem, *] at hh; exact hh)) ?_
      try simp only [go_sem, seval, *]
      refine swp_iter h (fun s st => match s with | (u_187, u_188) => IV [(0, .p false [.c (.sl 52 4 (List.map eRule append_0))]), (6, .p false [.n (.sl 57 2 (List.map eFact u_187))]), (7, .p false [.c (.bool u_188)])] [] st) [(false, 6, 4096)] [] (by decide) ?_ ?_
      · simp only [go_sem, seval, *]
      · rintro ⟨u_187, u_188⟩ ⟨sl, ob, n⟩ y6 hI7 hW8 h hy6
        simp only [go_sem, seval, str_len] at hI7
        obtain ⟨⟨g9_0, g9_6, g9_7⟩, hn⟩ := hI7
        subst hn
        try simp only [go_sem, seval, *]
        refine ite_K h (fun c10 h => ?_) (fun c10 h => ?_) <;> try simp only [go_sem, seval, *]
        · refine swp_for h (fun i u_249 st => IV [(0, .p false [.c (.sl 52 4 (List.map eRule append_0))]), (6, .p false [.n (.sl 57 2 (List.map eFact u_249))]), (8, .p false [.n (.sl 57 2 (List.map eFact u_187))]), (9, .p false [.c (.int .i64 ((i : Nat) : Int))])] [] st) [] [] (by decide) ?_ ?_ ?_
          · simp only [go_sem, seval, *]
          · rintro i311 x312 u_249 ⟨sl, ob, n⟩ y11 hx12 hI13 hW14 h hy11
            simp only [go_sem, seval, str_len] at hI13
            obtain ⟨⟨g15_0, g15_6, g15_8, g15_9⟩, hn⟩ := hI13
            subst hn
            have hlhx12 := WF.slotL hW14 g15_0 (j := 0) rfl
            have q16 := lt_t hx12
            have q17 := lt_p hx12
            have q18 := nat_in (lt_n hx12) hlhx12
            try simp only [go_sem, seval, *]
            obtain ⟨v313, e19, h⟩ := bind_K h
            refine frz_K (by have hh := s_l14Positive_ok e19; first | exact hh | (simp only [go_sem, *] at hh; exact hh)) ?_
            try simp only [go_sem, seval, *]
            obtain ⟨v314, e20, h⟩ := bind_K h
            refine call_K (by have hh := s_l6Tokens_ok e20; first | exact hh | (simp only [go_sem, *] at hh; exact hh)) ?_
            try simp only [go_sem, seval, *]
            refine swp_for h (fun i u_335 st => IV [(0, .p false [.c (.sl 52 4 (List.map eRule append_0))]), (6, .p false [.n (.sl 57 2 (List.map eFact u_335))]), (8, .p false [.n (.sl 57 2 (List.map eFact u_187))]), (9, .p false [.c (.int .i64 ((i311 : Nat) : Int))]), (10, .p false [.row 0]), (11, .p false [.c (.int .i64 ((i : Nat) : Int))])] [.row 76 2 (List.map eToken v314) 2] st) [] [160] (by decide) ?_ ?_ ?_
            · simp only [go_sem, seval, *]
            · rintro i355 x356 u_335 ⟨sl, ob, n⟩ y21 hx22 hI23 hW24 h hy21
              simp only [go_sem, seval, str_len] at hI23
              obtain ⟨⟨g25_0, g25_6, g25_8, g25_9, g25_10, g25_11⟩, og25_0, hn⟩ := hI23
              subst hn
              have hlhx22 := WF.rowL hW24 og25_0
              have q26 := lt_t hx22
              have q27 := lt_p hx22
              have q28 := nat_in (lt_n hx22) hlhx22
              try simp only [go_sem, seval, *]
              refine swp_for h (fun i u_364 st => IV [(0, .p false [.c (.sl 52 4 (List.map eRule append_0))]), (6, .p false [.n (.sl 57 2 (List.map eFact u_364))]), (8, .p false [.n (.sl 57 2 (List.map eFact u_187))]), (9, .p false [.c (.int .i64 ((i311 : Nat) : Int))]), (10, .p false [.row 0]), (11, .p false [.c (.int .i64 ((i355 : Nat) : Int))]), (12, .p false [.c (.int .i64 ((i : Nat) : Int))])] [.row 76 2 (List.map eToken v314) 2] st) [] [0] (by decide) ?_ ?_ ?_
              · simp only [go_sem, seval, *]
              · rintro i368 x369 u_364 ⟨sl, ob, n⟩ y29 hx30 hI31 hW32 h hy29
                simp only [go_sem, seval, str_len] at hI31
                obtain ⟨⟨g33_0, g33_6, g33_8, g33_9, g33_10, g33_11, g33_12⟩, og33_0, hn⟩ := hI31
                subst hn
                have hlhx30 := WF.elL (WF.slotD hW32 g33_0 (j := 0) rfl) hx12 (j := 3) rfl
                have q34 := lt_t hx30
                have q35 := lt_p hx30
                have q36 := nat_in (lt_n hx30) hlhx30
                try simp only [go_sem, seval, *]
                obtain ⟨v370, e37, h⟩ := bind_K h
                refine call_K (by have hh := s_Instance_ok e37; first | exact hh | (simp only [go_sem, *] at hh; exact hh)) ?_
                try simp only [go_sem, seval, *]
                obtain ⟨v371, e38, h⟩ := bind_K h
                refine call_K (by have hh := s_l2Put_ok e38; first | exact hh | (simp only [go_sem, *] at hh; exact hh)) ?_
                try simp only [go_sem, seval, *]
                refine ⟨_, [(false, 6, 4096)], [0], (Option.some.inj h).symm, by decide, ?_⟩
                try simp only [go_sem, seval, *]
              · rintro u_364 ⟨sl, ob, n⟩ hI39 hW40 h
                simp only [go_sem, seval, str_len] at hI39
                obtain ⟨⟨g41_0, g41_6, g41_8, g41_9, g41_10, g41_11, g41_12⟩, og41_0, hn⟩ := hI39
                subst hn
                have q42 := lt_f (x312.thn.length)
                try simp only [go_sem, seval, *]
                refine ⟨_, [], [0], (Option.some.inj h).symm, by decide, ?_⟩
                try simp only [go_sem, seval, *]
            · rintro u_335 ⟨sl, ob, n⟩ hI43 hW44 h
              simp only [go_sem, seval, str_len] at hI43
              obtain ⟨⟨g45_0, g45_6, g45_8, g45_9, g45_10, g45_11⟩, og45_0, hn⟩ := hI43
              subst hn
              have q46 := lt_f (v314.length)
              try simp only [go_sem, seval, *]
              refine ite_K h (fun c47 h => ?_) (fun c47 h => ?_) <;> try simp only [go_sem, seval, *]
              · replace h := inr_K h hy11
                replace h := inr_K h hy6
                obtain rfl := Option.some.inj h
                try simp only [go_sem, seval, *]
              · refine ⟨_, [], [], (Option.some.inj h).symm, by decide, ?_⟩
                try simp only [go_sem, seval, *]
          · rintro u_249 ⟨sl, ob, n⟩ hI48 hW49 h
            simp only [go_sem, seval, str_len] at hI48
            obtain ⟨⟨g50_0, g50_6, g50_8, g50_9⟩, hn⟩ := hI48
            subst hn
            have q51 := lt_f (append_0.length)
            try simp only [go_sem, seval, *]
            refine ⟨_, [], [], (Option.some.inj h).symm, by decide, ?_⟩
            try simp only [go_sem, seval, *]
        · replace h := inr_K h hy6
          obtain rfl := Option.some.inj h
          try simp only [go_sem, seval, *]
    · obtain rfl := Option.some.inj h
      try simp only [go_sem, seval, *]
  · obtain rfl := Option.some.inj h
    try simp only [go_sem, seval, *]
end Go.Proofs.YtlkgkkacnoaeaaaGreatDoor

namespace Go.Proofs.YtlkgkkacnoaeaaaGreatDoor
open Go.RowKit
/-- a codec and trees say the same -/
structure Enc {α : Type} (c : Codec α) (f : α → List CT) : Prop where
  to : ∀ {w : World} {cs : List Value} {x : α} {L : List Nat}, c.rep w cs x L → RCs w (f x) cs L
  of : ∀ {w : World} {cs : List Value} {x : α} {L : List Nat}, RCs w (f x) cs L → c.rep w cs x L
section
variable {α : Type} {c : Codec α} {f : α → List CT} {w : World}
theorem Enc.reps (h : Enc c f) : ∀ {ds : List α} {xs : List Value} {L : List Nat}, c.reps w xs ds L → REs w c.size (ds.map f) xs L
  | [], _, _, h1 => h1
  | _ :: _, _, _, ⟨c1, c2, L1, L2, h1, h2, h3, h4⟩ => ⟨c1, c2, L1, L2, h1, h2, ⟨h.to h3, c.len h3⟩, h.reps h4⟩
theorem Enc.reps_of (h : Enc c f) : ∀ {ds : List α} {xs : List Value} {L : List Nat}, REs w c.size (ds.map f) xs L → c.reps w xs ds L
  | [], _, _, h1 => h1
  | _ :: _, _, _, ⟨c1, c2, L1, L2, h1, h2, h3, h4⟩ => ⟨c1, c2, L1, L2, h1, h2, h.of h3.1, h.reps_of h4⟩
theorem Enc.sl (h : Enc c f) (e : Nat) {v : Value} {ds : List α} {L : List Nat} : (sliceC c).rep w [v] ds L ↔ RC w (.sl e c.size (ds.map f)) v L := by
  constructor
  · rintro ⟨A, cap, hv, h1, h2, xs, L0, L1, hL, h3, h4⟩
    obtain rfl : v = _ := by simpa using hv
    exact ⟨A, cap, xs, L0, L1, by simp, by simpa using h1, h2, hL, c.pos, by simpa using h3, h.reps h4⟩
  · rintro ⟨A, cap, xs, L0, L1, hv, h1, h2, hL, h0, h3, h4⟩
    exact ⟨A, cap, by simpa using hv, by simpa using h1, h2, xs, L0, L1, hL, by simpa using h3, h.reps_of h4⟩
theorem RCs.solo {x : CT} {v : Value} {L : List Nat} (h : RC w x v L) : RCs w [x] [v] L := ⟨v, [], L, [], rfl, by simp, h, rfl, rfl⟩
theorem RCs.more {x : CT} {v : Value} {L M : List Nat} {r : List CT} {cs : List Value} (h : RC w x v L) (k : RCs w r cs M) : RCs w (x :: r) (v :: cs) (L ++ M) := ⟨v, cs, L, M, rfl, rfl, h, k⟩
theorem Enc.slice (h : Enc c f) (e : Nat) : Enc (sliceC c) (fun l => [.sl e c.size (l.map f)]) where
  to := fun {w cs x L} hr => by
    obtain ⟨A, cap, rfl, h1⟩ := id hr
    exact RCs.solo ((h.sl e).1 hr)
  of := fun {w cs x L} hr => by
    obtain ⟨v, cs', L1, L2, rfl, rfl, h1, rfl, rfl⟩ := hr
    rw [List.append_nil]
    exact (h.sl e).2 h1
end
theorem encStr : Enc strC eStr where
  to := fun ⟨h1, h2, h3⟩ => by subst h1; subst h2; exact RCs.solo ⟨rfl, rfl, h3⟩
  of := fun ⟨v, cs', L1, L2, h1, h2, h3, h4, h5⟩ => by
    obtain ⟨rfl, rfl, t⟩ := h3
    subst h4; subst h5; exact ⟨h1, h2, t⟩
/-- an argument; nothing is written to in the meantime -/
def Arg0 (w : World) : Bool × List CT → Value → Prop := ArgR w fun _ => False
theorem arg_sl {α : Type} {c : Codec α} {f : α → List CT} (h : Enc c f) (e : Nat) {w : World} {v : Value} {ds : List α} {L : List Nat} (hr : (sliceC c).rep w [v] ds L) : Arg0 w (false, [.sl e c.size (ds.map f)]) v := .inr ⟨rfl, _, L, rfl, (h.sl e).1 hr, fun _ _ h => h⟩
section
variable {w w' : World} {v : Value} {e : Ending}
theorem res_one {B : Nat} {n : Nat → Prop} {x : RT} (h : ResR w B n [x] v) : ∃ F, OP w B n x v F ∧ Own w B F := by
  obtain ⟨vs, F, ⟨u, vs', F1, F2, rfl, rfl, h1, rfl, rfl⟩, h2, rfl⟩ := h
  rw [List.append_nil] at h2
  exact ⟨F1, by simpa using h1, h2⟩
theorem res_sl {α : Type} {c : Codec α} {f : α → List CT} (h : Enc c f) {t : Nat} {ds : List α} {n : Nat → Prop} (hr : ResR w' w.heap.size n [(false, [(false, .sl t c.size (ds.map f))])] v) (hb : Below w.heap.size w w') : AccC c t w v ds w' := by
  obtain ⟨F, h1, h2⟩ := res_one hr
  rcases h1 with ⟨h1, _⟩ | ⟨_, ct, h1, h3⟩
  · simp at h1
  · obtain rfl : _ = ct := by simpa using h1
    obtain ⟨_, cs, L, h4, h5, rfl, _⟩ := h3
    exact ⟨⟨cs, L, by simpa using h4, h.reps_of h5, h2⟩, hb⟩
end
section
variable {P : Program} {J : World → Prop} {f : FuncId} {args : List (Bool × List CT)} {res : List RT}
theorem Sound.calls (h : Sound P J f args res) {w : World} {vs : List Value} (hj : J w) (ha : All2 (Arg0 w) args vs) : Calls P f vs.toArray w fun e w' => ∃ v n, e = .returned v ∧ ResR w' w.heap.size n res v ∧ Below w.heap.size w w' :=
  (h.2 w (fun _ => False) vs hj (fun _ h => h.elim) ha).mono fun _ _ ⟨v, n, h1, h2, _, h3⟩ => ⟨v, n, h1, h2, h3⟩
/-- a slice and a bool as the results -/
def GivesSB {α : Type} (c : Codec α) (t : Nat) (w : World) (ds : List α) (b : Bool) : Ending → World → Prop := fun e w' => ∃ v, e = .returned (.tuple #[v, .bool b]) ∧ AccC c t w v ds w'
theorem Sound.givesSB {α : Type} {c : Codec α} {g : α → List CT} {t : Nat} {ds : List α} {b : Bool} (h : Sound P J f args [(false, [(false, .sl t c.size (ds.map g))]), (false, [(false, .bool b)])]) (hg : Enc c g) {w : World} {vs : List Value} (hj : J w) (ha : All2 (Arg0 w) args vs) : Calls P f vs.toArray w (GivesSB c t w ds b) :=
  (h.calls hj ha).mono fun _ w' ⟨v, n, h1, ⟨us, F, ⟨u, us', F1, F2, e1, e2, p1, u2, us2, F3, F4, e3, e4, p2, e5, e6⟩, hO, e7⟩, h3⟩ => by
    subst e5 e6 e3 e4 e1 e2
    rcases p2 with ⟨p2, _⟩ | ⟨_, ct, p2, p3⟩
    · simp at p2
    · obtain rfl : _ = ct := by simpa using p2
      obtain ⟨⟨p4, _⟩, rfl⟩ := p3
      subst p4
      simp only [List.append_nil] at hO
      exact ⟨u, by rw [h1, e7]; rfl, res_sl (n := n) hg ⟨[u], F1, ⟨u, [], F1, [], rfl, by simp, p1, rfl, rfl⟩, hO, rfl⟩ h3⟩
end
end Go.Proofs.YtlkgkkacnoaeaaaGreatDoor

namespace Go.Proofs.YtlkgkkacnoaeaaaGreatDoor
theorem encCond : Enc cCond eCond where
  to := fun {w cs x L} h => by
    obtain ⟨A1, c1, L1, rfl, rfl, t0, t1, t2, n1, m1, s1⟩ := h
    have hh : RCs w (eCond x) _ _ := RCs.more ⟨rfl, rfl⟩ (RCs.more ⟨rfl, rfl, t0⟩ (RCs.more ((encStr.sl 9).1 ⟨A1, c1, rfl, n1, m1, s1⟩) (RCs.more ⟨rfl, rfl, t1⟩ (RCs.solo ⟨rfl, rfl, t2⟩))))
    simpa only [List.nil_append, List.append_nil, List.append_assoc] using hh
  of := fun {w cs x L} h => by
    obtain ⟨v0, r0, K0, M0, rfl, rfl, h0, v1, r1, K1, M1, rfl, rfl, h1, v2, r2, K2, M2, rfl, rfl, h2, v3, r3, K3, M3, rfl, rfl, h3, v4, r4, K4, M4, rfl, rfl, h4, rfl, rfl⟩ := h
    obtain ⟨rfl, rfl⟩ := h0
    obtain ⟨rfl, rfl, t0⟩ := h1
    obtain ⟨A1, c1, e1, n1, m1, s1⟩ := (encStr.sl 9).2 h2
    cases e1
    obtain ⟨rfl, rfl, t1⟩ := h3
    obtain ⟨rfl, rfl, t2⟩ := h4
    exact ⟨A1, c1, _, rfl, by simp only [List.nil_append, List.append_nil, List.append_assoc], t0, t1, t2, n1, m1, s1⟩
theorem encAction : Enc cAction eAction where
  to := fun {w cs x L} h => by
    obtain ⟨A1, c1, L1, rfl, rfl, t0, n1, m1, s1⟩ := h
    have hh : RCs w (eAction x) _ _ := RCs.more ⟨rfl, rfl⟩ (RCs.more ⟨rfl, rfl, t0⟩ (RCs.solo ((encStr.sl 9).1 ⟨A1, c1, rfl, n1, m1, s1⟩)))
    simpa only [List.nil_append, List.append_nil, List.append_assoc] using hh
  of := fun {w cs x L} h => by
    obtain ⟨v0, r0, K0, M0, rfl, rfl, h0, v1, r1, K1, M1, rfl, rfl, h1, v2, r2, K2, M2, rfl, rfl, h2, rfl, rfl⟩ := h
    obtain ⟨rfl, rfl⟩ := h0
    obtain ⟨rfl, rfl, t0⟩ := h1
    obtain ⟨A1, c1, e1, n1, m1, s1⟩ := (encStr.sl 9).2 h2
    cases e1
    exact ⟨A1, c1, _, rfl, by simp only [List.nil_append, List.append_nil, List.append_assoc], t0, n1, m1, s1⟩
theorem encRule : Enc cRule eRule where
  to := fun {w cs x L} h => by
    obtain ⟨A1, c1, L1, A2, c2, L2, rfl, rfl, t0, n1, m1, s1, n2, m2, s2⟩ := h
    have hh : RCs w (eRule x) _ _ := RCs.more ⟨rfl, rfl, t0⟩ (RCs.more ⟨rfl, rfl⟩ (RCs.more ((encCond.sl 99).1 ⟨A1, c1, rfl, n1, m1, s1⟩) (RCs.solo ((encAction.sl 62).1 ⟨A2, c2, rfl, n2, m2, s2⟩))))
    simpa only [List.nil_append, List.append_nil, List.append_assoc] using hh
  of := fun {w cs x L} h => by
    obtain ⟨v0, r0, K0, M0, rfl, rfl, h0, v1, r1, K1, M1, rfl, rfl, h1, v2, r2, K2, M2, rfl, rfl, h2, v3, r3, K3, M3, rfl, rfl, h3, rfl, rfl⟩ := h
    obtain ⟨rfl, rfl, t0⟩ := h0
    obtain ⟨rfl, rfl⟩ := h1
    obtain ⟨A1, c1, e1, n1, m1, s1⟩ := (encCond.sl 99).2 h2
    cases e1
    obtain ⟨A2, c2, e2, n2, m2, s2⟩ := (encAction.sl 62).2 h3
    cases e2
    exact ⟨A1, c1, _, A2, c2, _, rfl, by simp only [List.nil_append, List.append_nil, List.append_assoc], t0, n1, m1, s1, n2, m2, s2⟩
theorem encFact : Enc cFact eFact where
  to := fun {w cs x L} h => by
    obtain ⟨A1, c1, L1, rfl, rfl, t0, n1, m1, s1⟩ := h
    have hh : RCs w (eFact x) _ _ := RCs.more ⟨rfl, rfl, t0⟩ (RCs.solo ((encStr.sl 9).1 ⟨A1, c1, rfl, n1, m1, s1⟩))
    simpa only [List.nil_append, List.append_nil, List.append_assoc] using hh
  of := fun {w cs x L} h => by
    obtain ⟨v0, r0, K0, M0, rfl, rfl, h0, v1, r1, K1, M1, rfl, rfl, h1, rfl, rfl⟩ := h
    obtain ⟨rfl, rfl, t0⟩ := h0
    obtain ⟨A1, c1, e1, n1, m1, s1⟩ := (encStr.sl 9).2 h1
    cases e1
    exact ⟨A1, c1, _, rfl, by simp only [List.nil_append, List.append_nil, List.append_assoc], t0, n1, m1, s1⟩
end Go.Proofs.YtlkgkkacnoaeaaaGreatDoor

namespace Go.Proofs.YtlkgkkacnoaeaaaGreatDoor
open Go.RowKit

set_option maxHeartbeats 400000 in
theorem szStringS_any (A : Option Addr) (n c : Nat) (ds : List ByteArray) (L : List Nat) (left : Int) (w : World) (hn : n = ds.length) (hm : n ≤ 9223372036854775807) (h0 : 0 ≤ left) (h1 : left ≤ 1048576) (h : Sli strC w A ds L) :
    Calls Tryz.prog 52 #[.slice A n c, .int .i64 left] w (SzPost (costStrs ds) left w) := by
  have H := Lib.hid h
  have HN := Lib.hid hn
  clear h hn
  by_cases hlen : (n : Int) ≤ left
  · go_enter Tryz.func52, Tryz.ntmps52
    go_wp2
    go_loop [1, 5] (fun q i => ∃ (k : Nat) (l : Int), k ≤ n ∧ i = .int .i64 k ∧ q = .int .i64 l ∧ 0 ≤ l ∧ l ≤ left ∧ Hid (szR ((ds.drop k).map ByteArray.size).sum l = szR (costStrs ds) left)) (fun _ i => n - (intOf i).toNat)
    case atStart => exact ⟨0, left - n, Nat.zero_le _, rfl, rfl, by omega, by omega, Lib.hid (by
        have e := HN.out
        exact szR_step _ _ _ _ (by omega) (by simp [costStrs]; omega))⟩
    case round =>
      obtain ⟨k, l, hk, rfl, rfl, hl0, hl1, HE⟩ := hrel
      by_cases hlt : k < n
      · obtain ⟨b, off, cs, Lk, rfl, _, _, hrep, hc⟩ := H.out.at_ (show k < ds.length by have := HN.out; omega)
        obtain ⟨rfl, _, hss⟩ := str_rep hrep
        have hc0 := hc 0 _ rfl
        clear hc hrep
        have hd : Hid (ds.drop k = ds[k]'(by have := HN.out; omega) :: ds.drop (k + 1)) := List.drop_eq_getElem_cons _
        generalize ds[k]'(by have := HN.out; omega) = s at hc0 hd hss
        simp only [show strC.size = 1 from rfl, Nat.mul_one, Nat.add_zero] at hc0
        by_cases hs : (s.size : Int) ≤ l
        · go_wp2
          go_round
          case rel => exact ⟨k + 1, l - s.size, by omega, by go_num, rfl, by omega, by omega, Lib.hid (by rw [← HE.out, hd.out]; exact szR_step _ _ _ _ (by omega) (by simp))⟩
          case measure => simp [intOf]; omega
        · go_wp2
          go_ret
          exact ⟨ret_i (by rw [← HE.out, hd.out, szR_neg (by simp; omega)]), Below.refl _ _⟩
      · go_wp2
        go_ret
        exact ⟨ret_i (by rw [← HE.out, List.drop_of_length_le (by have := HN.out; omega)]; simp [szR, hl0]), Below.refl _ _⟩
  · go_enter Tryz.func52, Tryz.ntmps52
    go_wp2
    go_ret
    exact ⟨ret_i (by rw [szR_neg (by have := HN.out; simp [costStrs]; omega)]), Below.refl _ _⟩

set_option maxHeartbeats 400000 in
set_option maxHeartbeats 800000 in
theorem szFact_any (cs : List Value) (x : FactD) (L : List Nat) (left : Int) (w : World) (h0 : 0 ≤ left) (h1 : left ≤ 1048576) (h : cFact.rep w cs x L) :
    Calls Tryz.prog 19 #[.agg cs.toArray, .int .i64 left] w (SzPost (costFact x) left w) := by
  obtain ⟨A1, c1, L1, rfl, _hL, t0, n1, m1, s1⟩ := h
  unfold maxLen at m1
  have S1 := Lib.hid s1
  clear s1
  have B0 : Hid (Below w.heap.size w (w.alloc (.cells #[.string x.rel, .slice A1 x.args.length c1] 46))) := (Below.refl _ _).alloc (Nat.le_refl _) _
  have K0 : Hid (Blk (w.alloc (.cells #[.string x.rel, .slice A1 x.args.length c1] 46)) w.heap.size 46 #[.string x.rel, .slice A1 x.args.length c1]) := Blk.new _ _ _
  go_enter Tryz.func19, Tryz.ntmps19
  by_cases k1 : (x.rel.size : Int) ≤ left
  rotate_left
  · go_wp2_with fail
    go_ret
    exact ⟨ret_i (by rw [szR_neg (by simp only [costFact]; omega)]), B0.out⟩
  go_wp2_with fail
  refine (szStringS_any A1 _ c1 x.args L1 _ _ rfl (by omega) (by omega) (by omega) (S1.out.below B0.out)).mono ?_
  rintro e w1 ⟨rfl, hb1⟩
  have B1 := Lib.hid (B0.out.trans (hb1.mono B0.out.size))
  have K1 := Lib.hid (K0.out.later hb1)
  have f0 := K1.out.at (i := 0) rfl
  have f1 := K1.out.at (i := 1) rfl
  clear hb1
  by_cases k2 : ((costStrs x.args : Nat) : Int) ≤ left - x.rel.size
  rotate_left
  · rw [szR_neg k2]
    go_wp2_with fail
    go_ret
    exact ⟨ret_i (by rw [szR_neg (by simp only [costFact]; omega)]), B1.out⟩
  rw [szR_pos k2]
  go_wp2_with fail
  go_ret
  exact ⟨ret_i (by rw [szR_pos (by simp only [costFact]; omega)] <;> simp only [costFact] <;> omega), B1.out⟩

set_option maxHeartbeats 800000 in
theorem szFactS_any (A : Option Addr) (n c : Nat) (ds : List FactD) (L : List Nat) (left : Int) (w : World) (hn : n = ds.length) (hm : n ≤ 9223372036854775807) (h0 : 0 ≤ left) (h1 : left ≤ 1048576) (h : Sli cFact w A ds L) :
    Calls Tryz.prog 6 #[.slice A n c, .int .i64 left] w (SzPost (costFactS ds) left w) := by
  have H := Lib.hid h
  have HN := Lib.hid hn
  clear h hn
  by_cases hlen : (n : Int) ≤ left
  · go_enter Tryz.func6, Tryz.ntmps6
    go_wp2
    go_loopw [1, 5] (fun q i wr => ∃ (k : Nat) (l : Int), k ≤ n ∧ i = .int .i64 k ∧ q = .int .i64 l ∧ 0 ≤ l ∧ l ≤ left ∧ Hid (Below w.heap.size w wr) ∧ Hid (szR ((ds.drop k).map costFact).sum l = szR (costFactS ds) left)) (fun _ i _ => n - (intOf i).toNat)
    case atStart => exact ⟨0, left - n, Nat.zero_le _, rfl, rfl, by omega, by omega, Below.refl _ _, Lib.hid (by
        have e := HN.out
        exact szR_step _ _ _ _ (by omega) (by simp only [costFactS, List.drop_zero]; omega))⟩
    case round =>
      obtain ⟨k, l, hk, rfl, rfl, hl0, hl1, HB, HE⟩ := hrel
      by_cases hlt : k < n
      · have hkl : k < ds.length := by have := HN.out; omega
        obtain ⟨b, off, cs, Lk, rfl, hbL, hLk, hrep, hc⟩ := H.out.at_ hkl
        have hbl : b < w.heap.size := H.out.lt b hbL
        have HR := Lib.hid (cFact.keep hrep (keep_below HB.out (fun y m => H.out.lt y (hLk y m))))
        obtain ⟨A1, c1, rfl⟩ := cFact_cells hrep
        have q0 : wr.cell? ⟨b, off + k * 2, none⟩ = _ := (HB.out.cell (p := ⟨b, off + (k * 2 + 0), none⟩) hbl).trans (hc 0 _ rfl)
        have q1 : wr.cell? ⟨b, off + k * 2 + 1, none⟩ = _ := (HB.out.cell (p := ⟨b, off + (k * 2 + 1), none⟩) hbl).trans (hc 1 _ rfl)
        have hd : Hid (ds.drop k = ds[k] :: ds.drop (k + 1)) := List.drop_eq_getElem_cons _
        generalize ds[k] = x at *
        clear hc hrep
        by_cases hs : (costFact x : Int) ≤ l
        · go_wp2_with (go_at_call 19; refine (szFact_any _ x Lk _ _ (by omega) (by omega) HR.out).mono ?_; rintro e w1 ⟨rfl, hb1⟩; rw [szR_pos hs]; have HB1 := Lib.hid (HB.out.trans (hb1.mono HB.out.size)); clear hb1)
          go_roundw
          case rel => exact ⟨k + 1, l - costFact x, by omega, by go_num, rfl, by omega, by omega, HB1.out, Lib.hid (by rw [← HE.out, hd.out]; exact szR_step _ _ _ _ (by omega) (by simp))⟩
          case measure => simp [intOf]; omega
        · go_wp2_with (go_at_call 19; refine (szFact_any _ x Lk _ _ (by omega) (by omega) HR.out).mono ?_; rintro e w1 ⟨rfl, hb1⟩; rw [szR_neg hs]; have HB1 := Lib.hid (HB.out.trans (hb1.mono HB.out.size)); clear hb1)
          go_ret
          exact ⟨ret_i (by rw [← HE.out, hd.out, szR_neg (by simp; omega)]), HB1.out⟩
      · go_wp2
        go_ret
        exact ⟨ret_i (by rw [← HE.out, List.drop_of_length_le (by have := HN.out; omega)]; simp [szR, hl0]), HB.out⟩
  · go_enter Tryz.func6, Tryz.ntmps6
    go_wp2
    go_ret
    exact ⟨ret_i (by rw [szR_neg (by have := HN.out; simp only [costFactS]; omega)]), Below.refl _ _⟩

set_option maxHeartbeats 800000 in
theorem szPattern_any (cs : List Value) (x : PatternD) (L : List Nat) (left : Int) (w : World) (h0 : 0 ≤ left) (h1 : left ≤ 1048576) (h : cPattern.rep w cs x L) :
    Calls Tryz.prog 141 #[.agg cs.toArray, .int .i64 left] w (SzPost (costPattern x) left w) := by
  obtain ⟨A1, c1, L1, rfl, _hL, t0, n1, m1, s1⟩ := h
  unfold maxLen at m1
  have S1 := Lib.hid s1
  clear s1
  have B0 : Hid (Below w.heap.size w (w.alloc (.cells #[.string x.rel, .slice A1 x.args.length c1] 110))) := (Below.refl _ _).alloc (Nat.le_refl _) _
  have K0 : Hid (Blk (w.alloc (.cells #[.string x.rel, .slice A1 x.args.length c1] 110)) w.heap.size 110 #[.string x.rel, .slice A1 x.args.length c1]) := Blk.new _ _ _
  go_enter Tryz.func141, Tryz.ntmps141
  by_cases k1 : (x.rel.size : Int) ≤ left
  rotate_left
  · go_wp2_with fail
    go_ret
    exact ⟨ret_i (by rw [szR_neg (by simp only [costPattern]; omega)]), B0.out⟩
  go_wp2_with fail
  refine (szStringS_any A1 _ c1 x.args L1 _ _ rfl (by omega) (by omega) (by omega) (S1.out.below B0.out)).mono ?_
  rintro e w1 ⟨rfl, hb1⟩
  have B1 := Lib.hid (B0.out.trans (hb1.mono B0.out.size))
  have K1 := Lib.hid (K0.out.later hb1)
  have f0 := K1.out.at (i := 0) rfl
  have f1 := K1.out.at (i := 1) rfl
  clear hb1
  by_cases k2 : ((costStrs x.args : Nat) : Int) ≤ left - x.rel.size
  rotate_left
  · rw [szR_neg k2]
    go_wp2_with fail
    go_ret
    exact ⟨ret_i (by rw [szR_neg (by simp only [costPattern]; omega)]), B1.out⟩
  rw [szR_pos k2]
  go_wp2_with fail
  go_ret
  exact ⟨ret_i (by rw [szR_pos (by simp only [costPattern]; omega)] <;> simp only [costPattern] <;> omega), B1.out⟩

set_option maxHeartbeats 800000 in
theorem szCond_any (cs : List Value) (x : CondD) (L : List Nat) (left : Int) (w : World) (h0 : 0 ≤ left) (h1 : left ≤ 1048576) (h : cCond.rep w cs x L) :
    Calls Tryz.prog 86 #[.agg cs.toArray, .int .i64 left] w (SzPost (costCond x) left w) := by
  obtain ⟨A1, c1, L1, rfl, _hL, t0, t1, t2, n1, m1, s1⟩ := h
  unfold maxLen at m1
  have S1 := Lib.hid s1
  clear s1
  have B0 : Hid (Below w.heap.size w (w.alloc (.cells #[.int .i64 x.kind, .string x.pattern.rel, .slice A1 x.pattern.args.length c1, .string x.left, .string x.right] 112))) := (Below.refl _ _).alloc (Nat.le_refl _) _
  have K0 : Hid (Blk (w.alloc (.cells #[.int .i64 x.kind, .string x.pattern.rel, .slice A1 x.pattern.args.length c1, .string x.left, .string x.right] 112)) w.heap.size 112 #[.int .i64 x.kind, .string x.pattern.rel, .slice A1 x.pattern.args.length c1, .string x.left, .string x.right]) := Blk.new _ _ _
  go_enter Tryz.func86, Tryz.ntmps86
  go_wp2_with fail
  refine (szPattern_any [.string x.pattern.rel, .slice A1 x.pattern.args.length c1] x.pattern _ _ _ (by omega) (by omega) ⟨A1, c1, L1, rfl, rfl, t0, n1, (by unfold maxLen; omega), S1.out.below B0.out⟩).mono ?_
  rintro e w1 ⟨rfl, hb1⟩
  have B1 := Lib.hid (B0.out.trans (hb1.mono B0.out.size))
  have K1 := Lib.hid (K0.out.later hb1)
  have f0 := K1.out.at (i := 0) rfl
  have f1 := K1.out.at (i := 1) rfl
  have f2 := K1.out.at (i := 2) rfl
  have f3 := K1.out.at (i := 3) rfl
  have f4 := K1.out.at (i := 4) rfl
  clear hb1
  by_cases k1 : ((costPattern x.pattern : Nat) : Int) ≤ left
  rotate_left
  · rw [szR_neg k1]
    go_wp2_with fail
    go_ret
    exact ⟨ret_i (by rw [szR_neg (by simp only [costCond]; omega)]), B1.out⟩
  rw [szR_pos k1]
  by_cases k2 : (x.left.size : Int) ≤ left - (costPattern x.pattern : Nat)
  rotate_left
  · go_wp2_with fail
    go_ret
    exact ⟨ret_i (by rw [szR_neg (by simp only [costCond]; omega)]), B1.out⟩
  by_cases k3 : (x.right.size : Int) ≤ left - (costPattern x.pattern : Nat) - x.left.size
  rotate_left
  · go_wp2_with fail
    go_ret
    exact ⟨ret_i (by rw [szR_neg (by simp only [costCond]; omega)]), B1.out⟩
  go_wp2_with fail
  go_ret
  exact ⟨ret_i (by rw [szR_pos (by simp only [costCond]; omega)] <;> simp only [costCond] <;> omega), B1.out⟩

set_option maxHeartbeats 800000 in
theorem szCondS_any (A : Option Addr) (n c : Nat) (ds : List CondD) (L : List Nat) (left : Int) (w : World) (hn : n = ds.length) (hm : n ≤ 9223372036854775807) (h0 : 0 ≤ left) (h1 : left ≤ 1048576) (h : Sli cCond w A ds L) :
    Calls Tryz.prog 50 #[.slice A n c, .int .i64 left] w (SzPost (costCondS ds) left w) := by
  have H := Lib.hid h
  have HN := Lib.hid hn
  clear h hn
  by_cases hlen : (n : Int) ≤ left
  · go_enter Tryz.func50, Tryz.ntmps50
    go_wp2
    go_loopw [1, 5] (fun q i wr => ∃ (k : Nat) (l : Int), k ≤ n ∧ i = .int .i64 k ∧ q = .int .i64 l ∧ 0 ≤ l ∧ l ≤ left ∧ Hid (Below w.heap.size w wr) ∧ Hid (szR ((ds.drop k).map costCond).sum l = szR (costCondS ds) left)) (fun _ i _ => n - (intOf i).toNat)
    case atStart => exact ⟨0, left - n, Nat.zero_le _, rfl, rfl, by omega, by omega, Below.refl _ _, Lib.hid (by
        have e := HN.out
        exact szR_step _ _ _ _ (by omega) (by simp only [costCondS, List.drop_zero]; omega))⟩
    case round =>
      obtain ⟨k, l, hk, rfl, rfl, hl0, hl1, HB, HE⟩ := hrel
      by_cases hlt : k < n
      · have hkl : k < ds.length := by have := HN.out; omega
        obtain ⟨b, off, cs, Lk, rfl, hbL, hLk, hrep, hc⟩ := H.out.at_ hkl
        have hbl : b < w.heap.size := H.out.lt b hbL
        have HR := Lib.hid (cCond.keep hrep (keep_below HB.out (fun y m => H.out.lt y (hLk y m))))
        obtain ⟨A1, c1, rfl⟩ := cCond_cells hrep
        have q0 : wr.cell? ⟨b, off + k * 5, none⟩ = _ := (HB.out.cell (p := ⟨b, off + (k * 5 + 0), none⟩) hbl).trans (hc 0 _ rfl)
        have q1 : wr.cell? ⟨b, off + k * 5 + 1, none⟩ = _ := (HB.out.cell (p := ⟨b, off + (k * 5 + 1), none⟩) hbl).trans (hc 1 _ rfl)
        have q2 : wr.cell? ⟨b, off + k * 5 + 2, none⟩ = _ := (HB.out.cell (p := ⟨b, off + (k * 5 + 2), none⟩) hbl).trans (hc 2 _ rfl)
        have q3 : wr.cell? ⟨b, off + k * 5 + 3, none⟩ = _ := (HB.out.cell (p := ⟨b, off + (k * 5 + 3), none⟩) hbl).trans (hc 3 _ rfl)
        have q4 : wr.cell? ⟨b, off + k * 5 + 4, none⟩ = _ := (HB.out.cell (p := ⟨b, off + (k * 5 + 4), none⟩) hbl).trans (hc 4 _ rfl)
        have hd : Hid (ds.drop k = ds[k] :: ds.drop (k + 1)) := List.drop_eq_getElem_cons _
        generalize ds[k] = x at *
        clear hc hrep
        by_cases hs : (costCond x : Int) ≤ l
        · go_wp2_with (go_at_call 86; refine (szCond_any _ x Lk _ _ (by omega) (by omega) HR.out).mono ?_; rintro e w1 ⟨rfl, hb1⟩; rw [szR_pos hs]; have HB1 := Lib.hid (HB.out.trans (hb1.mono HB.out.size)); clear hb1)
          go_roundw
          case rel => exact ⟨k + 1, l - costCond x, by omega, by go_num, rfl, by omega, by omega, HB1.out, Lib.hid (by rw [← HE.out, hd.out]; exact szR_step _ _ _ _ (by omega) (by simp))⟩
          case measure => simp [intOf]; omega
        · go_wp2_with (go_at_call 86; refine (szCond_any _ x Lk _ _ (by omega) (by omega) HR.out).mono ?_; rintro e w1 ⟨rfl, hb1⟩; rw [szR_neg hs]; have HB1 := Lib.hid (HB.out.trans (hb1.mono HB.out.size)); clear hb1)
          go_ret
          exact ⟨ret_i (by rw [← HE.out, hd.out, szR_neg (by simp; omega)]), HB1.out⟩
      · go_wp2
        go_ret
        exact ⟨ret_i (by rw [← HE.out, List.drop_of_length_le (by have := HN.out; omega)]; simp [szR, hl0]), HB.out⟩
  · go_enter Tryz.func50, Tryz.ntmps50
    go_wp2
    go_ret
    exact ⟨ret_i (by rw [szR_neg (by have := HN.out; simp only [costCondS]; omega)]), Below.refl _ _⟩

set_option maxHeartbeats 800000 in
theorem szAction_any (cs : List Value) (x : ActionD) (L : List Nat) (left : Int) (w : World) (h0 : 0 ≤ left) (h1 : left ≤ 1048576) (h : cAction.rep w cs x L) :
    Calls Tryz.prog 87 #[.agg cs.toArray, .int .i64 left] w (SzPost (costAction x) left w) := by
  obtain ⟨A1, c1, L1, rfl, _hL, t0, n1, m1, s1⟩ := h
  unfold maxLen at m1
  have S1 := Lib.hid s1
  clear s1
  have B0 : Hid (Below w.heap.size w (w.alloc (.cells #[.int .i64 x.kind, .string x.pattern.rel, .slice A1 x.pattern.args.length c1] 115))) := (Below.refl _ _).alloc (Nat.le_refl _) _
  have K0 : Hid (Blk (w.alloc (.cells #[.int .i64 x.kind, .string x.pattern.rel, .slice A1 x.pattern.args.length c1] 115)) w.heap.size 115 #[.int .i64 x.kind, .string x.pattern.rel, .slice A1 x.pattern.args.length c1]) := Blk.new _ _ _
  go_enter Tryz.func87, Tryz.ntmps87
  go_wp2_with fail
  refine (szPattern_any [.string x.pattern.rel, .slice A1 x.pattern.args.length c1] x.pattern _ _ _ (by omega) (by omega) ⟨A1, c1, L1, rfl, rfl, t0, n1, (by unfold maxLen; omega), S1.out.below B0.out⟩).mono ?_
  rintro e w1 ⟨rfl, hb1⟩
  have B1 := Lib.hid (B0.out.trans (hb1.mono B0.out.size))
  have K1 := Lib.hid (K0.out.later hb1)
  have f0 := K1.out.at (i := 0) rfl
  have f1 := K1.out.at (i := 1) rfl
  have f2 := K1.out.at (i := 2) rfl
  clear hb1
  by_cases k1 : ((costPattern x.pattern : Nat) : Int) ≤ left
  rotate_left
  · rw [szR_neg k1]
    go_wp2_with fail
    go_ret
    exact ⟨ret_i (by rw [szR_neg (by simp only [costAction]; omega)]), B1.out⟩
  rw [szR_pos k1]
  go_wp2_with fail
  go_ret
  exact ⟨ret_i (by rw [szR_pos (by simp only [costAction]; omega)] <;> simp only [costAction] <;> omega), B1.out⟩

set_option maxHeartbeats 800000 in
theorem szActionS_any (A : Option Addr) (n c : Nat) (ds : List ActionD) (L : List Nat) (left : Int) (w : World) (hn : n = ds.length) (hm : n ≤ 9223372036854775807) (h0 : 0 ≤ left) (h1 : left ≤ 1048576) (h : Sli cAction w A ds L) :
    Calls Tryz.prog 51 #[.slice A n c, .int .i64 left] w (SzPost (costActionS ds) left w) := by
  have H := Lib.hid h
  have HN := Lib.hid hn
  clear h hn
  by_cases hlen : (n : Int) ≤ left
  · go_enter Tryz.func51, Tryz.ntmps51
    go_wp2
    go_loopw [1, 5] (fun q i wr => ∃ (k : Nat) (l : Int), k ≤ n ∧ i = .int .i64 k ∧ q = .int .i64 l ∧ 0 ≤ l ∧ l ≤ left ∧ Hid (Below w.heap.size w wr) ∧ Hid (szR ((ds.drop k).map costAction).sum l = szR (costActionS ds) left)) (fun _ i _ => n - (intOf i).toNat)
    case atStart => exact ⟨0, left - n, Nat.zero_le _, rfl, rfl, by omega, by omega, Below.refl _ _, Lib.hid (by
        have e := HN.out
        exact szR_step _ _ _ _ (by omega) (by simp only [costActionS, List.drop_zero]; omega))⟩
    case round =>
      obtain ⟨k, l, hk, rfl, rfl, hl0, hl1, HB, HE⟩ := hrel
      by_cases hlt : k < n
      · have hkl : k < ds.length := by have := HN.out; omega
        obtain ⟨b, off, cs, Lk, rfl, hbL, hLk, hrep, hc⟩ := H.out.at_ hkl
        have hbl : b < w.heap.size := H.out.lt b hbL
        have HR := Lib.hid (cAction.keep hrep (keep_below HB.out (fun y m => H.out.lt y (hLk y m))))
        obtain ⟨A1, c1, rfl⟩ := cAction_cells hrep
        have q0 : wr.cell? ⟨b, off + k * 3, none⟩ = _ := (HB.out.cell (p := ⟨b, off + (k * 3 + 0), none⟩) hbl).trans (hc 0 _ rfl)
        have q1 : wr.cell? ⟨b, off + k * 3 + 1, none⟩ = _ := (HB.out.cell (p := ⟨b, off + (k * 3 + 1), none⟩) hbl).trans (hc 1 _ rfl)
        have q2 : wr.cell? ⟨b, off + k * 3 + 2, none⟩ = _ := (HB.out.cell (p := ⟨b, off + (k * 3 + 2), none⟩) hbl).trans (hc 2 _ rfl)
        have hd : Hid (ds.drop k = ds[k] :: ds.drop (k + 1)) := List.drop_eq_getElem_cons _
        generalize ds[k] = x at *
        clear hc hrep
        by_cases hs : (costAction x : Int) ≤ l
        · go_wp2_with (go_at_call 87; refine (szAction_any _ x Lk _ _ (by omega) (by omega) HR.out).mono ?_; rintro e w1 ⟨rfl, hb1⟩; rw [szR_pos hs]; have HB1 := Lib.hid (HB.out.trans (hb1.mono HB.out.size)); clear hb1)
          go_roundw
          case rel => exact ⟨k + 1, l - costAction x, by omega, by go_num, rfl, by omega, by omega, HB1.out, Lib.hid (by rw [← HE.out, hd.out]; exact szR_step _ _ _ _ (by omega) (by simp))⟩
          case measure => simp [intOf]; omega
        · go_wp2_with (go_at_call 87; refine (szAction_any _ x Lk _ _ (by omega) (by omega) HR.out).mono ?_; rintro e w1 ⟨rfl, hb1⟩; rw [szR_neg hs]; have HB1 := Lib.hid (HB.out.trans (hb1.mono HB.out.size)); clear hb1)
          go_ret
          exact ⟨ret_i (by rw [← HE.out, hd.out, szR_neg (by simp; omega)]), HB1.out⟩
      · go_wp2
        go_ret
        exact ⟨ret_i (by rw [← HE.out, List.drop_of_length_le (by have := HN.out; omega)]; simp [szR, hl0]), HB.out⟩
  · go_enter Tryz.func51, Tryz.ntmps51
    go_wp2
    go_ret
    exact ⟨ret_i (by rw [szR_neg (by have := HN.out; simp only [costActionS]; omega)]), Below.refl _ _⟩

set_option maxHeartbeats 800000 in
theorem szRule_any (cs : List Value) (x : RuleD) (L : List Nat) (left : Int) (w : World) (h0 : 0 ≤ left) (h1 : left ≤ 1048576) (h : cRule.rep w cs x L) :
    Calls Tryz.prog 18 #[.agg cs.toArray, .int .i64 left] w (SzPost (costRule x) left w) := by
  obtain ⟨A1, c1, L1, A2, c2, L2, rfl, _hL, t0, n1, m1, s1, n2, m2, s2⟩ := h
  unfold maxLen at m1 m2
  have S1 := Lib.hid s1
  clear s1
  have S2 := Lib.hid s2
  clear s2
  have B0 : Hid (Below w.heap.size w (w.alloc (.cells #[.string x.name, .int .i64 x.priority, .slice A1 x.cond.length c1, .slice A2 x.thn.length c2] 42))) := (Below.refl _ _).alloc (Nat.le_refl _) _
  have K0 : Hid (Blk (w.alloc (.cells #[.string x.name, .int .i64 x.priority, .slice A1 x.cond.length c1, .slice A2 x.thn.length c2] 42)) w.heap.size 42 #[.string x.name, .int .i64 x.priority, .slice A1 x.cond.length c1, .slice A2 x.thn.length c2]) := Blk.new _ _ _
  go_enter Tryz.func18, Tryz.ntmps18
  by_cases k1 : (x.name.size : Int) ≤ left
  rotate_left
  · go_wp2_with fail
    go_ret
    exact ⟨ret_i (by rw [szR_neg (by simp only [costRule]; omega)]), B0.out⟩
  go_wp2_with fail
  refine (szCondS_any A1 _ c1 x.cond L1 _ _ rfl (by omega) (by omega) (by omega) (S1.out.below B0.out)).mono ?_
  rintro e w1 ⟨rfl, hb1⟩
  have B1 := Lib.hid (B0.out.trans (hb1.mono B0.out.size))
  have K1 := Lib.hid (K0.out.later hb1)
  have f0 := K1.out.at (i := 0) rfl
  have f1 := K1.out.at (i := 1) rfl
  have f2 := K1.out.at (i := 2) rfl
  have f3 := K1.out.at (i := 3) rfl
  clear hb1
  by_cases k2 : ((costCondS x.cond : Nat) : Int) ≤ left - x.name.size
  rotate_left
  · rw [szR_neg k2]
    go_wp2_with fail
    go_ret
    exact ⟨ret_i (by rw [szR_neg (by simp only [costRule]; omega)]), B1.out⟩
  rw [szR_pos k2]
  go_wp2_with fail
  refine (szActionS_any A2 _ c2 x.thn L2 _ _ rfl (by omega) (by omega) (by omega) (S2.out.below B1.out)).mono ?_
  rintro e w2 ⟨rfl, hb2⟩
  have B2 := Lib.hid (B1.out.trans (hb2.mono B1.out.size))
  have K2 := Lib.hid (K1.out.later hb2)
  clear f0 f1 f2 f3
  have f0 := K2.out.at (i := 0) rfl
  have f1 := K2.out.at (i := 1) rfl
  have f2 := K2.out.at (i := 2) rfl
  have f3 := K2.out.at (i := 3) rfl
  clear hb2
  by_cases k3 : ((costActionS x.thn : Nat) : Int) ≤ left - x.name.size - (costCondS x.cond : Nat)
  rotate_left
  · rw [szR_neg k3]
    go_wp2_with fail
    go_ret
    exact ⟨ret_i (by rw [szR_neg (by simp only [costRule]; omega)]), B2.out⟩
  rw [szR_pos k3]
  go_wp2_with fail
  go_ret
  exact ⟨ret_i (by rw [szR_pos (by simp only [costRule]; omega)] <;> simp only [costRule] <;> omega), B2.out⟩

set_option maxHeartbeats 800000 in
theorem szRuleS_any (A : Option Addr) (n c : Nat) (ds : List RuleD) (L : List Nat) (left : Int) (w : World) (hn : n = ds.length) (hm : n ≤ 9223372036854775807) (h0 : 0 ≤ left) (h1 : left ≤ 1048576) (h : Sli cRule w A ds L) :
    Calls Tryz.prog 5 #[.slice A n c, .int .i64 left] w (SzPost (costRuleS ds) left w) := by
  have H := Lib.hid h
  have HN := Lib.hid hn
  clear h hn
  by_cases hlen : (n : Int) ≤ left
  · go_enter Tryz.func5, Tryz.ntmps5
    go_wp2
    go_loopw [1, 5] (fun q i wr => ∃ (k : Nat) (l : Int), k ≤ n ∧ i = .int .i64 k ∧ q = .int .i64 l ∧ 0 ≤ l ∧ l ≤ left ∧ Hid (Below w.heap.size w wr) ∧ Hid (szR ((ds.drop k).map costRule).sum l = szR (costRuleS ds) left)) (fun _ i _ => n - (intOf i).toNat)
    case atStart => exact ⟨0, left - n, Nat.zero_le _, rfl, rfl, by omega, by omega, Below.refl _ _, Lib.hid (by
        have e := HN.out
        exact szR_step _ _ _ _ (by omega) (by simp only [costRuleS, List.drop_zero]; omega))⟩
    case round =>
      obtain ⟨k, l, hk, rfl, rfl, hl0, hl1, HB, HE⟩ := hrel
      by_cases hlt : k < n
      · have hkl : k < ds.length := by have := HN.out; omega
        obtain ⟨b, off, cs, Lk, rfl, hbL, hLk, hrep, hc⟩ := H.out.at_ hkl
        have hbl : b < w.heap.size := H.out.lt b hbL
        have HR := Lib.hid (cRule.keep hrep (keep_below HB.out (fun y m => H.out.lt y (hLk y m))))
        obtain ⟨A1, c1, A2, c2, rfl⟩ := cRule_cells hrep
        have q0 : wr.cell? ⟨b, off + k * 4, none⟩ = _ := (HB.out.cell (p := ⟨b, off + (k * 4 + 0), none⟩) hbl).trans (hc 0 _ rfl)
        have q1 : wr.cell? ⟨b, off + k * 4 + 1, none⟩ = _ := (HB.out.cell (p := ⟨b, off + (k * 4 + 1), none⟩) hbl).trans (hc 1 _ rfl)
        have q2 : wr.cell? ⟨b, off + k * 4 + 2, none⟩ = _ := (HB.out.cell (p := ⟨b, off + (k * 4 + 2), none⟩) hbl).trans (hc 2 _ rfl)
        have q3 : wr.cell? ⟨b, off + k * 4 + 3, none⟩ = _ := (HB.out.cell (p := ⟨b, off + (k * 4 + 3), none⟩) hbl).trans (hc 3 _ rfl)
        have hd : Hid (ds.drop k = ds[k] :: ds.drop (k + 1)) := List.drop_eq_getElem_cons _
        generalize ds[k] = x at *
        clear hc hrep
        by_cases hs : (costRule x : Int) ≤ l
        · go_wp2_with (go_at_call 18; refine (szRule_any _ x Lk _ _ (by omega) (by omega) HR.out).mono ?_; rintro e w1 ⟨rfl, hb1⟩; rw [szR_pos hs]; have HB1 := Lib.hid (HB.out.trans (hb1.mono HB.out.size)); clear hb1)
          go_roundw
          case rel => exact ⟨k + 1, l - costRule x, by omega, by go_num, rfl, by omega, by omega, HB1.out, Lib.hid (by rw [← HE.out, hd.out]; exact szR_step _ _ _ _ (by omega) (by simp))⟩
          case measure => simp [intOf]; omega
        · go_wp2_with (go_at_call 18; refine (szRule_any _ x Lk _ _ (by omega) (by omega) HR.out).mono ?_; rintro e w1 ⟨rfl, hb1⟩; rw [szR_neg hs]; have HB1 := Lib.hid (HB.out.trans (hb1.mono HB.out.size)); clear hb1)
          go_ret
          exact ⟨ret_i (by rw [← HE.out, hd.out, szR_neg (by simp; omega)]), HB1.out⟩
      · go_wp2
        go_ret
        exact ⟨ret_i (by rw [← HE.out, List.drop_of_length_le (by have := HN.out; omega)]; simp [szR, hl0]), HB.out⟩
  · go_enter Tryz.func5, Tryz.ntmps5
    go_wp2
    go_ret
    exact ⟨ret_i (by rw [szR_neg (by have := HN.out; simp only [costRuleS]; omega)]), Below.refl _ _⟩

end Go.Proofs.YtlkgkkacnoaeaaaGreatDoor
