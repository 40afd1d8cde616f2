/- The contract of the reference's TrimProof. -/
import Derived.Test.YtfmplnebdldpdaaTrimN
namespace Go.Proofs.Ytfmplnebdldpdaa
open Go.Proofs.Try
set_option linter.unusedSimpArgs false
set_option maxRecDepth 10000
def TrimO (l : List StepD) (k : Nat) (n : List Bool) (i : Nat) (st : St) : Prop := i ≤ k + 1 ∧ st.n = 3 ∧ st.sl 0 = .p false [.c (.sl 54 4 (eStepS l))] ∧ st.sl 1 = .p false [.c (.int .i64 k)] ∧ st.sl 5 = .p false [.row 0] ∧ st.sl 6 = .p false [.row 1] ∧ st.sl 7 = .p false [.row 2] ∧ st.sl 8 = .p false [.c (.int .i64 i)] ∧ st.ob 0 = .row 54 4 (eStepS (trimGo n l i)) true ∧ st.ob 1 = .row 4 1 (eBools n) true ∧ st.ob 2 = .row 3 1 (eInts (ranks n i)) true
def TrimI (l : List StepD) (k : Nat) (n : List Bool) (i : Nat) (s : StepD) (j : Nat) (st : St) : Prop := j ≤ s.uses.length ∧ st.n = 6 ∧ st.sl 0 = .p false [.c (.sl 54 4 (eStepS l))] ∧ st.sl 1 = .p false [.c (.int .i64 k)] ∧ st.sl 5 = .p false [.row 0] ∧ st.sl 6 = .p false [.row 1] ∧ st.sl 7 = .p false [.row 2] ∧ st.sl 8 = .p false [.c (.int .i64 i)] ∧ st.sl 9 = .bp 3 0 ∧ st.sl 10 = .p false [.c (.int .i64 j)] ∧ st.ob 0 = .row 54 4 (eStepS (trimGo n l i)) true ∧ st.ob 1 = .row 4 1 (eBools n) true ∧ st.ob 2 = .row 3 1 (eInts (ranks n (i + 1))) true ∧ st.ob 3 = .box 54 [.c (.str s.fact.rel), .row 4, .c (.str s.rule), .row 5] ∧ st.ob 4 = .row 9 1 (eStrs s.fact.args) true ∧ st.ob 5 = .row 3 1 (eInts ((s.uses.take j).map (reUse n i))) true
theorem take_at {α β : Type} {l : List α} {j : Nat} {x : α} (f : α → β) (h : l[j]? = some x) : (l.take j).map f ++ [f x] = (l.take (j + 1)).map f := by
  rw [List.take_add_one, h]; simp
theorem s_trim (l : List StepD) (k : Int) (hk : -9223372036854775808 ≤ k) (hl : StepsOk l) : Sound Try.prog 14 [(false, [(.sl 54 4 (eStepS l))]), (false, [.int .i64 k])] [(false, [(.sl 54 4 (eStepS (trimOf l k)))])] := by
  obtain ⟨hl, hall⟩ := id hl
  have hl' := hl
  refine fn_sound htt hmix Try.func14 (by kernel_rfl) rfl (by kernel_rfl) (by kernel_rfl) ?_
  have hw : IntKind.i64.wrap ((l.length : Int) - 1) = (l.length : Int) - 1 := wrap_ok (by omega) (by omega)
  simp only [fnS, f14, argSt, tt2, tt3, tt4, tt5, tt9, tt21, tt22, tt25, tt32, tt37, tt47, tt49, tt51, tt52, tt54, tt58, tt72, tt79, tt90, tt92, eStepS_len, hw, go_sem, Nat.reduceAdd, Nat.reduceMul, Nat.reduceEqDiff, Nat.reduceLeDiff, Nat.reduceLT, Nat.reduceBEq, reduceCtorEq, reduceIte]
  refine ⟨_, s_l1In _ _ _, ?_⟩
  by_cases hp : 0 ≤ k ∧ k ≤ (l.length : Int) - 1
  · obtain ⟨k, rfl⟩ := Int.eq_ofNat_of_zero_le hp.1
    simp only [tt2, tt3, tt4, tt5, tt9, tt21, tt22, tt25, tt32, tt37, tt47, tt49, tt51, tt52, tt54, tt58, tt72, tt79, tt90, tt92, hp.2, go_sem, Nat.reduceAdd, Nat.reduceMul, Nat.reduceEqDiff, Nat.reduceLeDiff, Nat.reduceLT, Nat.reduceBEq, reduceCtorEq, reduceIte]
    refine ⟨_, s_needed l k (by assumption) (by omega), ?_⟩
    simp only [tt2, tt3, tt4, tt5, tt9, tt21, tt22, tt25, tt32, tt37, tt47, tt49, tt51, tt52, tt54, tt58, tt72, tt79, tt90, tt92, go_sem, Nat.reduceAdd, Nat.reduceMul, Nat.reduceEqDiff, Nat.reduceLeDiff, Nat.reduceLT, Nat.reduceBEq, reduceCtorEq, reduceIte]
    have hkl : k < l.length := by omega
    have hnl := needOf_len l k
    have hres : trimOf l k = trimGo (needOf l k) l (k + 1) := by rw [trimOf, if_pos (by omega)]; rfl
    rw [hres]
    generalize needOf l k = n at hnl
    refine swp_loop (TrimO l k n) (fun i => k + 1 - i) 0 [] [16, 176, 208] (by simp) ?_ ?_
    · simp only [tt2, tt3, tt4, tt5, tt9, tt21, tt22, tt25, tt32, tt37, tt47, tt49, tt51, tt52, tt54, tt58, tt72, tt79, tt90, tt92, TrimO, trimGo, ranks, go_sem, Nat.reduceAdd, Nat.reduceMul, Nat.reduceEqDiff, Nat.reduceLeDiff, Nat.reduceLT, Nat.reduceBEq, reduceCtorEq, reduceIte]
      exact ⟨rfl, rfl, rfl⟩
    · rintro i ⟨sl, ob, m⟩ ⟨hi, hm, h0, h1, h5, h6, h7, h8, o0, o1, o2⟩
      simp only at hi hm h0 h1 h5 h6 h7 h8 o0 o1 o2
      subst hm
      by_cases hik : i ≤ k
      · have hil : i < l.length := by omega
        have hs0 : l[i]? = some l[i] := List.getElem?_eq_getElem hil
        have hsm := hall _ (List.getElem_mem hil)
        generalize l[i] = s at hs0 hsm
        have hs := eStepS_at hs0
        have hb : n[i]? = some n[i] := List.getElem?_eq_getElem (by omega)
        generalize n[i] = b at hb
        have hb1 := eBools_at hb
        have hol := trimGo_len n l i (by omega) hnl
        have hor := rank_le n i
        have hwi : IntKind.i64.wrap ((i : Int) + 1) = ((i + 1 : Nat) : Int) := wrap_ok (by omega) (by omega)
        have hr1 : i ≤ 1073741823 := by omega
        have hr2 : rank n i ≤ 1073741823 := by omega
        cases b with
        | false =>
          simp only [tt2, tt3, tt4, tt5, tt9, tt21, tt22, tt25, tt32, tt37, tt47, tt49, tt51, tt52, tt54, tt58, tt72, tt79, tt90, tt92, h0, h1, h5, h6, h7, h8, o0, o1, o2, hik, eStepS_len, hol, eInts_snoc1, ranks_snoc, ranks_len, eInts_len, eInts_flat, hr1, hr2, hil, eBools_len, hnl, hb1, hs, eStep, hwi, go_sem, Nat.reduceAdd, Nat.reduceMul, Nat.reduceEqDiff, Nat.reduceLeDiff, Nat.reduceLT, Nat.reduceBEq, reduceCtorEq, reduceIte]
          refine ⟨i + 1, [], [0, 1, 115], by simp, ?_, by show k + 1 - (i + 1) < k + 1 - i; omega⟩
          simp only [tt2, tt3, tt4, tt5, tt9, tt21, tt22, tt25, tt32, tt37, tt47, tt49, tt51, tt52, tt54, tt58, tt72, tt79, tt90, tt92, TrimO, h0, h1, h5, h6, o0, o1, go_sem, Nat.reduceAdd, Nat.reduceMul, Nat.reduceEqDiff, Nat.reduceLeDiff, Nat.reduceLT, Nat.reduceBEq, reduceCtorEq, reduceIte]
          rw [trimGo, hb]
          exact ⟨hik, rfl⟩
        | true =>
          simp only [tt2, tt3, tt4, tt5, tt9, tt21, tt22, tt25, tt32, tt37, tt47, tt49, tt51, tt52, tt54, tt58, tt72, tt79, tt90, tt92, h0, h1, h5, h6, h7, h8, o0, o1, o2, hik, eStepS_len, hol, eInts_snoc1, ranks_snoc, ranks_len, eInts_len, eInts_flat, hr1, hr2, hil, eBools_len, hnl, hb1, hs, eStep, hwi, go_sem, Nat.reduceAdd, Nat.reduceMul, Nat.reduceEqDiff, Nat.reduceLeDiff, Nat.reduceLT, Nat.reduceBEq, reduceCtorEq, reduceIte]
          refine ⟨_, s_l2Copy s.fact hsm.2, ?_⟩
          simp only [tt2, tt3, tt4, tt5, tt9, tt21, tt22, tt25, tt32, tt37, tt47, tt49, tt51, tt52, tt54, tt58, tt72, tt79, tt90, tt92, eFact, h0, h1, h5, h6, h7, h8, o0, o1, o2, eStepS_len, hil, hs, eStep, go_sem, Nat.reduceAdd, Nat.reduceMul, Nat.reduceEqDiff, Nat.reduceLeDiff, Nat.reduceLT, Nat.reduceBEq, reduceCtorEq, reduceIte]
          refine swp_loop (TrimI l k n i s) (fun j => s.uses.length - j) 0 [(true, 419, 3)] [0, 1, 115, 419, 307, 467] (by simp) ?_ ?_
          · simp only [tt2, tt3, tt4, tt5, tt9, tt21, tt22, tt25, tt32, tt37, tt47, tt49, tt51, tt52, tt54, tt58, tt72, tt79, tt90, tt92, TrimI, h0, h1, h5, h6, h8, o0, o1, List.take_zero, List.map_nil, go_sem, Nat.reduceAdd, Nat.reduceMul, Nat.reduceEqDiff, Nat.reduceLeDiff, Nat.reduceLT, Nat.reduceBEq, reduceCtorEq, reduceIte]
            exact ⟨rfl, rfl⟩
          · rintro j ⟨sl, ob, m⟩ ⟨hj, hm, h0, h1, h5, h6, h7, h8, h9, h10, o0, o1, o2, o3, o4, o5⟩
            simp only at hj hm h0 h1 h5 h6 h7 h8 h9 h10 o0 o1 o2 o3 o4 o5
            subst hm
            by_cases hjl : j < s.uses.length
            · have hj0 : s.uses[j]? = some s.uses[j] := List.getElem?_eq_getElem hjl
              generalize s.uses[j] = x at hj0
              have hjx := eInts_at hj0
              have hwj : IntKind.i64.wrap ((j : Int) + 1) = ((j + 1 : Nat) : Int) := wrap_ok (by omega) (by omega)
              have hw1 : IntKind.i64.wrap ((i : Int) - 1) = (i : Int) - 1 := wrap_ok (by omega) (by omega)
              have hj2 : j ≤ 1073741823 := by omega
              have hjt : ((s.uses.take j).map (reUse n i)).length = j := by simp; omega
              simp only [tt2, tt3, tt4, tt5, tt9, tt21, tt22, tt25, tt32, tt37, tt47, tt49, tt51, tt52, tt54, tt58, tt72, tt79, tt90, tt92, h0, h1, h5, h6, h7, h8, h9, h10, o0, o1, o2, o3, o4, o5, hjl, eStepS_len, hil, hs, eStep, eInts_len, hjx, hw1, go_sem, Nat.reduceAdd, Nat.reduceMul, Nat.reduceEqDiff, Nat.reduceLeDiff, Nat.reduceLT, Nat.reduceBEq, reduceCtorEq, reduceIte]
              refine ⟨_, s_l1In _ _ _, ?_⟩
              by_cases hp : 0 ≤ x ∧ x ≤ (i : Int) - 1
              · obtain ⟨u, rfl⟩ := Int.eq_ofNat_of_zero_le hp.1
                have hu : u < i + 1 := by omega
                have hru := eInts_at (ranks_at (n := n) hu)
                have hre : reUse n i (u : Int) = rank n u := by rw [reUse, if_pos (by omega)]; rfl
                simp only [tt2, tt3, tt4, tt5, tt9, tt21, tt22, tt25, tt32, tt37, tt47, tt49, tt51, tt52, tt54, tt58, tt72, tt79, tt90, tt92, h0, h1, h5, h6, h7, h8, h9, h10, o0, o1, o2, o3, o4, o5, hp.2, eInts_len, ranks_len, hu, hru, eInts_snoc1, hwj, hjt, hj2, go_sem, Nat.reduceAdd, Nat.reduceMul, Nat.reduceEqDiff, Nat.reduceLeDiff, Nat.reduceLT, Nat.reduceBEq, reduceCtorEq, reduceIte]
                refine ⟨j + 1, [], [0, 1, 2, 3, 4, 486], by simp, ?_, by show s.uses.length - (j + 1) < s.uses.length - j; omega⟩
                simp only [tt2, tt3, tt4, tt5, tt9, tt21, tt22, tt25, tt32, tt37, tt47, tt49, tt51, tt52, tt54, tt58, tt72, tt79, tt90, tt92, TrimI, h0, h1, h5, h6, h7, h8, h9, o0, o1, o2, o3, o4, go_sem, Nat.reduceAdd, Nat.reduceMul, Nat.reduceEqDiff, Nat.reduceLeDiff, Nat.reduceLT, Nat.reduceBEq, reduceCtorEq, reduceIte]
                exact ⟨by omega, by rw [← hre, take_at _ hj0]⟩
              · have hre : reUse n i x = x := by rw [reUse, if_neg (by omega)]
                simp only [tt2, tt3, tt4, tt5, tt9, tt21, tt22, tt25, tt32, tt37, tt47, tt49, tt51, tt52, tt54, tt58, tt72, tt79, tt90, tt92, h0, h1, h5, h6, h7, h8, h9, h10, o0, o1, o2, o3, o4, o5, hp, eInts_len, eInts_snoc1, hwj, hjt, hj2, go_sem, Nat.reduceAdd, Nat.reduceMul, Nat.reduceEqDiff, Nat.reduceLeDiff, Nat.reduceLT, Nat.reduceBEq, reduceCtorEq, reduceIte]
                refine ⟨j + 1, [], [0, 1, 2, 3, 4, 406], by simp, ?_, by show s.uses.length - (j + 1) < s.uses.length - j; omega⟩
                simp only [tt2, tt3, tt4, tt5, tt9, tt21, tt22, tt25, tt32, tt37, tt47, tt49, tt51, tt52, tt54, tt58, tt72, tt79, tt90, tt92, TrimI, h0, h1, h5, h6, h7, h8, h9, o0, o1, o2, o3, o4, go_sem, Nat.reduceAdd, Nat.reduceMul, Nat.reduceEqDiff, Nat.reduceLeDiff, Nat.reduceLT, Nat.reduceBEq, reduceCtorEq, reduceIte]
                exact ⟨by omega, by rw [← take_at _ hj0, hre]⟩
            · simp only [tt2, tt3, tt4, tt5, tt9, tt21, tt22, tt25, tt32, tt37, tt47, tt49, tt51, tt52, tt54, tt58, tt72, tt79, tt90, tt92, h0, h1, h5, h6, h7, h8, h9, h10, o0, o1, o2, o3, o4, o5, hjl, eStepS_len, hil, hs, eStep, eInts_len, hol, hr2, hwi, go_sem, Nat.reduceAdd, Nat.reduceMul, Nat.reduceEqDiff, Nat.reduceLeDiff, Nat.reduceLT, Nat.reduceBEq, reduceCtorEq, reduceIte]
              refine ⟨i + 1, [], [182, 1, 2], by simp, ?_, by show k + 1 - (i + 1) < k + 1 - i; omega⟩
              simp only [tt2, tt3, tt4, tt5, tt9, tt21, tt22, tt25, tt32, tt37, tt47, tt49, tt51, tt52, tt54, tt58, tt72, tt79, tt90, tt92, TrimO, h0, h1, h6, h7, o1, o2, go_sem, Nat.reduceAdd, Nat.reduceMul, Nat.reduceEqDiff, Nat.reduceLeDiff, Nat.reduceLT, Nat.reduceBEq, reduceCtorEq, reduceIte]
              rw [trimGo, hb, hs0, show s.uses.take j = s.uses from List.take_of_length_le (by omega)]
              exact ⟨by omega, congrArg (Ob.row _ _ · _) (eStepS_snoc1 (trimGo n l i) (reStep n i s))⟩
      · simp only [tt2, tt3, tt4, tt5, tt9, tt21, tt22, tt25, tt32, tt37, tt47, tt49, tt51, tt52, tt54, tt58, tt72, tt79, tt90, tt92, h0, h1, h5, h6, h7, h8, o0, o1, o2, hik, go_sem, Nat.reduceAdd, Nat.reduceMul, Nat.reduceEqDiff, Nat.reduceLeDiff, Nat.reduceLT, Nat.reduceBEq, reduceCtorEq, reduceIte]
        rw [show i = k + 1 by omega]
  · simp only [tt2, tt3, tt4, tt5, tt9, tt21, tt22, tt25, tt32, tt37, tt47, tt49, tt51, tt52, tt54, tt58, tt72, tt79, tt90, tt92, hp, go_sem, Nat.reduceAdd, Nat.reduceMul, Nat.reduceEqDiff, Nat.reduceLeDiff, Nat.reduceLT, Nat.reduceBEq, reduceCtorEq, reduceIte]
    rw [trimOf, if_neg (by omega)]; rfl
end Go.Proofs.Ytfmplnebdldpdaa
