/- The contract of the program's TrimProof. -/
import Derived.Test.YtfmplnebdldpdaaTrimS
namespace Go.Proofs.Ytfmplnebdldpdaa
open Go.Proofs.Try
set_option linter.unusedSimpArgs false
set_option maxRecDepth 10000
set_option maxHeartbeats 4000000
def KeepO (l : List StepD) (k : Nat) (p : Nat × List Bool) (st : St) : Prop := p.1 ≤ k + 1 ∧ p.2.length = l.length ∧ needTo l p.1 p.2 = needOf l k ∧ st.n = 1 ∧ st.sl 6 = .p false [.c (.int .i64 ((p.1 : Int) - 1))] ∧ st.sl 0 = .p false [.c (.sl 54 4 (eStepS l))] ∧ st.sl 5 = .p false [.row 0] ∧ st.ob 0 = .row 4 1 (eBools p.2) true
def KeepI (l : List StepD) (c : Nat) (us : List Int) (b : Bool) (n0 : List Bool) (p : Nat × List Bool) (st : St) : Prop := p.1 ≤ us.length ∧ p.2.length = l.length ∧ p.2[c]? = some b ∧ (if b then markUses c (us.drop p.1) p.2 = markUses c us n0 else p.2 = n0) ∧ st.n = 1 ∧ st.sl 41 = .p false [.c (.int .i64 (p.1 : Nat))] ∧ st.sl 40 = .p false [.c (.int .i64 us.length)] ∧ st.sl 39 = .p false [.c (.sl 3 1 (eInts us))] ∧ st.sl 6 = .p false [.c (.int .i64 (c : Nat))] ∧ st.sl 0 = .p false [.c (.sl 54 4 (eStepS l))] ∧ st.sl 5 = .p false [.row 0] ∧ st.ob 0 = .row 4 1 (eBools p.2) true
def ToOk (n : List Bool) (i : Nat) (to : List Int) : Prop := ∀ u, u < i → n[u]? = some true → to[u]? = some (rank n u : Int)
def TrO (l : List StepD) (n : List Bool) (p : Nat × List Int) (st : St) : Prop := p.1 ≤ l.length ∧ p.2.length = l.length ∧ ToOk n p.1 p.2 ∧ st.n = 3 ∧ st.sl 5 = .p false [.row 0] ∧ st.sl 9 = .p false [.row 1] ∧ st.sl 10 = .p false [.row 2] ∧ st.sl 65 = .p false [.c (.sl 54 4 (eStepS l))] ∧ st.sl 66 = .p false [.c (.int .i64 l.length)] ∧ st.sl 67 = .p false [.c (.int .i64 (p.1 : Nat))] ∧ st.ob 0 = .row 4 1 (eBools n) true ∧ st.ob 1 = .row 3 1 (eInts p.2) true ∧ st.ob 2 = .row 54 4 (eStepS (trimGo n l p.1)) true
def TrI (l : List StepD) (n : List Bool) (i : Nat) (s : StepD) (to : List Int) (j : Nat) (st : St) : Prop := j ≤ s.uses.length ∧ st.n = 6 ∧ st.sl 5 = .p false [.row 0] ∧ st.sl 9 = .p false [.row 1] ∧ st.sl 10 = .p false [.row 2] ∧ st.sl 65 = .p false [.c (.sl 54 4 (eStepS l))] ∧ st.sl 66 = .p false [.c (.int .i64 l.length)] ∧ st.sl 67 = .p false [.c (.int .i64 i)] ∧ st.sl 11 = .p false [.c (.int .i64 i)] ∧ st.sl 13 = .bp 3 0 ∧ st.sl 89 = .p false [.c (.sl 3 1 (eInts s.uses))] ∧ st.sl 90 = .p false [.c (.int .i64 s.uses.length)] ∧ st.sl 91 = .p false [.c (.int .i64 j)] ∧ st.ob 0 = .row 4 1 (eBools n) true ∧ st.ob 1 = .row 3 1 (eInts to) true ∧ st.ob 2 = .row 54 4 (eStepS (trimGo n l i)) true ∧ st.ob 3 = .box 54 [.c (.str s.fact.rel), .row 4, .c (.str s.rule), .row 5] ∧ st.ob 4 = .row 9 1 (eStrs s.fact.args) true ∧ st.ob 5 = .row 3 1 (eInts ((s.uses.take j).map (reUse n i))) true
theorem i_trim (l : List StepD) (k : Int) (hl : StepsOk l) : Sound Try.prog 15 [(false, [(.sl 54 4 (eStepS l))]), (false, [.int .i64 k])] [(false, [(.sl 54 4 (eStepS (trimOf l k)))])] := by
  obtain ⟨hl, hall⟩ := id hl
  refine fn_sound htt hmix Try.func15 (by kernel_rfl) rfl (by kernel_rfl) (by kernel_rfl) ?_
  by_cases hk0 : k < 0
  · simp only [fnS, f15, argSt, tt2, tt3, tt4, tt5, tt9, tt21, tt22, tt25, tt32, tt37, tt47, tt49, tt51, tt52, tt54, tt58, tt72, tt79, tt90, tt92, hk0, go_sem, Nat.reduceAdd, Nat.reduceMul, Nat.reduceEqDiff, Nat.reduceLeDiff, Nat.reduceLT, Nat.reduceBEq, reduceCtorEq, reduceIte]
    rw [trimOf, if_neg (by omega)]; rfl
  obtain ⟨k, rfl⟩ := Int.eq_ofNat_of_zero_le (show 0 ≤ k by omega)
  by_cases hk : k < l.length
  · have hk1 : ¬ l.length ≤ k := by omega
    have hx : (eBools (List.replicate l.length false))[k]? = some [.bool false] := eBools_at (by rw [List.getElem?_replicate, if_pos hk])
    simp only [fnS, f15, argSt, tt2, tt3, tt4, tt5, tt9, tt21, tt22, tt25, tt32, tt37, tt47, tt49, tt51, tt52, tt54, tt58, tt72, tt79, tt90, tt92, hk0, hk1, hk, hl, hx, eStepS_len, eBools_rep, eBools_len, eBools_set, List.length_replicate, go_sem, Nat.reduceAdd, Nat.reduceMul, Nat.reduceEqDiff, Nat.reduceLeDiff, Nat.reduceLT, Nat.reduceBEq, reduceCtorEq, reduceIte]
    refine swp_loop (KeepO l k) (fun p => p.1) (k + 1, need0 l k) [] [176] (by simp) ?_ ?_
    · simp only [tt2, tt3, tt4, tt5, tt9, tt21, tt22, tt25, tt32, tt37, tt47, tt49, tt51, tt52, tt54, tt58, tt72, tt79, tt90, tt92, KeepO, go_sem, Nat.reduceAdd, Nat.reduceMul, Nat.reduceEqDiff, Nat.reduceLeDiff, Nat.reduceLT, Nat.reduceBEq, reduceCtorEq, reduceIte]
      exact ⟨by simp [need0], rfl, by simp, rfl⟩
    · rintro ⟨c, n⟩ ⟨sl, ob, m⟩ ⟨hc, hn, hg, hm, h6, h0, h5, ho⟩
      simp only at hc hn hg hm h6 h0 h5 ho
      subst hm
      rcases c with _ | c
      · have h6' : sl 6 = .p false [.c (.int .i64 (-1))] := h6
        have hz : ¬ ((0 : Int) ≤ -1) := by decide
        simp only [tt2, tt3, tt4, tt5, tt9, tt21, tt22, tt25, tt32, tt37, tt47, tt49, tt51, tt52, tt54, tt58, tt72, tt79, tt90, tt92, h6', h0, h5, ho, hz, hl, eStepS_len, eInts_rep, go_sem, Nat.reduceAdd, Nat.reduceMul, Nat.reduceEqDiff, Nat.reduceLeDiff, Nat.reduceLT, Nat.reduceBEq, reduceCtorEq, reduceIte]
        have hres : trimOf l k = trimGo n l l.length := by
          rw [trimOf, if_pos (by omega)]
          have hg' : n = needOf l k := hg
          rw [hg', trimGo_beyond l k _ (by omega)]; rfl
        have hcl : ∀ (i : Nat) (u : Int), n[i]? = some true → u ∈ usesAt l i → 0 ≤ u → u < i → n[u.toNat]? = some true := by
          have hg' : n = needOf l k := hg
          rw [hg']; exact fun i u h1 h2 h3 h4 => needOf_closed l k i u hk h1 h2 h3 h4
        rw [hres]
        refine swp_loop (TrO l n) (fun p => l.length - p.1) (0, List.replicate l.length 0) [(false, 10, 0)] [0, 65, 161] (by simp) ?_ ?_
        · simp only [tt2, tt3, tt4, tt5, tt9, tt21, tt22, tt25, tt32, tt37, tt47, tt49, tt51, tt52, tt54, tt58, tt72, tt79, tt90, tt92, TrO, h5, ho, trimGo, List.length_replicate, go_sem, Nat.reduceAdd, Nat.reduceMul, Nat.reduceEqDiff, Nat.reduceLeDiff, Nat.reduceLT, Nat.reduceBEq, reduceCtorEq, reduceIte]
          exact ⟨fun u hu => by omega, rfl, rfl⟩
        · rintro ⟨i, to⟩ ⟨sl, ob, m⟩ ⟨hi, htl, hto, hm, h5, h9, h10, h65, h66, h67, o0, o1, o2⟩
          simp only at hi htl hto hm h5 h9 h10 h65 h66 h67 o0 o1 o2
          subst hm
          by_cases hil : i < l.length
          · have hs0 : l[i]? = some l[i] := List.getElem?_eq_getElem hil
            have hsm := hall _ (List.getElem_mem hil)
            generalize l[i] = s at hs0 hsm
            have hs := eStepS_at hs0
            have hb : n[i]? = some n[i] := List.getElem?_eq_getElem (by omega)
            generalize n[i] = b at hb
            have hb1 := eBools_at hb
            have hol := trimGo_len n l i (by omega) hn
            have hor := rank_le n i
            have hwi : IntKind.i64.wrap ((i : Int) + 1) = ((i + 1 : Nat) : Int) := wrap_ok (by omega) (by omega)
            have hr2 : rank n i ≤ 1073741823 := by omega
            have hti := eInts_at (List.getElem?_eq_getElem (show i < to.length by omega))
            cases b with
            | false =>
              simp only [tt2, tt3, tt4, tt5, tt9, tt21, tt22, tt25, tt32, tt37, tt47, tt49, tt51, tt52, tt54, tt58, tt72, tt79, tt90, tt92, h5, h9, h10, h65, h66, h67, o0, o1, o2, hil, eStepS_len, hs, eStep, eBools_len, hn, hb1, hwi, go_sem, Nat.reduceAdd, Nat.reduceMul, Nat.reduceEqDiff, Nat.reduceLeDiff, Nat.reduceLT, Nat.reduceBEq, reduceCtorEq, reduceIte]
              refine ⟨(i + 1, to), [], [0, 1, 2], by simp, ?_, by show l.length - (i + 1) < l.length - i; omega⟩
              simp only [tt2, tt3, tt4, tt5, tt9, tt21, tt22, tt25, tt32, tt37, tt47, tt49, tt51, tt52, tt54, tt58, tt72, tt79, tt90, tt92, TrO, h5, h9, h10, h65, h66, o0, o1, o2, htl, go_sem, Nat.reduceAdd, Nat.reduceMul, Nat.reduceEqDiff, Nat.reduceLeDiff, Nat.reduceLT, Nat.reduceBEq, reduceCtorEq, reduceIte]
              refine ⟨by omega, fun u hu h => ?_, by rw [trimGo, hb]; rfl⟩
              rcases Nat.lt_or_ge u i with h1 | h1
              · exact hto u h1 h
              · rw [show u = i by omega, hb] at h; simp at h
            | true =>
              simp only [tt2, tt3, tt4, tt5, tt9, tt21, tt22, tt25, tt32, tt37, tt47, tt49, tt51, tt52, tt54, tt58, tt72, tt79, tt90, tt92, h5, h9, h10, h65, h66, h67, o0, o1, o2, hil, eStepS_len, hs, eStep, eBools_len, hn, hb1, eInts_len, htl, hti, eInts_set, hol, go_sem, Nat.reduceAdd, Nat.reduceMul, Nat.reduceEqDiff, Nat.reduceLeDiff, Nat.reduceLT, Nat.reduceBEq, reduceCtorEq, reduceIte]
              refine ⟨_, i_copyFact s.fact hsm.2, ?_⟩
              simp only [tt2, tt3, tt4, tt5, tt9, tt21, tt22, tt25, tt32, tt37, tt47, tt49, tt51, tt52, tt54, tt58, tt72, tt79, tt90, tt92, eFact, h5, h9, h10, h65, h66, h67, o0, o1, o2, eInts_len, go_sem, Nat.reduceAdd, Nat.reduceMul, Nat.reduceEqDiff, Nat.reduceLeDiff, Nat.reduceLT, Nat.reduceBEq, reduceCtorEq, reduceIte]
              refine swp_loop (TrI l n i s (to.set i (rank n i : Int))) (fun j => s.uses.length - j) 0 [(true, 387, 3)] [0, 1, 2, 387, 323, 483] (by simp) ?_ ?_
              · simp only [tt2, tt3, tt4, tt5, tt9, tt21, tt22, tt25, tt32, tt37, tt47, tt49, tt51, tt52, tt54, tt58, tt72, tt79, tt90, tt92, TrI, h5, h9, h10, h65, h66, h67, o0, o1, o2, List.take_zero, List.map_nil, go_sem, Nat.reduceAdd, Nat.reduceMul, Nat.reduceEqDiff, Nat.reduceLeDiff, Nat.reduceLT, Nat.reduceBEq, reduceCtorEq, reduceIte]
                exact ⟨rfl, rfl⟩
              · rintro j ⟨sl, ob, m⟩ ⟨hj, hm, h5, h9, h10, h65, h66, h67, h11, h13, h89, h90, h91, o0, o1, o2, o3, o4, o5⟩
                simp only at hj hm h5 h9 h10 h65 h66 h67 h11 h13 h89 h90 h91 o0 o1 o2 o3 o4 o5
                subst hm
                by_cases hjl : j < s.uses.length
                · have hj0 : s.uses[j]? = some s.uses[j] := List.getElem?_eq_getElem hjl
                  generalize s.uses[j] = x at hj0
                  have hjx := eInts_at hj0
                  have hwj : IntKind.i64.wrap ((j : Int) + 1) = ((j + 1 : Nat) : Int) := wrap_ok (by omega) (by omega)
                  have hj2 : j ≤ 1073741823 := by omega
                  have hjt : ((s.uses.take j).map (reUse n i)).length = j := by simp; omega
                  by_cases hx0 : 0 ≤ x
                  · obtain ⟨u, rfl⟩ := Int.eq_ofNat_of_zero_le hx0
                    by_cases hui : u < i
                    · have hul : u < l.length := by omega
                      have hnu : n[u]? = some true := hcl i u hb (by rw [usesAt_eq hs0]; exact List.mem_of_getElem? hj0) hx0 (by omega)
                      have htu : (to.set i (rank n i : Int))[u]? = some (rank n u : Int) := by rw [List.getElem?_set_ne (by omega)]; exact hto u hui hnu
                      have hru := eInts_at htu
                      have hre : reUse n i (u : Int) = rank n u := by rw [reUse, if_pos (by omega)]; rfl
                      simp only [tt2, tt3, tt4, tt5, tt9, tt21, tt22, tt25, tt32, tt37, tt47, tt49, tt51, tt52, tt54, tt58, tt72, tt79, tt90, tt92, h5, h9, h10, h65, h66, h67, h11, h13, h89, h90, h91, o0, o1, o2, o3, o4, o5, hjl, eInts_len, hjx, hui, List.length_set, htl, hul, hru, eInts_snoc1, hwj, hjt, hj2, go_sem, Nat.reduceAdd, Nat.reduceMul, Nat.reduceEqDiff, Nat.reduceLeDiff, Nat.reduceLT, Nat.reduceBEq, reduceCtorEq, reduceIte]
                      refine ⟨j + 1, [], [0, 1, 2, 3, 4, 326], by simp, ?_, by show s.uses.length - (j + 1) < s.uses.length - j; omega⟩
                      simp only [tt2, tt3, tt4, tt5, tt9, tt21, tt22, tt25, tt32, tt37, tt47, tt49, tt51, tt52, tt54, tt58, tt72, tt79, tt90, tt92, TrI, h5, h9, h10, h65, h66, h67, h11, h13, h89, h90, o0, o1, o2, o3, o4, go_sem, Nat.reduceAdd, Nat.reduceMul, Nat.reduceEqDiff, Nat.reduceLeDiff, Nat.reduceLT, Nat.reduceBEq, reduceCtorEq, reduceIte]
                      exact ⟨by omega, by rw [← hre, take_at _ hj0]⟩
                    · have hre : reUse n i (u : Int) = u := by rw [reUse, if_neg (by omega)]
                      simp only [tt2, tt3, tt4, tt5, tt9, tt21, tt22, tt25, tt32, tt37, tt47, tt49, tt51, tt52, tt54, tt58, tt72, tt79, tt90, tt92, h5, h9, h10, h65, h66, h67, h11, h13, h89, h90, h91, o0, o1, o2, o3, o4, o5, hjl, eInts_len, hjx, hui, eInts_snoc1, hwj, hjt, hj2, go_sem, Nat.reduceAdd, Nat.reduceMul, Nat.reduceEqDiff, Nat.reduceLeDiff, Nat.reduceLT, Nat.reduceBEq, reduceCtorEq, reduceIte]
                      refine ⟨j + 1, [], [0, 1, 2, 3, 4, 246], by simp, ?_, by show s.uses.length - (j + 1) < s.uses.length - j; omega⟩
                      simp only [tt2, tt3, tt4, tt5, tt9, tt21, tt22, tt25, tt32, tt37, tt47, tt49, tt51, tt52, tt54, tt58, tt72, tt79, tt90, tt92, TrI, h5, h9, h10, h65, h66, h67, h11, h13, h89, h90, o0, o1, o2, o3, o4, go_sem, Nat.reduceAdd, Nat.reduceMul, Nat.reduceEqDiff, Nat.reduceLeDiff, Nat.reduceLT, Nat.reduceBEq, reduceCtorEq, reduceIte]
                      exact ⟨by omega, by rw [← take_at _ hj0, hre]⟩
                  · have hre : reUse n i x = x := by rw [reUse, if_neg (by omega)]
                    simp only [tt2, tt3, tt4, tt5, tt9, tt21, tt22, tt25, tt32, tt37, tt47, tt49, tt51, tt52, tt54, tt58, tt72, tt79, tt90, tt92, h5, h9, h10, h65, h66, h67, h11, h13, h89, h90, h91, o0, o1, o2, o3, o4, o5, hjl, eInts_len, hjx, hx0, eInts_snoc1, hwj, hjt, hj2, go_sem, Nat.reduceAdd, Nat.reduceMul, Nat.reduceEqDiff, Nat.reduceLeDiff, Nat.reduceLT, Nat.reduceBEq, reduceCtorEq, reduceIte]
                    refine ⟨j + 1, [], [0, 1, 2, 3, 4, 246], by simp, ?_, by show s.uses.length - (j + 1) < s.uses.length - j; omega⟩
                    simp only [tt2, tt3, tt4, tt5, tt9, tt21, tt22, tt25, tt32, tt37, tt47, tt49, tt51, tt52, tt54, tt58, tt72, tt79, tt90, tt92, TrI, h5, h9, h10, h65, h66, h67, h11, h13, h89, h90, o0, o1, o2, o3, o4, go_sem, Nat.reduceAdd, Nat.reduceMul, Nat.reduceEqDiff, Nat.reduceLeDiff, Nat.reduceLT, Nat.reduceBEq, reduceCtorEq, reduceIte]
                    exact ⟨by omega, by rw [← take_at _ hj0, hre]⟩
                · simp only [tt2, tt3, tt4, tt5, tt9, tt21, tt22, tt25, tt32, tt37, tt47, tt49, tt51, tt52, tt54, tt58, tt72, tt79, tt90, tt92, h5, h9, h10, h65, h66, h67, h11, h13, h89, h90, h91, o0, o1, o2, o3, o4, o5, hjl, eStepS_len, hol, hr2, hwi, go_sem, Nat.reduceAdd, Nat.reduceMul, Nat.reduceEqDiff, Nat.reduceLeDiff, Nat.reduceLT, Nat.reduceBEq, reduceCtorEq, reduceIte]
                  refine ⟨(i + 1, to.set i (rank n i : Int)), [], [0, 1, 70], by simp, ?_, by show l.length - (i + 1) < l.length - i; omega⟩
                  simp only [tt2, tt3, tt4, tt5, tt9, tt21, tt22, tt25, tt32, tt37, tt47, tt49, tt51, tt52, tt54, tt58, tt72, tt79, tt90, tt92, TrO, h5, h9, h65, h66, o0, o1, List.length_set, htl, go_sem, Nat.reduceAdd, Nat.reduceMul, Nat.reduceEqDiff, Nat.reduceLeDiff, Nat.reduceLT, Nat.reduceBEq, reduceCtorEq, reduceIte]
                  refine ⟨by omega, fun u hu h => ?_, ?_⟩
                  · rcases Nat.lt_or_ge u i with h1 | h1
                    · rw [List.getElem?_set_ne (by omega)]; exact hto u h1 h
                    · rw [show u = i by omega, List.getElem?_set_self (by omega)]
                  · rw [trimGo, hb, hs0, show s.uses.take j = s.uses from List.take_of_length_le (by omega)]
                    exact congrArg (Ob.row _ _ · _) (eStepS_snoc1 (trimGo n l i) (reStep n i s))
          · simp only [tt2, tt3, tt4, tt5, tt9, tt21, tt22, tt25, tt32, tt37, tt47, tt49, tt51, tt52, tt54, tt58, tt72, tt79, tt90, tt92, h5, h9, h10, h65, h66, h67, o0, o1, o2, hil, go_sem, Nat.reduceAdd, Nat.reduceMul, Nat.reduceEqDiff, Nat.reduceLeDiff, Nat.reduceLT, Nat.reduceBEq, reduceCtorEq, reduceIte]
            rw [show i = l.length by omega]
      · have h6' : sl 6 = .p false [.c (.int .i64 (c : Nat))] := by rw [h6]; congr 4; omega
        have hcl : c < l.length := by omega
        have hs0 : l[c]? = some l[c] := List.getElem?_eq_getElem hcl
        have hsm := hall _ (List.getElem_mem hcl)
        generalize l[c] = s at hs0 hsm
        have hs := eStepS_at hs0
        have hw : IntKind.i64.wrap ((c : Int) - 1) = (c : Int) - 1 := wrap_ok (by omega) (by omega)
        have hb : n[c]? = some n[c] := List.getElem?_eq_getElem (by omega)
        generalize n[c] = b at hb
        simp only [tt2, tt3, tt4, tt5, tt9, tt21, tt22, tt25, tt32, tt37, tt47, tt49, tt51, tt52, tt54, tt58, tt72, tt79, tt90, tt92, h6', h0, h5, ho, eStepS_len, hcl, hs, eStep, eInts_len, go_sem, Nat.reduceAdd, Nat.reduceMul, Nat.reduceEqDiff, Nat.reduceLeDiff, Nat.reduceLT, Nat.reduceBEq, reduceCtorEq, reduceIte]
        refine swp_loop (KeepI l c s.uses b n) (fun p => s.uses.length - p.1) (0, n) [] [0] (by simp) ?_ ?_
        · simp only [tt2, tt3, tt4, tt5, tt9, tt21, tt22, tt25, tt32, tt37, tt47, tt49, tt51, tt52, tt54, tt58, tt72, tt79, tt90, tt92, KeepI, hn, hb, h6', h0, h5, ho, go_sem, Nat.reduceAdd, Nat.reduceMul, Nat.reduceEqDiff, Nat.reduceLeDiff, Nat.reduceLT, Nat.reduceBEq, reduceCtorEq, reduceIte]
          cases b <;> simp
        · rintro ⟨j, n1⟩ ⟨sl, ob, m⟩ ⟨hj, hn1, hb1, hg1, hm, h41, h40, h39, h6, h0, h5, ho⟩
          simp only at hj hn1 hb1 hg1 hm h41 h40 h39 h6 h0 h5 ho
          subst hm
          have hb2 := eBools_at hb1
          have hfin : ∀ n', (if b then n' = markUses c s.uses n else n' = n) → needTo l c n' = needOf l k := fun n' h => by
            rw [← hg, needTo, hb, usesAt_eq hs0]
            cases b <;> simp_all
          by_cases hjl : j < s.uses.length
          · have hj0 : s.uses[j]? = some s.uses[j] := List.getElem?_eq_getElem hjl
            generalize s.uses[j] = x at hj0
            have hjx := eInts_at hj0
            have hwj : IntKind.i64.wrap ((j : Int) + 1) = ((j + 1 : Nat) : Int) := wrap_ok (by omega) (by omega)
            cases b with
            | false =>
              simp only [tt2, tt3, tt4, tt5, tt9, tt21, tt22, tt25, tt32, tt37, tt47, tt49, tt51, tt52, tt54, tt58, tt72, tt79, tt90, tt92, h41, h40, h39, h6, h0, h5, ho, hjl, eInts_len, hjx, eBools_len, hn1, hcl, hb2, hwj, go_sem, Nat.reduceAdd, Nat.reduceMul, Nat.reduceEqDiff, Nat.reduceLeDiff, Nat.reduceLT, Nat.reduceBEq, reduceCtorEq, reduceIte]
              refine ⟨(j + 1, n1), [], [0], by simp, ?_, by show s.uses.length - (j + 1) < s.uses.length - j; omega⟩
              simp only [tt2, tt3, tt4, tt5, tt9, tt21, tt22, tt25, tt32, tt37, tt47, tt49, tt51, tt52, tt54, tt58, tt72, tt79, tt90, tt92, KeepI, h40, h39, h6, h0, h5, ho, hn1, go_sem, Nat.reduceAdd, Nat.reduceMul, Nat.reduceEqDiff, Nat.reduceLeDiff, Nat.reduceLT, Nat.reduceBEq, reduceCtorEq, reduceIte]
              exact ⟨by omega, hb1, hg1⟩
            | true =>
              simp only [if_true] at hg1
              rw [drop_at hj0, markUses] at hg1
              by_cases hx0 : 0 ≤ x
              · obtain ⟨u, rfl⟩ := Int.eq_ofNat_of_zero_le hx0
                by_cases huc : u < c
                · have hul : u < l.length := by omega
                  have hnu := eBools_at (List.getElem?_eq_getElem (show u < n1.length by omega))
                  simp only [tt2, tt3, tt4, tt5, tt9, tt21, tt22, tt25, tt32, tt37, tt47, tt49, tt51, tt52, tt54, tt58, tt72, tt79, tt90, tt92, h41, h40, h39, h6, h0, h5, ho, hjl, eInts_len, hjx, eBools_len, hn1, hcl, hb2, hwj, huc, hul, hnu, eBools_set, go_sem, Nat.reduceAdd, Nat.reduceMul, Nat.reduceEqDiff, Nat.reduceLeDiff, Nat.reduceLT, Nat.reduceBEq, reduceCtorEq, reduceIte]
                  refine ⟨(j + 1, n1.set u true), [], [0], by simp, ?_, by show s.uses.length - (j + 1) < s.uses.length - j; omega⟩
                  simp only [tt2, tt3, tt4, tt5, tt9, tt21, tt22, tt25, tt32, tt37, tt47, tt49, tt51, tt52, tt54, tt58, tt72, tt79, tt90, tt92, KeepI, h40, h39, h6, h0, h5, ho, hn1, List.length_set, go_sem, Nat.reduceAdd, Nat.reduceMul, Nat.reduceEqDiff, Nat.reduceLeDiff, Nat.reduceLT, Nat.reduceBEq, reduceCtorEq, reduceIte]
                  rw [if_pos (by omega)] at hg1
                  exact ⟨by omega, by rw [List.getElem?_set_ne (by omega)]; exact hb1, by simpa using hg1⟩
                · simp only [tt2, tt3, tt4, tt5, tt9, tt21, tt22, tt25, tt32, tt37, tt47, tt49, tt51, tt52, tt54, tt58, tt72, tt79, tt90, tt92, h41, h40, h39, h6, h0, h5, ho, hjl, eInts_len, hjx, eBools_len, hn1, hcl, hb2, hwj, huc, go_sem, Nat.reduceAdd, Nat.reduceMul, Nat.reduceEqDiff, Nat.reduceLeDiff, Nat.reduceLT, Nat.reduceBEq, reduceCtorEq, reduceIte]
                  refine ⟨(j + 1, n1), [], [0], by simp, ?_, by show s.uses.length - (j + 1) < s.uses.length - j; omega⟩
                  simp only [tt2, tt3, tt4, tt5, tt9, tt21, tt22, tt25, tt32, tt37, tt47, tt49, tt51, tt52, tt54, tt58, tt72, tt79, tt90, tt92, KeepI, h40, h39, h6, h0, h5, ho, hn1, go_sem, Nat.reduceAdd, Nat.reduceMul, Nat.reduceEqDiff, Nat.reduceLeDiff, Nat.reduceLT, Nat.reduceBEq, reduceCtorEq, reduceIte]
                  rw [if_neg (by omega)] at hg1
                  exact ⟨by omega, hb1, hg1⟩
              · simp only [tt2, tt3, tt4, tt5, tt9, tt21, tt22, tt25, tt32, tt37, tt47, tt49, tt51, tt52, tt54, tt58, tt72, tt79, tt90, tt92, h41, h40, h39, h6, h0, h5, ho, hjl, eInts_len, hjx, eBools_len, hn1, hcl, hb2, hwj, hx0, go_sem, Nat.reduceAdd, Nat.reduceMul, Nat.reduceEqDiff, Nat.reduceLeDiff, Nat.reduceLT, Nat.reduceBEq, reduceCtorEq, reduceIte]
                refine ⟨(j + 1, n1), [], [0], by simp, ?_, by show s.uses.length - (j + 1) < s.uses.length - j; omega⟩
                simp only [tt2, tt3, tt4, tt5, tt9, tt21, tt22, tt25, tt32, tt37, tt47, tt49, tt51, tt52, tt54, tt58, tt72, tt79, tt90, tt92, KeepI, h40, h39, h6, h0, h5, ho, hn1, go_sem, Nat.reduceAdd, Nat.reduceMul, Nat.reduceEqDiff, Nat.reduceLeDiff, Nat.reduceLT, Nat.reduceBEq, reduceCtorEq, reduceIte]
                rw [if_neg (by omega)] at hg1
                exact ⟨by omega, hb1, hg1⟩
          · simp only [tt2, tt3, tt4, tt5, tt9, tt21, tt22, tt25, tt32, tt37, tt47, tt49, tt51, tt52, tt54, tt58, tt72, tt79, tt90, tt92, h41, h40, h39, h6, h0, h5, ho, hjl, hw, go_sem, Nat.reduceAdd, Nat.reduceMul, Nat.reduceEqDiff, Nat.reduceLeDiff, Nat.reduceLT, Nat.reduceBEq, reduceCtorEq, reduceIte]
            refine ⟨(c, n1), [], [0], by simp, ?_, by show c < c + 1; omega⟩
            simp only [tt2, tt3, tt4, tt5, tt9, tt21, tt22, tt25, tt32, tt37, tt47, tt49, tt51, tt52, tt54, tt58, tt72, tt79, tt90, tt92, KeepO, h0, h5, ho, hn1, go_sem, Nat.reduceAdd, Nat.reduceMul, Nat.reduceEqDiff, Nat.reduceLeDiff, Nat.reduceLT, Nat.reduceBEq, reduceCtorEq, reduceIte]
            rw [List.drop_of_length_le (by omega)] at hg1
            exact ⟨by omega, hfin _ hg1⟩
  · have hk1 : l.length ≤ k := by omega
    simp only [fnS, f15, argSt, tt2, tt3, tt4, tt5, tt9, tt21, tt22, tt25, tt32, tt37, tt47, tt49, tt51, tt52, tt54, tt58, tt72, tt79, tt90, tt92, hk0, hk1, eStepS_len, go_sem, Nat.reduceAdd, Nat.reduceMul, Nat.reduceEqDiff, Nat.reduceLeDiff, Nat.reduceLT, Nat.reduceBEq, reduceCtorEq, reduceIte]
    rw [trimOf, if_neg (by omega)]; rfl
end Go.Proofs.Ytfmplnebdldpdaa
