/- The contract of l15Needed. -/
import Derived.Test.YtfmplnebdldpdaaTrimW
namespace Go.Proofs.Ytfmplnebdldpdaa
open Go.Proofs.Try
set_option linter.unusedSimpArgs false
set_option maxRecDepth 10000
def StepsOk (l : List StepD) : Prop := l.length ≤ 1073741824 ∧ ∀ s ∈ l, s.uses.length ≤ 1073741824 ∧ s.fact.args.length ≤ 1073741824
theorem usesAt_eq {l : List StepD} {c : Nat} {s : StepD} (h : l[c]? = some s) : usesAt l c = s.uses := by simp [usesAt, h]
theorem drop_at {α : Type} {l : List α} {j : Nat} {x : α} (h : l[j]? = some x) : l.drop j = x :: l.drop (j + 1) := by
  obtain ⟨h1, h2⟩ := List.getElem?_eq_some_iff.1 h
  rw [← h2]; exact List.drop_eq_getElem_cons h1
def NeedO (l : List StepD) (k : Nat) (p : Nat × List Bool) (st : St) : Prop := p.1 ≤ k + 1 ∧ p.2.length = l.length ∧ needTo l p.1 p.2 = needOf l k ∧ st.n = 1 ∧ st.sl 6 = .p false [.c (.int .i64 ((p.1 : Int) - 1))] ∧ st.sl 0 = .p false [.c (.sl 54 4 (eStepS l))] ∧ st.sl 5 = .p false [.row 0] ∧ st.ob 0 = .row 4 1 (eBools p.2) true
def NeedI (l : List StepD) (c : Nat) (us : List Int) (b : Bool) (n0 : List Bool) (p : Nat × List Bool) (st : St) : Prop := p.1 ≤ us.length ∧ p.2.length = l.length ∧ p.2[c]? = some b ∧ (if b then markUses c (us.drop p.1) p.2 = markUses c us n0 else p.2 = n0) ∧ st.n = 1 ∧ st.sl 7 = .p false [.c (.int .i64 (p.1 : Nat))] ∧ st.sl 6 = .p false [.c (.int .i64 (c : Nat))] ∧ st.sl 0 = .p false [.c (.sl 54 4 (eStepS l))] ∧ st.sl 5 = .p false [.row 0] ∧ st.ob 0 = .row 4 1 (eBools p.2) true
theorem s_needed (l : List StepD) (k : Nat) (hl : StepsOk l) (hk : k < l.length) : Sound Try.prog 37 [(false, [(.sl 54 4 (eStepS l))]), (false, [.int .i64 (k : Int)])] [(false, [(.sl 4 1 (eBools (needOf l k)))])] := by
  obtain ⟨hl, hall⟩ := hl
  refine fn_sound htt hmix Try.func37 (by kernel_rfl) rfl (by kernel_rfl) (by kernel_rfl) ?_
  have hx : (eBools (List.replicate l.length false))[k]? = some [.bool false] := eBools_at (by rw [List.getElem?_replicate, if_pos hk])
  simp only [fnS, f37, argSt, tt2, tt3, tt4, tt5, tt9, tt21, tt22, tt25, tt32, tt37, tt47, tt49, tt51, tt52, tt54, tt58, tt72, tt79, tt90, tt92, eStepS_len, hl, eBools_rep, eBools_len, eBools_set, List.length_replicate, hk, hx, go_sem, Nat.reduceAdd, Nat.reduceMul, Nat.reduceEqDiff, Nat.reduceLeDiff, Nat.reduceLT, Nat.reduceBEq, reduceCtorEq, reduceIte]
  refine swp_loop (NeedO l k) (fun p => p.1) (k + 1, need0 l k) [] [48] (by simp) ?_ ?_
  · simp only [tt2, tt3, tt4, tt5, tt9, tt21, tt22, tt25, tt32, tt37, tt47, tt49, tt51, tt52, tt54, tt58, tt72, tt79, tt90, tt92, NeedO, go_sem, Nat.reduceAdd, Nat.reduceMul, Nat.reduceEqDiff, Nat.reduceLeDiff, Nat.reduceLT, Nat.reduceBEq, reduceCtorEq, reduceIte]
    exact ⟨by simp [need0], rfl, by simp, rfl⟩
  · rintro ⟨c, n⟩ ⟨sl, ob, m⟩ ⟨hc, hn, hg, hm, h6, h0, h5, ho⟩
    simp only at hc hn hg hm h6 h0 h5 ho
    subst hm
    rcases c with _ | c
    · have h6' : sl 6 = .p false [.c (.int .i64 (-1))] := h6
      have hz : ¬ ((0 : Int) ≤ -1) := by decide
      simp only [tt2, tt3, tt4, tt5, tt9, tt21, tt22, tt25, tt32, tt37, tt47, tt49, tt51, tt52, tt54, tt58, tt72, tt79, tt90, tt92, h6', h0, h5, ho, hz, go_sem, Nat.reduceAdd, Nat.reduceMul, Nat.reduceEqDiff, Nat.reduceLeDiff, Nat.reduceLT, Nat.reduceBEq, reduceCtorEq, reduceIte]
      rw [← hg]; rfl
    · have h6' : sl 6 = .p false [.c (.int .i64 (c : Nat))] := by rw [h6]; congr 4; omega
      have hcl : c < l.length := by omega
      have hs0 : l[c]? = some l[c] := List.getElem?_eq_getElem hcl
      have hsm := hall _ (List.getElem_mem hcl)
      generalize l[c] = s at hs0 hsm
      have hs := eStepS_at hs0
      have hw : IntKind.i64.wrap ((c : Int) - 1) = (c : Int) - 1 := wrap_ok (by omega) (by omega)
      have hb : n[c]? = some n[c] := List.getElem?_eq_getElem (by omega)
      generalize n[c] = b at hb
      simp only [tt2, tt3, tt4, tt5, tt9, tt21, tt22, tt25, tt32, tt37, tt47, tt49, tt51, tt52, tt54, tt58, tt72, tt79, tt90, tt92, h6', h0, h5, ho, go_sem, Nat.reduceAdd, Nat.reduceMul, Nat.reduceEqDiff, Nat.reduceLeDiff, Nat.reduceLT, Nat.reduceBEq, reduceCtorEq, reduceIte]
      refine swp_loop (NeedI l c s.uses b n) (fun p => s.uses.length - p.1) (0, n) [] [0] (by simp) ?_ ?_
      · simp only [tt2, tt3, tt4, tt5, tt9, tt21, tt22, tt25, tt32, tt37, tt47, tt49, tt51, tt52, tt54, tt58, tt72, tt79, tt90, tt92, NeedI, hn, hb, h6', h0, h5, ho, go_sem, Nat.reduceAdd, Nat.reduceMul, Nat.reduceEqDiff, Nat.reduceLeDiff, Nat.reduceLT, Nat.reduceBEq, reduceCtorEq, reduceIte]
        cases b <;> simp
      · rintro ⟨j, n1⟩ ⟨sl, ob, m⟩ ⟨hj, hn1, hb1, hg1, hm, h7, h6, h0, h5, ho⟩
        simp only at hj hn1 hb1 hg1 hm h7 h6 h0 h5 ho
        subst hm
        have hb2 := eBools_at hb1
        have hfin : ∀ n', (if b then n' = markUses c s.uses n else n' = n) → needTo l c n' = needOf l k := fun n' h => by
          rw [← hg, needTo, hb, usesAt_eq hs0]
          cases b <;> simp_all
        by_cases hjl : j < s.uses.length
        · cases b with
          | false =>
            simp only [tt2, tt3, tt4, tt5, tt9, tt21, tt22, tt25, tt32, tt37, tt47, tt49, tt51, tt52, tt54, tt58, tt72, tt79, tt90, tt92, h7, h6, h0, h5, ho, eStepS_len, hcl, hs, eStep, eInts_len, hjl, eBools_len, hn1, hb2, hw, go_sem, Nat.reduceAdd, Nat.reduceMul, Nat.reduceEqDiff, Nat.reduceLeDiff, Nat.reduceLT, Nat.reduceBEq, reduceCtorEq, reduceIte]
            refine ⟨(c, n1), [], [0], by simp, ?_, by show c < c + 1; omega⟩
            simp only [tt2, tt3, tt4, tt5, tt9, tt21, tt22, tt25, tt32, tt37, tt47, tt49, tt51, tt52, tt54, tt58, tt72, tt79, tt90, tt92, NeedO, h0, h5, ho, hn1, go_sem, Nat.reduceAdd, Nat.reduceMul, Nat.reduceEqDiff, Nat.reduceLeDiff, Nat.reduceLT, Nat.reduceBEq, reduceCtorEq, reduceIte]
            exact ⟨by omega, hfin _ (by simpa using hg1)⟩
          | true =>
            have hj0 : s.uses[j]? = some s.uses[j] := List.getElem?_eq_getElem hjl
            generalize s.uses[j] = x at hj0
            have hjx := eInts_at hj0
            have hwj : IntKind.i64.wrap ((j : Int) + 1) = ((j + 1 : Nat) : Int) := wrap_ok (by omega) (by omega)
            simp only [if_true] at hg1
            rw [drop_at hj0, markUses] at hg1
            simp only [tt2, tt3, tt4, tt5, tt9, tt21, tt22, tt25, tt32, tt37, tt47, tt49, tt51, tt52, tt54, tt58, tt72, tt79, tt90, tt92, h7, h6, h0, h5, ho, eStepS_len, hcl, hs, eStep, eInts_len, hjl, eBools_len, hn1, hb2, hw, hjx, hwj, go_sem, Nat.reduceAdd, Nat.reduceMul, Nat.reduceEqDiff, Nat.reduceLeDiff, Nat.reduceLT, Nat.reduceBEq, reduceCtorEq, reduceIte]
            refine ⟨_, s_l1In _ _ _, ?_⟩
            by_cases hp : 0 ≤ x ∧ x ≤ (c : Int) - 1
            · obtain ⟨u, rfl⟩ := Int.eq_ofNat_of_zero_le hp.1
              have hu : u < c := by omega
              have hul : u < l.length := by omega
              have hnu := eBools_at (List.getElem?_eq_getElem (show u < n1.length by omega))
              simp only [tt2, tt3, tt4, tt5, tt9, tt21, tt22, tt25, tt32, tt37, tt47, tt49, tt51, tt52, tt54, tt58, tt72, tt79, tt90, tt92, h7, h6, h0, h5, ho, eStepS_len, hcl, hs, eStep, eInts_len, hjl, eBools_len, hn1, hb2, hw, hjx, hwj, hp.2, hul, hnu, eBools_set, go_sem, Nat.reduceAdd, Nat.reduceMul, Nat.reduceEqDiff, Nat.reduceLeDiff, Nat.reduceLT, Nat.reduceBEq, reduceCtorEq, reduceIte]
              refine ⟨(j + 1, n1.set u true), [], [0], by simp, ?_, by show s.uses.length - (j + 1) < s.uses.length - j; omega⟩
              simp only [tt2, tt3, tt4, tt5, tt9, tt21, tt22, tt25, tt32, tt37, tt47, tt49, tt51, tt52, tt54, tt58, tt72, tt79, tt90, tt92, NeedI, h6, h0, h5, ho, hn1, List.length_set, go_sem, Nat.reduceAdd, Nat.reduceMul, Nat.reduceEqDiff, Nat.reduceLeDiff, Nat.reduceLT, Nat.reduceBEq, reduceCtorEq, reduceIte]
              rw [if_pos (by omega)] at hg1
              exact ⟨by omega, by rw [List.getElem?_set_ne (by omega)]; exact hb1, by simpa using hg1⟩
            · simp only [tt2, tt3, tt4, tt5, tt9, tt21, tt22, tt25, tt32, tt37, tt47, tt49, tt51, tt52, tt54, tt58, tt72, tt79, tt90, tt92, h7, h6, h0, h5, ho, eStepS_len, hcl, hs, eStep, eInts_len, hjl, eBools_len, hn1, hb2, hw, hjx, hwj, hp, go_sem, Nat.reduceAdd, Nat.reduceMul, Nat.reduceEqDiff, Nat.reduceLeDiff, Nat.reduceLT, Nat.reduceBEq, reduceCtorEq, reduceIte]
              refine ⟨(j + 1, n1), [], [0], by simp, ?_, by show s.uses.length - (j + 1) < s.uses.length - j; omega⟩
              simp only [tt2, tt3, tt4, tt5, tt9, tt21, tt22, tt25, tt32, tt37, tt47, tt49, tt51, tt52, tt54, tt58, tt72, tt79, tt90, tt92, NeedI, h6, h0, h5, ho, hn1, go_sem, Nat.reduceAdd, Nat.reduceMul, Nat.reduceEqDiff, Nat.reduceLeDiff, Nat.reduceLT, Nat.reduceBEq, reduceCtorEq, reduceIte]
              rw [if_neg (by omega)] at hg1
              exact ⟨by omega, hb1, hg1⟩
        · simp only [tt2, tt3, tt4, tt5, tt9, tt21, tt22, tt25, tt32, tt37, tt47, tt49, tt51, tt52, tt54, tt58, tt72, tt79, tt90, tt92, h7, h6, h0, h5, ho, eStepS_len, hcl, hs, eStep, eInts_len, hjl, eBools_len, hn1, hb2, hw, go_sem, Nat.reduceAdd, Nat.reduceMul, Nat.reduceEqDiff, Nat.reduceLeDiff, Nat.reduceLT, Nat.reduceBEq, reduceCtorEq, reduceIte]
          refine ⟨(c, n1), [], [0], by simp, ?_, by show c < c + 1; omega⟩
          simp only [tt2, tt3, tt4, tt5, tt9, tt21, tt22, tt25, tt32, tt37, tt47, tt49, tt51, tt52, tt54, tt58, tt72, tt79, tt90, tt92, NeedO, h0, h5, ho, hn1, go_sem, Nat.reduceAdd, Nat.reduceMul, Nat.reduceEqDiff, Nat.reduceLeDiff, Nat.reduceLT, Nat.reduceBEq, reduceCtorEq, reduceIte]
          rw [List.drop_of_length_le (by omega)] at hg1
          exact ⟨by omega, hfin _ hg1⟩
end Go.Proofs.Ytfmplnebdldpdaa
