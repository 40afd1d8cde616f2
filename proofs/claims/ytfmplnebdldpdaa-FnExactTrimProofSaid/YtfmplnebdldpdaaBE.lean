/- Trees and codecs say the same of each struct. Printed by bgen.py. -/
import Derived.Test.YtfmplnebdldpdaaBT
import Derived.Test.YtfmplnebdldpdaaBStd
namespace Go.Proofs.Ytfmplnebdldpdaa
theorem encFact : Enc cFact eFact where
  to := fun {w cs x L} h => by
    obtain ⟨A1, c1, L1, rfl, rfl, t0, n1, m1, s1⟩ := h
    have hh : RCs w (eFact x) _ _ := RCs.more ⟨rfl, rfl, t0⟩ (RCs.solo ((encStr.sl 9).1 ⟨A1, c1, rfl, n1, m1, s1⟩))
    simpa only [List.nil_append, List.append_nil, List.append_assoc] using hh
  of := fun {w cs x L} h => by
    obtain ⟨v0, r0, K0, M0, rfl, rfl, h0, v1, r1, K1, M1, rfl, rfl, h1, rfl, rfl⟩ := h
    obtain ⟨rfl, rfl, t0⟩ := h0
    obtain ⟨A1, c1, e1, n1, m1, s1⟩ := (encStr.sl 9).2 h1
    cases e1
    exact ⟨A1, c1, _, rfl, by simp only [List.nil_append, List.append_nil, List.append_assoc], t0, n1, m1, s1⟩
theorem encPattern : Enc cPattern ePattern where
  to := fun {w cs x L} h => by
    obtain ⟨A1, c1, L1, rfl, rfl, t0, n1, m1, s1⟩ := h
    have hh : RCs w (ePattern x) _ _ := RCs.more ⟨rfl, rfl, t0⟩ (RCs.solo ((encStr.sl 9).1 ⟨A1, c1, rfl, n1, m1, s1⟩))
    simpa only [List.nil_append, List.append_nil, List.append_assoc] using hh
  of := fun {w cs x L} h => by
    obtain ⟨v0, r0, K0, M0, rfl, rfl, h0, v1, r1, K1, M1, rfl, rfl, h1, rfl, rfl⟩ := h
    obtain ⟨rfl, rfl, t0⟩ := h0
    obtain ⟨A1, c1, e1, n1, m1, s1⟩ := (encStr.sl 9).2 h1
    cases e1
    exact ⟨A1, c1, _, rfl, by simp only [List.nil_append, List.append_nil, List.append_assoc], t0, n1, m1, s1⟩
theorem encPair : Enc cPair ePair where
  to := fun {w cs x L} h => by
    obtain ⟨rfl, rfl, t0, t1⟩ := h
    have hh : RCs w (ePair x) _ _ := RCs.more ⟨rfl, rfl, t0⟩ (RCs.solo ⟨rfl, rfl, t1⟩)
    simpa only [List.nil_append, List.append_nil, List.append_assoc] using hh
  of := fun {w cs x L} h => by
    obtain ⟨v0, r0, K0, M0, rfl, rfl, h0, v1, r1, K1, M1, rfl, rfl, h1, rfl, rfl⟩ := h
    obtain ⟨rfl, rfl, t0⟩ := h0
    obtain ⟨rfl, rfl, t1⟩ := h1
    exact ⟨rfl, by simp only [List.nil_append, List.append_nil, List.append_assoc], t0, t1⟩
theorem encCond : Enc cCond eCond where
  to := fun {w cs x L} h => by
    obtain ⟨A1, c1, L1, rfl, rfl, t0, t1, t2, n1, m1, s1⟩ := h
    have hh : RCs w (eCond x) _ _ := RCs.more ⟨rfl, rfl⟩ (RCs.more ⟨rfl, rfl, t0⟩ (RCs.more ((encStr.sl 9).1 ⟨A1, c1, rfl, n1, m1, s1⟩) (RCs.more ⟨rfl, rfl, t1⟩ (RCs.solo ⟨rfl, rfl, t2⟩))))
    simpa only [List.nil_append, List.append_nil, List.append_assoc] using hh
  of := fun {w cs x L} h => by
    obtain ⟨v0, r0, K0, M0, rfl, rfl, h0, v1, r1, K1, M1, rfl, rfl, h1, v2, r2, K2, M2, rfl, rfl, h2, v3, r3, K3, M3, rfl, rfl, h3, v4, r4, K4, M4, rfl, rfl, h4, rfl, rfl⟩ := h
    obtain ⟨rfl, rfl⟩ := h0
    obtain ⟨rfl, rfl, t0⟩ := h1
    obtain ⟨A1, c1, e1, n1, m1, s1⟩ := (encStr.sl 9).2 h2
    cases e1
    obtain ⟨rfl, rfl, t1⟩ := h3
    obtain ⟨rfl, rfl, t2⟩ := h4
    exact ⟨A1, c1, _, rfl, by simp only [List.nil_append, List.append_nil, List.append_assoc], t0, t1, t2, n1, m1, s1⟩
theorem encAction : Enc cAction eAction where
  to := fun {w cs x L} h => by
    obtain ⟨A1, c1, L1, rfl, rfl, t0, n1, m1, s1⟩ := h
    have hh : RCs w (eAction x) _ _ := RCs.more ⟨rfl, rfl⟩ (RCs.more ⟨rfl, rfl, t0⟩ (RCs.solo ((encStr.sl 9).1 ⟨A1, c1, rfl, n1, m1, s1⟩)))
    simpa only [List.nil_append, List.append_nil, List.append_assoc] using hh
  of := fun {w cs x L} h => by
    obtain ⟨v0, r0, K0, M0, rfl, rfl, h0, v1, r1, K1, M1, rfl, rfl, h1, v2, r2, K2, M2, rfl, rfl, h2, rfl, rfl⟩ := h
    obtain ⟨rfl, rfl⟩ := h0
    obtain ⟨rfl, rfl, t0⟩ := h1
    obtain ⟨A1, c1, e1, n1, m1, s1⟩ := (encStr.sl 9).2 h2
    cases e1
    exact ⟨A1, c1, _, rfl, by simp only [List.nil_append, List.append_nil, List.append_assoc], t0, n1, m1, s1⟩
theorem encAlpha : Enc cAlpha eAlpha where
  to := fun {w cs x L} h => by
    obtain ⟨A1, c1, L1, A2, c2, L2, rfl, rfl, t0, n1, m1, s1, n2, m2, s2⟩ := h
    have hh : RCs w (eAlpha x) _ _ := RCs.more ⟨rfl, rfl, t0⟩ (RCs.more ((encStr.sl 9).1 ⟨A1, c1, rfl, n1, m1, s1⟩) (RCs.solo ((encFact.sl 52).1 ⟨A2, c2, rfl, n2, m2, s2⟩)))
    simpa only [List.nil_append, List.append_nil, List.append_assoc] using hh
  of := fun {w cs x L} h => by
    obtain ⟨v0, r0, K0, M0, rfl, rfl, h0, v1, r1, K1, M1, rfl, rfl, h1, v2, r2, K2, M2, rfl, rfl, h2, rfl, rfl⟩ := h
    obtain ⟨rfl, rfl, t0⟩ := h0
    obtain ⟨A1, c1, e1, n1, m1, s1⟩ := (encStr.sl 9).2 h1
    cases e1
    obtain ⟨A2, c2, e2, n2, m2, s2⟩ := (encFact.sl 52).2 h2
    cases e2
    exact ⟨A1, c1, _, A2, c2, _, rfl, by simp only [List.nil_append, List.append_nil, List.append_assoc], t0, n1, m1, s1, n2, m2, s2⟩
theorem encStamp : Enc cStamp eStamp where
  to := fun {w cs x L} h => by
    obtain ⟨A1, c1, L1, rfl, rfl, t0, n1, m1, s1⟩ := h
    have hh : RCs w (eStamp x) _ _ := RCs.more ⟨rfl, rfl, t0⟩ (RCs.more ((encStr.sl 9).1 ⟨A1, c1, rfl, n1, m1, s1⟩) (RCs.solo ⟨rfl, rfl⟩))
    simpa only [List.nil_append, List.append_nil, List.append_assoc] using hh
  of := fun {w cs x L} h => by
    obtain ⟨v0, r0, K0, M0, rfl, rfl, h0, v1, r1, K1, M1, rfl, rfl, h1, v2, r2, K2, M2, rfl, rfl, h2, rfl, rfl⟩ := h
    obtain ⟨rfl, rfl, t0⟩ := h0
    obtain ⟨A1, c1, e1, n1, m1, s1⟩ := (encStr.sl 9).2 h1
    cases e1
    obtain ⟨rfl, rfl⟩ := h2
    exact ⟨A1, c1, _, rfl, by simp only [List.nil_append, List.append_nil, List.append_assoc], t0, n1, m1, s1⟩
theorem encFiring : Enc cFiring eFiring where
  to := fun {w cs x L} h => by
    obtain ⟨A1, c1, L1, rfl, rfl, t0, n1, m1, s1⟩ := h
    have hh : RCs w (eFiring x) _ _ := RCs.more ⟨rfl, rfl, t0⟩ (RCs.solo ((encInt.sl 3).1 ⟨A1, c1, rfl, n1, m1, s1⟩))
    simpa only [List.nil_append, List.append_nil, List.append_assoc] using hh
  of := fun {w cs x L} h => by
    obtain ⟨v0, r0, K0, M0, rfl, rfl, h0, v1, r1, K1, M1, rfl, rfl, h1, rfl, rfl⟩ := h
    obtain ⟨rfl, rfl, t0⟩ := h0
    obtain ⟨A1, c1, e1, n1, m1, s1⟩ := (encInt.sl 3).2 h1
    cases e1
    exact ⟨A1, c1, _, rfl, by simp only [List.nil_append, List.append_nil, List.append_assoc], t0, n1, m1, s1⟩
theorem encEvent : Enc cEvent eEvent where
  to := fun {w cs x L} h => by
    obtain ⟨A1, c1, L1, rfl, rfl, t0, t1, n1, m1, s1⟩ := h
    have hh : RCs w (eEvent x) _ _ := RCs.more ⟨rfl, rfl⟩ (RCs.more ⟨rfl, rfl, t0⟩ (RCs.more ⟨rfl, rfl, t1⟩ (RCs.solo ((encStr.sl 9).1 ⟨A1, c1, rfl, n1, m1, s1⟩))))
    simpa only [List.nil_append, List.append_nil, List.append_assoc] using hh
  of := fun {w cs x L} h => by
    obtain ⟨v0, r0, K0, M0, rfl, rfl, h0, v1, r1, K1, M1, rfl, rfl, h1, v2, r2, K2, M2, rfl, rfl, h2, v3, r3, K3, M3, rfl, rfl, h3, rfl, rfl⟩ := h
    obtain ⟨rfl, rfl⟩ := h0
    obtain ⟨rfl, rfl, t0⟩ := h1
    obtain ⟨rfl, rfl, t1⟩ := h2
    obtain ⟨A1, c1, e1, n1, m1, s1⟩ := (encStr.sl 9).2 h3
    cases e1
    exact ⟨A1, c1, _, rfl, by simp only [List.nil_append, List.append_nil, List.append_assoc], t0, t1, n1, m1, s1⟩
theorem encReason : Enc cReason eReason where
  to := fun {w cs x L} h => by
    obtain ⟨A1, c1, L1, A2, c2, L2, rfl, rfl, n1, m1, s1, n2, m2, s2⟩ := h
    have hh : RCs w (eReason x) _ _ := RCs.more ⟨rfl, rfl⟩ (RCs.more ((encInt.sl 3).1 ⟨A1, c1, rfl, n1, m1, s1⟩) (RCs.solo ((encInt.sl 3).1 ⟨A2, c2, rfl, n2, m2, s2⟩)))
    simpa only [List.nil_append, List.append_nil, List.append_assoc] using hh
  of := fun {w cs x L} h => by
    obtain ⟨v0, r0, K0, M0, rfl, rfl, h0, v1, r1, K1, M1, rfl, rfl, h1, v2, r2, K2, M2, rfl, rfl, h2, rfl, rfl⟩ := h
    obtain ⟨rfl, rfl⟩ := h0
    obtain ⟨A1, c1, e1, n1, m1, s1⟩ := (encInt.sl 3).2 h1
    cases e1
    obtain ⟨A2, c2, e2, n2, m2, s2⟩ := (encInt.sl 3).2 h2
    cases e2
    exact ⟨A1, c1, _, A2, c2, _, rfl, by simp only [List.nil_append, List.append_nil, List.append_assoc], n1, m1, s1, n2, m2, s2⟩
theorem encStep : Enc cStep eStep where
  to := fun {w cs x L} h => by
    obtain ⟨A1, c1, L1, A2, c2, L2, rfl, rfl, t0, t1, n1, m1, s1, n2, m2, s2⟩ := h
    have hh : RCs w (eStep x) _ _ := RCs.more ⟨rfl, rfl, t0⟩ (RCs.more ((encStr.sl 9).1 ⟨A1, c1, rfl, n1, m1, s1⟩) (RCs.more ⟨rfl, rfl, t1⟩ (RCs.solo ((encInt.sl 3).1 ⟨A2, c2, rfl, n2, m2, s2⟩))))
    simpa only [List.nil_append, List.append_nil, List.append_assoc] using hh
  of := fun {w cs x L} h => by
    obtain ⟨v0, r0, K0, M0, rfl, rfl, h0, v1, r1, K1, M1, rfl, rfl, h1, v2, r2, K2, M2, rfl, rfl, h2, v3, r3, K3, M3, rfl, rfl, h3, rfl, rfl⟩ := h
    obtain ⟨rfl, rfl, t0⟩ := h0
    obtain ⟨A1, c1, e1, n1, m1, s1⟩ := (encStr.sl 9).2 h1
    cases e1
    obtain ⟨rfl, rfl, t1⟩ := h2
    obtain ⟨A2, c2, e2, n2, m2, s2⟩ := (encInt.sl 3).2 h3
    cases e2
    exact ⟨A1, c1, _, A2, c2, _, rfl, by simp only [List.nil_append, List.append_nil, List.append_assoc], t0, t1, n1, m1, s1, n2, m2, s2⟩
theorem encMiss : Enc cMiss eMiss where
  to := fun {w cs x L} h => by
    obtain ⟨rfl, rfl, t0, t1⟩ := h
    have hh : RCs w (eMiss x) _ _ := RCs.more ⟨rfl, rfl, t0⟩ (RCs.more ⟨rfl, rfl⟩ (RCs.solo ⟨rfl, rfl, t1⟩))
    simpa only [List.nil_append, List.append_nil, List.append_assoc] using hh
  of := fun {w cs x L} h => by
    obtain ⟨v0, r0, K0, M0, rfl, rfl, h0, v1, r1, K1, M1, rfl, rfl, h1, v2, r2, K2, M2, rfl, rfl, h2, rfl, rfl⟩ := h
    obtain ⟨rfl, rfl, t0⟩ := h0
    obtain ⟨rfl, rfl⟩ := h1
    obtain ⟨rfl, rfl, t1⟩ := h2
    exact ⟨rfl, by simp only [List.nil_append, List.append_nil, List.append_assoc], t0, t1⟩
end Go.Proofs.Ytfmplnebdldpdaa
