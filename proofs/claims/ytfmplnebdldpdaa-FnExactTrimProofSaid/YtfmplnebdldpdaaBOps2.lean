/- More operations that leave the world as it is: lengths, indexes, loads, fields, struct literals. -/
import Derived.Test.YtfmplnebdldpdaaBOps1
namespace Go.Proofs.Ytfmplnebdldpdaa
open Go.RowKit
section
variable {P : Program} {W : World} {U : Nat → Prop} {key : Nat} {st : St} {g : Gh} {w : World} {a : Act} {tt : Nat → Option TI}
theorem tt_und {t : Nat} {i : TI} (htt : ∀ t i, tt t = some i → TOk P t i) (h : tt t = some i) : ∃ d, P.underlying t = some d := by
  cases i with
  | atom z => obtain ⟨d, _, _, h, _⟩ := htt t _ h; exact ⟨d, h⟩
  | strct fs n z => obtain ⟨f, _, _, h, _⟩ := htt t _ h; exact ⟨_, h⟩
  | slice e m b z => exact ⟨_, (htt t _ h).1⟩
theorem isSlice_und {t : Nat} (htt : ∀ t i, tt t = some i → TOk P t i) (h : isSlice (tt t) = true) : ∃ e, P.underlying t = some (.slice e) := by
  unfold isSlice at h
  split at h
  · rename_i h1; exact ⟨_, (htt t _ h1).1⟩
  · simp at h
theorem isStr_und {t : Nat} (htt : ∀ t i, tt t = some i → TOk P t i) (h : isStr (tt t) = true) : P.underlying t = some .string := by
  unfold isStr at h
  split at h
  · rename_i h1
    obtain ⟨d, zv, i, h2, h3, _⟩ := htt t _ h1
    have hd : d = .string := by cases d <;> simp [kindB] at h3; rfl
    rw [hd] at h2; exact h2
  · simp at h
theorem conv_ok (htt : ∀ t i, tt t = some i → TOk P t i) {s t : Nat} {x v : SV} {vx : Value} (h : convV (tt s) (tt t) x = some v) (hx : SVR g w x vx) : ∃ cv, (convert s t vx).run P w = .ok cv w ∧ SVR g w v cv ∧ svU U v := by
  unfold convV at h
  split at h
  · have ex := int_of hx
    subst ex
    split at h
    · rename_i h1 h2
      simp only [Option.some.injEq] at h
      subst h
      obtain ⟨d, zv, i, h3, h4, _⟩ := htt t _ h2
      have hd : ∃ k, d = .int k := by cases d <;> simp [kindB] at h4; exact ⟨_, rfl⟩
      obtain ⟨k, rfl⟩ := hd
      simp only [kindB, beq_iff_eq] at h4
      subst h4
      obtain ⟨ds, hs⟩ := tt_und htt h1
      refine ⟨_, ?_, SVR_int _ _, svU_c _⟩
      simp [convert, run_und hs, run_und h3, Conv.intToInt]
    · simp at h
  · simp at h
theorem slice_of {e m : Nat} {xs : List (List CT)} {v : Value} (h : SVR g w (.p false [.c (.sl e m xs)]) v) : ∃ A cap cs L0 L1, v = .slice A xs.length cap ∧ xs.length ≤ cap ∧ cap ≤ maxLen ∧ 0 < m ∧ Sl w m A xs.length cs L0 ∧ REs w m xs cs L1 ∧ (∀ b ∈ L0 ++ L1, ¬ g.own b) := by
  obtain ⟨x, hx, h⟩ := h
  simp at hx
  subst hx
  obtain ⟨L, ⟨A, cap, cs, L0, L1, h1, h2, h3, h4, h5, h6, h7⟩, ho⟩ := h
  exact ⟨A, cap, cs, L0, L1, h1, h2, h3, h5, h6, h7, fun b m => ho b (h4 ▸ m)⟩
theorem row_of {k : Nat} {v : Value} (h : SVR g w (.p false [.row k]) v) : v = g.val k := by
  obtain ⟨x, hx, h⟩ := h; simp at hx; subst hx; exact h.1
theorem nil_of {e m : Nat} {v : Value} (h : SVR g w (.p false [.nil e m]) v) : v = .slice none 0 0 := by
  obtain ⟨x, hx, h⟩ := h; simp at hx; subst hx; exact h
theorem own_val {B e m n : Nat} {v : Value} {cs : List Value} (h : w.ownsRow B e m v n cs) : ∃ A cap, v = .slice A n cap := by
  obtain ⟨A, c, hv, _⟩ := own_slice h
  exact ⟨A, c, hv⟩
theorem len_ok (htt : ∀ t i, tt t = some i → TOk P t i) (hI : HI W g st.ob w) {t : Nat} {ts : Array TypeId} {ty : TypeId} (hts : ts[0]? = some t) {x v : SV} {vx : Value} (h : lenV st (tt t) x = some v) (hx : SVR g w x vx) :
    ∃ cv, (Builtin.len_ ts ty #[vx]).run P w = .ok cv w ∧ SVR g w v cv ∧ svU U v := by
  have fin : ∀ (A : Option Addr) (n c : Nat), isSlice (tt t) = true → (Builtin.len_ ts ty #[.slice A n c]).run P w = .ok (.int .i64 n) w := fun A n c hs => by
    obtain ⟨e, he⟩ := isSlice_und htt hs
    simp [Builtin.len_, hts, run_und he, goInt]
  unfold lenV at h
  split at h
  · split at h <;> simp at h
    rename_i hs
    subst h
    obtain ⟨A, cap, _, _, _, rfl, _⟩ := slice_of hx
    exact ⟨_, fin _ _ _ hs, SVR_int _ _, svU_c _⟩
  · split at h <;> simp at h
    rename_i hs
    subst h
    obtain ⟨rfl, _⟩ := str_of hx
    refine ⟨_, ?_, SVR_int _ _, svU_c _⟩
    simp [Builtin.len_, hts, run_und (isStr_und htt hs), goInt]
  · split at h <;> simp at h
    rename_i hs
    subst h
    have := nil_of hx
    subst this
    exact ⟨_, fin _ _ _ hs, SVR_int _ _, svU_c _⟩
  · split at h
    · rename_i k _ e m xs d hk
      split at h <;> simp at h
      rename_i hs
      subst h
      have hv := row_of hx
      subst hv
      have ho := hI.obs k
      rw [hk] at ho
      obtain ⟨_, cs, L, h1, _⟩ := ho
      obtain ⟨A, cap, hv⟩ := own_val h1
      rw [hv]
      exact ⟨_, fin _ _ _ hs, SVR_int _ _, svU_c _⟩
    · simp at h
  · simp at h
theorem RCs.avr {e : List CT} {cs : List Value} {L : List Nat} : RCs w e cs L → (∀ b ∈ L, ¬ g.own b) → All2 (AVR g w) (e.map .c) cs := by
  induction e generalizing cs L with
  | nil => intro h _; obtain ⟨rfl, rfl⟩ := h; trivial
  | cons x r ih =>
    rintro ⟨v, cs', L1, L2, rfl, rfl, h1, h2⟩ ho
    exact ⟨⟨L1, h1, fun b m => ho b (by simp [m])⟩, ih h2 fun b m => ho b (by simp [m])⟩
theorem svU_cs (a : Bool) (e : List CT) : avsU U (e.map AV.c) := fun y m => by
  obtain ⟨x, _, rfl⟩ := List.mem_map.1 m; trivial
/-- cells that lie from (b, lo) on, cut as a value of a type -/
theorem cut_ok (htt : ∀ t i, tt t = some i → TOk P t i) {t b lo off : Nat} {cs : List AV} {vs : List Value} {v : SV} (h : cut (tt t) cs off = some v) (hc : CellsAt w b lo vs) (hr : All2 (AVR g w) cs vs) (hu : avsU U cs) :
    ∃ cv, (Instr.loadAt t (.pointer (some ⟨b, lo + off, none⟩))).run P w = .ok cv w ∧ SVR g w v cv ∧ svU U v := by
  have hlen := hr.len
  have one : ∀ d, P.underlying t = some d → aggD d = false → ∀ x, cs[off]? = some x → ∃ cv, (Instr.loadAt t (.pointer (some ⟨b, lo + off, none⟩))).run P w = .ok cv w ∧ SVR g w (.p false [x]) cv ∧ svU U (.p false [x]) := fun d hd ha x hx => by
    obtain ⟨u, h1, h2⟩ := hr.at hx
    refine ⟨u, ?_, ⟨x, rfl, h2⟩, fun y m => by simp at m; subst m; exact hu y (List.mem_of_getElem? hx)⟩
    simp [Instr.loadAt, Instr.sureAddr, loadVar, run_agg hd, ha, load, Sem.run, hc off u h1]
  unfold cut at h
  split at h
  · rename_i fs n z hti
    split at h <;> simp at h
    rename_i hn
    subst h
    obtain ⟨fields, i, zvs, h1, h2, h3, _⟩ := htt t _ hti
    refine ⟨.agg ((vs.drop off).take n).toArray, ?_, ⟨_, rfl, (hr.drop off).take n⟩, fun y m => hu y (List.mem_of_mem_drop (List.mem_of_mem_take m))⟩
    have hl : ((vs.drop off).take n).length = i.size := by simp; omega
    have hload := run_loadCells_list (P := P) w ⟨b, lo + off, none⟩ ((vs.drop off).take n) (fun j u hj => by
      rw [add_lit0, Nat.add_assoc]
      refine hc _ u ?_
      have hjn : j < n := by
        have := (List.getElem?_eq_some_iff.1 hj).1
        simp at this; omega
      rw [List.getElem?_take, if_pos hjn, List.getElem?_drop] at hj
      exact hj)
    rw [hl] at hload
    simp [Instr.loadAt, Instr.sureAddr, loadVar, run_agg h1, aggD, run_size h2, hload]
  · rename_i i hti hns
    obtain ⟨x, hx, rfl⟩ := Option.map_eq_some_iff.1 h
    cases i with
    | atom z => obtain ⟨d, zv, i, h1, h2, _⟩ := htt t _ hns; exact one d h1 (kind_agg h2) x hx
    | strct fs n z => exact absurd rfl (hti _ _ _)
    | slice e m b z => exact one _ (htt t _ hns).1 rfl x hx
  · simp at h
end
end Go.Proofs.Ytfmplnebdldpdaa
