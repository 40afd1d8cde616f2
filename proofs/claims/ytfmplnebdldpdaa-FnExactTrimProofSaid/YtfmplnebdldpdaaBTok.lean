/- A check of a table of types that the kernel runs. -/
import Derived.Test.YtfmplnebdldpdaaBRun
namespace Go.Proofs.Ytfmplnebdldpdaa
open Go.RowKit
def all2B {α β : Type} (f : α → β → Bool) : List α → List β → Bool
  | [], [] => true
  | a :: l, b :: r => f a b && all2B f l r
  | _, _ => false
theorem all2B_ok {α β : Type} {f : α → β → Bool} {R : α → β → Prop} (h : ∀ a b, f a b = true → R a b) : ∀ {l : List α} {r : List β}, all2B f l r = true → All2 R l r
  | [], [], _ => trivial
  | a :: l, b :: r, hh => by
    simp only [all2B, Bool.and_eq_true] at hh
    exact ⟨h a b hh.1, all2B_ok h hh.2⟩
  | [], _ :: _, hh => by simp [all2B] at hh
  | _ :: _, [], hh => by simp [all2B] at hh
def fieldB (P : Program) (fi : FI) (f : Field) : Bool :=
  f.offset == fi.off && !(fi.size == 0) && match P.info? f.type, P.underlying f.type with
    | some j, some d => j.size == fi.size && (aggD d == fi.agg)
    | _, _ => false
def nilB : Value → Bool
  | .slice none 0 0 => true
  | _ => false
def tOk (P : Program) (t : TypeId) (ti : TI) : Bool :=
  match P.underlying t, P.info? t with
  | some d, some i => match ti with
    | .atom z => kindB d z && i.size == 1 && match i.zero with | some zv => constB z zv | none => false
    | .strct fs n z => match d with
      | .struct fields => i.size == n && (match i.zero with | some (.agg zvs) => all2B constB z zvs.toList | _ => false) && all2B (fieldB P) fs fields.toList
      | _ => false
    | .slice e m bytes z => match d with
      | .slice e' => e == e' && Nat.blt 0 m && Nat.ble bytes 131072 && (match P.info? e with
          | some ie => ie.size == m && ie.bytes == bytes && (match ie.zero with | some zv => all2B constB z zv.cells.toList | none => false)
          | none => false) && z.length == m && i.size == 1 && (match i.zero with | some zv => nilB zv | none => false)
      | _ => false
  | _, _ => false
theorem nilB_ok {v : Value} (h : nilB v = true) : v = .slice none 0 0 := by
  unfold nilB at h
  split at h
  · rfl
  · simp at h
theorem tOk_ok {P : Program} {t : TypeId} {ti : TI} (h : tOk P t ti = true) : TOk P t ti := by
  unfold tOk at h
  split at h
  · rename_i d i hd hi
    cases ti with
    | atom z =>
      simp only [Bool.and_eq_true, beq_iff_eq] at h
      obtain ⟨⟨h1, h2⟩, h3⟩ := h
      split at h3
      · rename_i zv hz; exact ⟨d, zv, i, hd, h1, hi, hz, h2, h3⟩
      · simp at h3
    | strct fs n z =>
      simp only at h
      split at h
      · rename_i fields
        simp only [Bool.and_eq_true, beq_iff_eq] at h
        obtain ⟨⟨h1, h2⟩, h3⟩ := h
        split at h2
        · rename_i zvs hz
          refine ⟨fields, i, zvs, hd, hi, h1, hz, all2B_ok (fun _ _ h => h) h2, all2B_ok (fun fi f hf => ?_) h3⟩
          unfold fieldB at hf
          simp only [Bool.and_eq_true, beq_iff_eq, Bool.not_eq_true', beq_eq_false_iff_ne] at hf
          obtain ⟨⟨f1, f2⟩, f3⟩ := hf
          split at f3
          · rename_i j d' hj hd'
            simp only [Bool.and_eq_true, beq_iff_eq] at f3
            exact ⟨f1, f2, j, d', hj, f3.1, hd', f3.2⟩
          · simp at f3
        · simp at h2
      · simp at h
    | slice e m bytes z =>
      simp only at h
      split at h
      · rename_i e'
        simp only [Bool.and_eq_true, beq_iff_eq] at h
        obtain ⟨⟨⟨⟨⟨⟨h1, h2⟩, h3⟩, h4⟩, h5⟩, h6⟩, h7⟩ := h
        subst h1
        split at h4
        · rename_i ie hie
          simp only [Bool.and_eq_true, beq_iff_eq] at h4
          obtain ⟨⟨k1, k2⟩, k3⟩ := h4
          split at k3
          · rename_i zv hz
            split at h7
            · rename_i zv' hz'
              exact ⟨hd, Nat.le_of_ble_eq_true h2, Nat.le_of_ble_eq_true h3, ⟨ie, zv, hie, k1, k2, hz, all2B_ok (fun _ _ h => h) k3, h5⟩, i, hi, h6, by rw [hz', nilB_ok h7]⟩
            · simp at h7
          · simp at k3
        · simp at h4
      · simp at h
  · simp at h
def look : List (Nat × TI) → Nat → Option TI
  | [], _ => none
  | p :: r, t => if p.1 = t then some p.2 else look r t
theorem tts_ok {P : Program} : ∀ (l : List (Nat × TI)), (l.all fun p => tOk P p.1 p.2) = true → ∀ t i, look l t = some i → TOk P t i
  | [], _, t, i, h => by simp [look] at h
  | p :: r, ha, t, i, h => by
    simp only [List.all_cons, Bool.and_eq_true] at ha
    simp only [look] at h
    split at h
    · rename_i e
      simp only [Option.some.injEq] at h
      subst h e
      exact tOk_ok ha.1
    · exact tts_ok r ha.2 t i h
end Go.Proofs.Ytfmplnebdldpdaa
