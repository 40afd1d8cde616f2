/- The arguments of the laws as data. Printed by gen.py. -/
import Derived.Test.YtfmplnebdldpdaaProg
import Derived.Test.YtfmplnebdldpdaaTypes
import Derived.Test.YtfmplnebdldpdaaOpen
namespace Go.Proofs.Ytfmplnebdldpdaa
open Go.RowKit

def wfFact (x : FactD) : Prop := (fun _ => True) x.rel ∧ (fun ds => ∀ d ∈ ds, (fun _ => True) d) x.args
set_option maxRecDepth 100000 in
theorem opensFact : Opens Try.prog 49 cFact wfFact := by
  intro H enc w base spare held fuel cs x h
  obtain ⟨xs, n, _, _, hlen, hxl, hf⟩ := DataW.trod_struct Try.underlying49 h
  have hl : cs.length = 2 := hlen.trans (by kernel_rfl)
  have hx : xs.length = 2 := hxl
  match cs, hl with
  | [a0, a1], _ =>
    have f0 : DataW.trod enc Try.prog w base spare held n 9 [a0] = some (xs[0]'(by omega)) := by
      have this : DataW.trod enc Try.prog w base spare held n 9 (List.take (Try.prog.cellsOf 9) (List.drop 0 [a0, a1])) = _ := (hf 0 _ rfl).trans (List.getElem?_eq_getElem (show 0 < xs.length by omega))
      rw [show Try.prog.cellsOf 9 = 1 by kernel_rfl] at this
      exact this
    have f1 : DataW.trod enc Try.prog w base spare held n 47 [a1] = some (xs[1]'(by omega)) := by
      have this : DataW.trod enc Try.prog w base spare held n 47 (List.take (Try.prog.cellsOf 47) (List.drop 1 [a0, a1])) = _ := (hf 1 _ rfl).trans (List.getElem?_eq_getElem (show 1 < xs.length by omega))
      rw [show Try.prog.cellsOf 47 = 1 by kernel_rfl] at this
      exact this
    obtain ⟨d0, M0, r0, w0⟩ := (opens_string Try.underlying9) f0
    obtain ⟨e0, _, t0⟩ := r0
    cases e0
    obtain ⟨d1, M1, r1, w1⟩ := (opens_slice Try.underlying47 (by kernel_rfl) (opens_string Try.underlying9)) f1
    obtain ⟨A1, c1, e1, n1, m1, s1⟩ := r1
    cases e1
    exact ⟨⟨d0, d1⟩, _, ⟨A1, c1, M1, rfl, rfl, t0, n1, m1, s1⟩, ⟨w0, w1⟩⟩

def wfStep (x : StepD) : Prop := wfFact x.fact ∧ (fun _ => True) x.rule ∧ (fun ds => ∀ d ∈ ds, wfInt d) x.uses
set_option maxRecDepth 100000 in
theorem opensStep : Opens Try.prog 51 cStep wfStep := by
  intro H enc w base spare held fuel cs x h
  obtain ⟨xs, n, _, _, hlen, hxl, hf⟩ := DataW.trod_struct Try.underlying51 h
  have hl : cs.length = 4 := hlen.trans (by kernel_rfl)
  have hx : xs.length = 3 := hxl
  match cs, hl with
  | [a0, a1, a2, a3], _ =>
    have f0 : DataW.trod enc Try.prog w base spare held n 49 [a0, a1] = some (xs[0]'(by omega)) := by
      have this : DataW.trod enc Try.prog w base spare held n 49 (List.take (Try.prog.cellsOf 49) (List.drop 0 [a0, a1, a2, a3])) = _ := (hf 0 _ rfl).trans (List.getElem?_eq_getElem (show 0 < xs.length by omega))
      rw [show Try.prog.cellsOf 49 = 2 by kernel_rfl] at this
      exact this
    have f1 : DataW.trod enc Try.prog w base spare held n 9 [a2] = some (xs[1]'(by omega)) := by
      have this : DataW.trod enc Try.prog w base spare held n 9 (List.take (Try.prog.cellsOf 9) (List.drop 2 [a0, a1, a2, a3])) = _ := (hf 1 _ rfl).trans (List.getElem?_eq_getElem (show 1 < xs.length by omega))
      rw [show Try.prog.cellsOf 9 = 1 by kernel_rfl] at this
      exact this
    have f2 : DataW.trod enc Try.prog w base spare held n 32 [a3] = some (xs[2]'(by omega)) := by
      have this : DataW.trod enc Try.prog w base spare held n 32 (List.take (Try.prog.cellsOf 32) (List.drop 3 [a0, a1, a2, a3])) = _ := (hf 2 _ rfl).trans (List.getElem?_eq_getElem (show 2 < xs.length by omega))
      rw [show Try.prog.cellsOf 32 = 1 by kernel_rfl] at this
      exact this
    obtain ⟨d0, M0, r0, w0⟩ := opensFact f0
    obtain ⟨A1, c1, N1, e0, g0, t0, n1, m1, s1⟩ := r0
    cases e0
    subst g0
    obtain ⟨d1, M1, r1, w1⟩ := (opens_string Try.underlying9) f1
    obtain ⟨e1, _, t1⟩ := r1
    cases e1
    obtain ⟨d2, M2, r2, w2⟩ := (opens_slice Try.underlying32 (by kernel_rfl) (opens_int Try.underlying3)) f2
    obtain ⟨A2, c2, e2, n2, m2, s2⟩ := r2
    cases e2
    exact ⟨⟨d0, d1, d2⟩, _, ⟨A1, c1, M0, A2, c2, M2, rfl, rfl, t0, t1, n1, m1, s1, n2, m2, s2⟩, ⟨w0, w1, w2⟩⟩

end Go.Proofs.Ytfmplnebdldpdaa
