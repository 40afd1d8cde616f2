/- What single operations give, as runs of the model's own entries. -/
import Derived.Test.YtfmplnebdldpdaaBInv
import Derived.Laws.CopyRow
import Derived.Laws.OwnMore
namespace Go.Proofs.Ytfmplnebdldpdaa
open Go.RowKit
def constB : AV → Value → Bool
  | .c (.int k n), .int k' n' => k == k' && n == n'
  | .c (.bool b), .bool b' => b == b'
  | .c (.str s), .string s' => s.data.toList == s'.data.toList && strOk s
  | .nil _ m, .slice none 0 0 => Nat.blt 0 m
  | _, _ => false
def kindB : TypeDesc → AV → Bool
  | .int k, .c (.int k' _) => k == k'
  | .bool, .c (.bool _) => true
  | .string, .c (.str _) => true
  | _, _ => false
def aggD : TypeDesc → Bool
  | .struct _ => true
  | .array _ _ => true
  | _ => false
def TOk (P : Program) (t : TypeId) : TI → Prop
  | .atom z => ∃ d zv i, P.underlying t = some d ∧ kindB d z = true ∧ P.info? t = some i ∧ i.zero = some zv ∧ i.size = 1 ∧ constB z zv = true
  | .strct fs n z => ∃ (fields : Array Field) (i : TypeInfo) (zvs : Array Value), P.underlying t = some (.struct fields) ∧ P.info? t = some i ∧ i.size = n ∧ i.zero = some (.agg zvs) ∧ All2 (fun a v => constB a v = true) z zvs.toList ∧
      All2 (fun (fi : FI) (f : Field) => f.offset = fi.off ∧ fi.size ≠ 0 ∧ ∃ j d, P.info? f.type = some j ∧ j.size = fi.size ∧ P.underlying f.type = some d ∧ aggD d = fi.agg) fs fields.toList
  | .slice e m bytes z => P.underlying t = some (.slice e) ∧ 0 < m ∧ bytes ≤ 131072 ∧ (∃ (i : TypeInfo) (zv : Value), P.info? e = some i ∧ i.size = m ∧ i.bytes = bytes ∧ i.zero = some zv ∧ All2 (fun a v => constB a v = true) z zv.cells.toList ∧ z.length = m) ∧
      ∃ j : TypeInfo, P.info? t = some j ∧ j.size = 1 ∧ j.zero = some (.slice none 0 0)
section
variable {P : Program} {w : World} {t : TypeId}
theorem run_info {i : TypeInfo} (h : P.info? t = some i) : (typeInfo t).run P w = .ok i w := by simp [typeInfo, program, Sem.run, h]
theorem run_und {d : TypeDesc} (h : P.underlying t = some d) : (underlying t).run P w = .ok d w := by simp [underlying, program, Sem.run, h]
theorem run_size {i : TypeInfo} (h : P.info? t = some i) : (sizeOf t).run P w = .ok i.size w := by simp [sizeOf, run_info h]
theorem run_zero {i : TypeInfo} {z : Value} (h : P.info? t = some i) (hz : i.zero = some z) : (zeroValue t).run P w = .ok z w := by simp [zeroValue, run_info h, hz]
theorem run_agg {d : TypeDesc} (h : P.underlying t = some d) : (isAgg t).run P w = .ok (aggD d) w := by
  simp only [isAgg, Sem.run_bind, run_und h, Result.andThen_ok]
  cases d <;> rfl
theorem kind_agg {d : TypeDesc} {z : AV} (h : kindB d z = true) : aggD d = false := by
  unfold kindB at h
  split at h <;> first | rfl | simp at h
end
section
variable {g : Gh} {w : World}
theorem strOk_le {s : ByteArray} (h : strOk s = true) : s.size ≤ 9223372036854775807 := by
  unfold strOk at h
  have := Nat.le_of_ble_eq_true h
  rw [Array.length_toList] at this
  exact this
theorem const_AVR {x : AV} {v : Value} (h : constB x v = true) : AVR g w x v := by
  unfold constB at h
  split at h
  · simp only [Bool.and_eq_true, beq_iff_eq] at h
    exact ⟨[], ⟨by rw [h.1, h.2], rfl⟩, by simp⟩
  · simp only [beq_iff_eq] at h
    exact ⟨[], ⟨by rw [h], rfl⟩, by simp⟩
  · rename_i s s'
    simp only [Bool.and_eq_true, beq_iff_eq] at h
    have e : s = s' := by
      cases s; cases s'
      simpa using h.1
    exact ⟨[], ⟨by rw [e], rfl, strOk_le h.2⟩, by simp⟩
  · rfl
  · simp at h
theorem AVR.one {x : AV} {v : Value} (h : AVR g w x v) : v.oneCell' = true := by
  cases x with
  | c x => obtain ⟨L, h1, _⟩ := h; exact h1.one
  | row k => exact h.2
  | nil e m => simp [AVR] at h; simp [h, Value.oneCell']
  | dead => exact h
theorem cells_one {v : Value} (h : v.oneCell' = true) : v.cells = #[v] := by
  cases v <;> simp [Value.oneCell'] at h <;> rfl
theorem PVR.cells {a : Bool} {cs : List AV} {v : Value} (h : PVR g w a cs v) : ∃ vs : List Value, v.cells = vs.toArray ∧ All2 (AVR g w) cs vs := by
  cases a with
  | true => obtain ⟨vs, rfl, h2⟩ := h; exact ⟨vs, rfl, h2⟩
  | false => obtain ⟨x, rfl, h2⟩ := h; exact ⟨[v], by rw [cells_one h2.one], ⟨h2, trivial⟩⟩
theorem AVRs.one {cs : List AV} {vs : List Value} (h : All2 (AVR g w) cs vs) : ∀ u ∈ vs, u.oneCell' = true := by
  induction vs generalizing cs with
  | nil => simp
  | cons v r ih =>
    cases cs with
    | nil => exact h.elim
    | cons c cs =>
      intro u m
      rcases List.mem_cons.1 m with rfl | m
      · exact h.1.one
      · exact ih h.2 u m
end
theorem ba_list (x y : ByteArray) : (x.toList == y.toList) = decide (x = y) := by
  rw [Bool.eq_iff_iff]
  simp only [beq_iff_eq, decide_eq_true_eq]
  constructor
  · intro h
    have h' : x.data.toList = y.data.toList := by rw [← ByteArray.toList_eq, ← ByteArray.toList_eq]; exact h
    cases x; cases y
    simpa using h'
  · rintro rfl; rfl
end Go.Proofs.Ytfmplnebdldpdaa
