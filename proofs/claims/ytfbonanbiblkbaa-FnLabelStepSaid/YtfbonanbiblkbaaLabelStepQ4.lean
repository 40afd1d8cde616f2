/- Texts of this proof, joined: BTok, DT, Dp0, Dp1, Shelf, SortH, SortZ, Ext, Dp3, Dp5, Dp4, Dp6, Dp7, Dp9, Dp10. What each holds is said at its theorems. -/
import Derived.Test.YtfbonanbiblkbaaLabelStepQ2
import Derived.Test.YtfbonanbiblkbaaLabelStepQ3
import Derived.Test.YtfbonanbiblkbaaLabelStepQ1
import Derived.Test.YtfbonanbiblkbaaProg
import Derived.Shelf.Sort.Plain
import Derived.Shelf.Slices.In.SortNone
import Derived.Shelf.Slices.In.SortNone2
set_option linter.unusedSimpArgs false
set_option linter.unusedVariables false
namespace Go.Proofs.Ytfbonanbiblkbaa
open Go.RowKit
def all2B {α β : Type} (f : α → β → Bool) : List α → List β → Bool
  | [], [] => true
  | a :: l, b :: r => f a b && all2B f l r
  | _, _ => false
theorem all2B_ok {α β : Type} {f : α → β → Bool} {R : α → β → Prop} (h : ∀ a b, f a b = true → R a b) : ∀ {l : List α} {r : List β}, all2B f l r = true → All2 R l r
  | [], [], _ => trivial
  | a :: l, b :: r, hh => by
    simp only [all2B, Bool.and_eq_true] at hh
    exact ⟨h a b hh.1, all2B_ok h hh.2⟩
  | [], _ :: _, hh => by simp [all2B] at hh
  | _ :: _, [], hh => by simp [all2B] at hh
def fieldB (P : Program) (fi : FI) (f : Field) : Bool :=
  f.offset == fi.off && !(fi.size == 0) && match P.info? f.type, P.underlying f.type with
    | some j, some d => j.size == fi.size && (aggD d == fi.agg)
    | _, _ => false
def nilB : Value → Bool
  | .slice none 0 0 => true
  | _ => false
def eqFB (P : Program) : List PK → List Field → Nat → Bool
  | [], [], _ => true
  | k :: ks, f :: fs, n => (f.name != "_") && (f.offset == n) && (match P.underlying f.type with | some d => kindP k d | none => false) && eqFB P ks fs (n + 1)
  | _, _, _ => false
theorem eqFB_ok {P : Program} : ∀ {ks : List PK} {fs : List Field} {n : Nat}, eqFB P ks fs n = true → EqF P ks fs n
  | [], [], _, _ => trivial
  | k :: ks, f :: fs, n, h => by
    simp only [eqFB, Bool.and_eq_true, bne_iff_ne, beq_iff_eq] at h
    obtain ⟨⟨⟨h1, h2⟩, h3⟩, h4⟩ := h
    split at h3
    · rename_i d hd; exact ⟨h1, h2, ⟨d, hd, h3⟩, eqFB_ok h4⟩
    · simp at h3
  | [], _ :: _, _, h => by simp [eqFB] at h
  | _ :: _, [], _, h => by simp [eqFB] at h
def isStructD : Option TypeDesc → Bool
  | some (.struct _) => true
  | _ => false
def eqsB (P : Program) (t : TypeId) (ks : List PK) : Bool :=
  Nat.ble 4000 t && isStructD (P.underlying (t - 4000)) && !(P.stoodInHeld (t - 4000)) && !(P.eqGuardType P.depth (t - 4000)) && eqFB P ks (P.fieldsOf (t - 4000)).toList 0
theorem eqsB_ok {P : Program} {t : TypeId} {ks : List PK} (h : eqsB P t ks = true) : TOk P t (.eqs ks) := by
  simp only [eqsB, Bool.and_eq_true, Bool.not_eq_true'] at h
  obtain ⟨⟨⟨⟨h1, h2⟩, h3⟩, h4⟩, h5⟩ := h
  refine ⟨t - 4000, ?_, ?_, h3, h4, eqFB_ok h5⟩
  · have : 4000 ≤ t := Nat.le_of_ble_eq_true h1
    exact (Nat.sub_add_cancel this).symm
  · unfold isStructD at h2
    split at h2
    · rename_i fs e
      unfold Program.fieldsOf
      rw [e]
    · simp at h2
def tOk (P : Program) (t : TypeId) (ti : TI) : Bool :=
  match ti with
  | .eqs ks => eqsB P t ks
  | _ =>
  match P.underlying t, P.info? t with
  | some d, some i => match ti with
    | .atom z => kindB d z && i.size == 1 && match i.zero with | some zv => constB z zv | none => false
    | .strct fs n z => match d with
      | .struct fields => i.size == n && (match i.zero with | some (.agg zvs) => all2B constB z zvs.toList | _ => false) && all2B (fieldB P) fs fields.toList
      | _ => false
    | .slice e m bytes z => match d with
      | .slice e' => e == e' && Nat.blt 0 m && Nat.ble bytes 131072 && (match P.info? e with
          | some ie => ie.size == m && ie.bytes == bytes && (match ie.zero with | some zv => all2B constB z zv.cells.toList | none => false)
          | none => false) && z.length == m && i.size == 1 && (match i.zero with | some zv => nilB zv | none => false)
      | _ => false
    | .map kk vk => match d with
      | .map kt et => (match P.underlying kt with | some dk => kindP kk dk | none => false) && (match P.underlying et with | some dv => kindP vk dv | none => false) && (match P.info? et with | some ie => (match ie.zero with | some zv => constB (zeroPK vk) zv | none => false) | none => false)
      | _ => false
    | .ifc => match d with
      | .interface _ => true
      | _ => false
    | .eqs _ => false
  | _, _ => false
theorem nilB_ok {v : Value} (h : nilB v = true) : v = .slice none 0 0 := by
  unfold nilB at h
  split at h
  · rfl
  · simp at h
theorem tOk_ok {P : Program} {t : TypeId} {ti : TI} (h : tOk P t ti = true) : TOk P t ti := by
  unfold tOk at h
  split at h
  · exact eqsB_ok h
  split at h
  · rename_i d i hd hi
    cases ti with
    | eqs ks => simp at h
    | ifc =>
      simp only at h
      split at h
      · exact ⟨_, hd⟩
      · simp at h
    | map kk vk =>
      simp only at h
      split at h
      · rename_i kt et
        simp only [Bool.and_eq_true] at h
        obtain ⟨⟨h1, h2⟩, h3⟩ := h
        split at h1
        · rename_i dk hdk
          split at h2
          · rename_i dv hdv
            split at h3
            · rename_i ie hie
              split at h3
              · rename_i zv hz
                exact ⟨kt, et, dk, dv, ie, zv, hd, hdk, h1, hdv, h2, hie, hz, h3⟩
              · simp at h3
            · simp at h3
          · simp at h2
        · simp at h1
      · simp at h
    | atom z =>
      simp only [Bool.and_eq_true, beq_iff_eq] at h
      obtain ⟨⟨h1, h2⟩, h3⟩ := h
      split at h3
      · rename_i zv hz; exact ⟨d, zv, i, hd, h1, hi, hz, h2, h3⟩
      · simp at h3
    | strct fs n z =>
      simp only at h
      split at h
      · rename_i fields
        simp only [Bool.and_eq_true, beq_iff_eq] at h
        obtain ⟨⟨h1, h2⟩, h3⟩ := h
        split at h2
        · rename_i zvs hz
          refine ⟨fields, i, zvs, hd, hi, h1, hz, all2B_ok (fun _ _ h => h) h2, all2B_ok (fun fi f hf => ?_) h3⟩
          unfold fieldB at hf
          simp only [Bool.and_eq_true, beq_iff_eq, Bool.not_eq_true', beq_eq_false_iff_ne] at hf
          obtain ⟨⟨f1, f2⟩, f3⟩ := hf
          split at f3
          · rename_i j d' hj hd'
            simp only [Bool.and_eq_true, beq_iff_eq] at f3
            exact ⟨f1, f2, j, d', hj, f3.1, hd', f3.2⟩
          · simp at f3
        · simp at h2
      · simp at h
    | slice e m bytes z =>
      simp only at h
      split at h
      · rename_i e'
        simp only [Bool.and_eq_true, beq_iff_eq] at h
        obtain ⟨⟨⟨⟨⟨⟨h1, h2⟩, h3⟩, h4⟩, h5⟩, h6⟩, h7⟩ := h
        subst h1
        split at h4
        · rename_i ie hie
          simp only [Bool.and_eq_true, beq_iff_eq] at h4
          obtain ⟨⟨k1, k2⟩, k3⟩ := h4
          split at k3
          · rename_i zv hz
            split at h7
            · rename_i zv' hz'
              exact ⟨hd, Nat.le_of_ble_eq_true h2, Nat.le_of_ble_eq_true h3, ⟨ie, zv, hie, k1, k2, hz, all2B_ok (fun _ _ h => h) k3, h5⟩, i, hi, h6, by rw [hz', nilB_ok h7]⟩
            · simp at h7
          · simp at k3
        · simp at h4
      · simp at h
  · simp at h
def look : List (Nat × TI) → Nat → Option TI
  | [], _ => none
  | p :: r, t => if p.1 = t then some p.2 else look r t
theorem tts_ok {P : Program} : ∀ (l : List (Nat × TI)), (l.all fun p => tOk P p.1 p.2) = true → ∀ t i, look l t = some i → TOk P t i
  | [], _, t, i, h => by simp [look] at h
  | p :: r, ha, t, i, h => by
    simp only [List.all_cons, Bool.and_eq_true] at ha
    simp only [look] at h
    split at h
    · rename_i e
      simp only [Option.some.injEq] at h
      subst h e
      exact tOk_ok ha.1
    · exact tts_ok r ha.2 t i h
end Go.Proofs.Ytfbonanbiblkbaa

namespace Go.Proofs.Ytfbonanbiblkbaa
open Go.RowKit
def ttL : List (Nat × TI) := [
  (2, .atom (.c (.int .i64 0))),
  (3, .atom (.c (.int .i64 0))),
  (4, .atom (.c (.bool false))),
  (5, .atom (.c (.int .u8 0))),
  (9, .atom (.c (.str ⟨#[]⟩))),
  (12, .atom (.c (.int .u64 0))),
  (14, .strct [⟨0, 1, false⟩, ⟨1, 1, false⟩] 2 [.c (.str ⟨#[]⟩), .c (.int .u64 0)]),
  (20, .ifc),
  (21, .atom (.c (.int .i32 0))),
  (22, .slice 5 1 1 [.c (.int .u8 0)]),
  (24, .slice 3 1 8 [.c (.int .i64 0)]),
  (35, .slice 49 3 56 [.c (.int .i64 0), .nil 3 1, .nil 3 1]),
  (37, .strct [⟨0, 1, false⟩, ⟨1, 1, false⟩] 2 [.c (.int .i64 0), .nil 49 3]),
  (39, .strct [⟨0, 2, true⟩, ⟨2, 1, false⟩, ⟨3, 1, false⟩] 4 [.c (.int .i64 0), .nil 49 3, .nil 3 1, .nil 3 1]),
  (49, .strct [⟨0, 1, false⟩, ⟨1, 1, false⟩, ⟨2, 1, false⟩] 3 [.c (.int .i64 0), .nil 3 1, .nil 3 1]),
  (52, .slice 24 1 24 [.nil 3 1]),
  (54, .slice 4 1 1 [.c (.bool false)]),
  (75, .strct [⟨0, 1, false⟩, ⟨1, 1, false⟩, ⟨2, 1, false⟩] 3 [.nil 5 1, .c (.int .i64 0), .c (.int .i64 0)]),
  (93, .slice 54 1 24 [.nil 4 1]),
  (98, .atom (.c (.int .u64 0))),
  (114, .atom (.c (.int .u32 0))),
  (116, .atom (.c (.int .u64 0)))]
def tt (t : Nat) : Option TI := look ttL t
theorem htt : ∀ t i, tt t = some i → TOk Try.prog t i := tts_ok ttL (by kernel_rfl)
theorem hmix : Try.prog.follows .mixedOrders = true := by kernel_rfl
def J0 : World → Prop := fun _ => True
def JF0 : Nat → Prop := fun _ => True
theorem hJ0 : JOk J0 JF0 := ⟨fun _ _ _ _ _ _ _ _ _ _ => trivial, fun _ _ _ _ => trivial⟩
def hdL : List (Nat × Nat) := [(35, 3), (36, 1), (38, 1), (39, 1), (40, 1), (43, 1), (66, 1), (67, 1), (69, 1), (71, 1), (72, 1)]
def hlook : List (Nat × Nat) → Nat → Nat
  | [], _ => 0
  | p :: r, f => match Nat.beq p.1 f with | true => p.2 | false => hlook r f
def hds (f : FuncId) : Nat := hlook hdL f
theorem hd_3 : (SC Try.prog J0 JF0 hds).hd 3 = 0 := _root_.id (by kernel_rfl)
theorem hd_4 : (SC Try.prog J0 JF0 hds).hd 4 = 0 := _root_.id (by kernel_rfl)
theorem hd_5 : (SC Try.prog J0 JF0 hds).hd 5 = 0 := _root_.id (by kernel_rfl)
theorem hd_6 : (SC Try.prog J0 JF0 hds).hd 6 = 0 := _root_.id (by kernel_rfl)
theorem hd_7 : (SC Try.prog J0 JF0 hds).hd 7 = 0 := _root_.id (by kernel_rfl)
theorem hd_8 : (SC Try.prog J0 JF0 hds).hd 8 = 0 := _root_.id (by kernel_rfl)
theorem hd_10 : (SC Try.prog J0 JF0 hds).hd 10 = 0 := _root_.id (by kernel_rfl)
theorem hd_11 : (SC Try.prog J0 JF0 hds).hd 11 = 0 := _root_.id (by kernel_rfl)
theorem hd_12 : (SC Try.prog J0 JF0 hds).hd 12 = 0 := _root_.id (by kernel_rfl)
theorem hd_13 : (SC Try.prog J0 JF0 hds).hd 13 = 0 := _root_.id (by kernel_rfl)
theorem hd_14 : (SC Try.prog J0 JF0 hds).hd 14 = 0 := _root_.id (by kernel_rfl)
theorem hd_15 : (SC Try.prog J0 JF0 hds).hd 15 = 0 := _root_.id (by kernel_rfl)
theorem hd_16 : (SC Try.prog J0 JF0 hds).hd 16 = 0 := _root_.id (by kernel_rfl)
theorem hd_17 : (SC Try.prog J0 JF0 hds).hd 17 = 0 := _root_.id (by kernel_rfl)
theorem hd_18 : (SC Try.prog J0 JF0 hds).hd 18 = 0 := _root_.id (by kernel_rfl)
theorem hd_19 : (SC Try.prog J0 JF0 hds).hd 19 = 0 := _root_.id (by kernel_rfl)
theorem hd_20 : (SC Try.prog J0 JF0 hds).hd 20 = 0 := _root_.id (by kernel_rfl)
theorem hd_21 : (SC Try.prog J0 JF0 hds).hd 21 = 0 := _root_.id (by kernel_rfl)
theorem hd_22 : (SC Try.prog J0 JF0 hds).hd 22 = 0 := _root_.id (by kernel_rfl)
theorem hd_23 : (SC Try.prog J0 JF0 hds).hd 23 = 0 := _root_.id (by kernel_rfl)
theorem hd_24 : (SC Try.prog J0 JF0 hds).hd 24 = 0 := _root_.id (by kernel_rfl)
theorem hd_25 : (SC Try.prog J0 JF0 hds).hd 25 = 0 := _root_.id (by kernel_rfl)
theorem hd_26 : (SC Try.prog J0 JF0 hds).hd 26 = 0 := _root_.id (by kernel_rfl)
theorem hd_27 : (SC Try.prog J0 JF0 hds).hd 27 = 0 := _root_.id (by kernel_rfl)
theorem hd_28 : (SC Try.prog J0 JF0 hds).hd 28 = 0 := _root_.id (by kernel_rfl)
theorem hd_29 : (SC Try.prog J0 JF0 hds).hd 29 = 0 := _root_.id (by kernel_rfl)
theorem hd_30 : (SC Try.prog J0 JF0 hds).hd 30 = 0 := _root_.id (by kernel_rfl)
theorem hd_31 : (SC Try.prog J0 JF0 hds).hd 31 = 0 := _root_.id (by kernel_rfl)
theorem hd_34 : (SC Try.prog J0 JF0 hds).hd 34 = 0 := _root_.id (by kernel_rfl)
theorem hd_35 : (SC Try.prog J0 JF0 hds).hd 35 = 3 := _root_.id (by kernel_rfl)
theorem hd_36 : (SC Try.prog J0 JF0 hds).hd 36 = 1 := _root_.id (by kernel_rfl)
theorem hd_37 : (SC Try.prog J0 JF0 hds).hd 37 = 0 := _root_.id (by kernel_rfl)
theorem hd_38 : (SC Try.prog J0 JF0 hds).hd 38 = 1 := _root_.id (by kernel_rfl)
theorem hd_39 : (SC Try.prog J0 JF0 hds).hd 39 = 1 := _root_.id (by kernel_rfl)
theorem hd_40 : (SC Try.prog J0 JF0 hds).hd 40 = 1 := _root_.id (by kernel_rfl)
theorem hd_41 : (SC Try.prog J0 JF0 hds).hd 41 = 0 := _root_.id (by kernel_rfl)
theorem hd_42 : (SC Try.prog J0 JF0 hds).hd 42 = 0 := _root_.id (by kernel_rfl)
theorem hd_43 : (SC Try.prog J0 JF0 hds).hd 43 = 1 := _root_.id (by kernel_rfl)
theorem hd_44 : (SC Try.prog J0 JF0 hds).hd 44 = 0 := _root_.id (by kernel_rfl)
theorem hd_45 : (SC Try.prog J0 JF0 hds).hd 45 = 0 := _root_.id (by kernel_rfl)
theorem hd_46 : (SC Try.prog J0 JF0 hds).hd 46 = 0 := _root_.id (by kernel_rfl)
theorem hd_47 : (SC Try.prog J0 JF0 hds).hd 47 = 0 := _root_.id (by kernel_rfl)
theorem hd_48 : (SC Try.prog J0 JF0 hds).hd 48 = 0 := _root_.id (by kernel_rfl)
theorem hd_49 : (SC Try.prog J0 JF0 hds).hd 49 = 0 := _root_.id (by kernel_rfl)
theorem hd_50 : (SC Try.prog J0 JF0 hds).hd 50 = 0 := _root_.id (by kernel_rfl)
theorem hd_51 : (SC Try.prog J0 JF0 hds).hd 51 = 0 := _root_.id (by kernel_rfl)
theorem hd_52 : (SC Try.prog J0 JF0 hds).hd 52 = 0 := _root_.id (by kernel_rfl)
theorem hd_53 : (SC Try.prog J0 JF0 hds).hd 53 = 0 := _root_.id (by kernel_rfl)
theorem hd_54 : (SC Try.prog J0 JF0 hds).hd 54 = 0 := _root_.id (by kernel_rfl)
theorem hd_55 : (SC Try.prog J0 JF0 hds).hd 55 = 0 := _root_.id (by kernel_rfl)
theorem hd_56 : (SC Try.prog J0 JF0 hds).hd 56 = 0 := _root_.id (by kernel_rfl)
theorem hd_57 : (SC Try.prog J0 JF0 hds).hd 57 = 0 := _root_.id (by kernel_rfl)
theorem hd_59 : (SC Try.prog J0 JF0 hds).hd 59 = 0 := _root_.id (by kernel_rfl)
theorem hd_60 : (SC Try.prog J0 JF0 hds).hd 60 = 0 := _root_.id (by kernel_rfl)
theorem hd_61 : (SC Try.prog J0 JF0 hds).hd 61 = 0 := _root_.id (by kernel_rfl)
theorem hd_63 : (SC Try.prog J0 JF0 hds).hd 63 = 0 := _root_.id (by kernel_rfl)
theorem hd_65 : (SC Try.prog J0 JF0 hds).hd 65 = 0 := _root_.id (by kernel_rfl)
theorem hd_66 : (SC Try.prog J0 JF0 hds).hd 66 = 1 := _root_.id (by kernel_rfl)
theorem hd_67 : (SC Try.prog J0 JF0 hds).hd 67 = 1 := _root_.id (by kernel_rfl)
theorem hd_69 : (SC Try.prog J0 JF0 hds).hd 69 = 1 := _root_.id (by kernel_rfl)
theorem hd_70 : (SC Try.prog J0 JF0 hds).hd 70 = 0 := _root_.id (by kernel_rfl)
theorem hd_71 : (SC Try.prog J0 JF0 hds).hd 71 = 1 := _root_.id (by kernel_rfl)
theorem hd_72 : (SC Try.prog J0 JF0 hds).hd 72 = 1 := _root_.id (by kernel_rfl)
theorem hd_73 : (SC Try.prog J0 JF0 hds).hd 73 = 0 := _root_.id (by kernel_rfl)
theorem hd_74 : (SC Try.prog J0 JF0 hds).hd 74 = 0 := _root_.id (by kernel_rfl)
theorem hd_75 : (SC Try.prog J0 JF0 hds).hd 75 = 0 := _root_.id (by kernel_rfl)
theorem hd_76 : (SC Try.prog J0 JF0 hds).hd 76 = 0 := _root_.id (by kernel_rfl)
theorem hd_77 : (SC Try.prog J0 JF0 hds).hd 77 = 0 := _root_.id (by kernel_rfl)
theorem hd_78 : (SC Try.prog J0 JF0 hds).hd 78 = 0 := _root_.id (by kernel_rfl)
theorem hd_84 : (SC Try.prog J0 JF0 hds).hd 84 = 0 := _root_.id (by kernel_rfl)
theorem hd_87 : (SC Try.prog J0 JF0 hds).hd 87 = 0 := _root_.id (by kernel_rfl)
theorem hd_88 : (SC Try.prog J0 JF0 hds).hd 88 = 0 := _root_.id (by kernel_rfl)
theorem hd_89 : (SC Try.prog J0 JF0 hds).hd 89 = 0 := _root_.id (by kernel_rfl)
theorem hd_101 : (SC Try.prog J0 JF0 hds).hd 101 = 0 := _root_.id (by kernel_rfl)
theorem hd_102 : (SC Try.prog J0 JF0 hds).hd 102 = 0 := _root_.id (by kernel_rfl)
theorem tt2 : tt 2 = some (.atom (.c (.int .i64 0))) := _root_.id rfl
theorem tt3 : tt 3 = some (.atom (.c (.int .i64 0))) := _root_.id rfl
theorem tt4 : tt 4 = some (.atom (.c (.bool false))) := _root_.id rfl
theorem tt5 : tt 5 = some (.atom (.c (.int .u8 0))) := _root_.id rfl
theorem tt9 : tt 9 = some (.atom (.c (.str ⟨#[]⟩))) := _root_.id rfl
theorem tt12 : tt 12 = some (.atom (.c (.int .u64 0))) := _root_.id rfl
theorem tt14 : tt 14 = some (.strct [⟨0, 1, false⟩, ⟨1, 1, false⟩] 2 [.c (.str ⟨#[]⟩), .c (.int .u64 0)]) := _root_.id rfl
theorem tt20 : tt 20 = some (.ifc) := _root_.id rfl
theorem tt21 : tt 21 = some (.atom (.c (.int .i32 0))) := _root_.id rfl
theorem tt22 : tt 22 = some (.slice 5 1 1 [.c (.int .u8 0)]) := _root_.id rfl
theorem tt24 : tt 24 = some (.slice 3 1 8 [.c (.int .i64 0)]) := _root_.id rfl
theorem tt35 : tt 35 = some (.slice 49 3 56 [.c (.int .i64 0), .nil 3 1, .nil 3 1]) := _root_.id rfl
theorem tt37 : tt 37 = some (.strct [⟨0, 1, false⟩, ⟨1, 1, false⟩] 2 [.c (.int .i64 0), .nil 49 3]) := _root_.id rfl
theorem tt39 : tt 39 = some (.strct [⟨0, 2, true⟩, ⟨2, 1, false⟩, ⟨3, 1, false⟩] 4 [.c (.int .i64 0), .nil 49 3, .nil 3 1, .nil 3 1]) := _root_.id rfl
theorem tt49 : tt 49 = some (.strct [⟨0, 1, false⟩, ⟨1, 1, false⟩, ⟨2, 1, false⟩] 3 [.c (.int .i64 0), .nil 3 1, .nil 3 1]) := _root_.id rfl
theorem tt52 : tt 52 = some (.slice 24 1 24 [.nil 3 1]) := _root_.id rfl
theorem tt54 : tt 54 = some (.slice 4 1 1 [.c (.bool false)]) := _root_.id rfl
theorem tt75 : tt 75 = some (.strct [⟨0, 1, false⟩, ⟨1, 1, false⟩, ⟨2, 1, false⟩] 3 [.nil 5 1, .c (.int .i64 0), .c (.int .i64 0)]) := _root_.id rfl
theorem tt93 : tt 93 = some (.slice 54 1 24 [.nil 4 1]) := _root_.id rfl
theorem tt98 : tt 98 = some (.atom (.c (.int .u64 0))) := _root_.id rfl
theorem tt114 : tt 114 = some (.atom (.c (.int .u32 0))) := _root_.id rfl
theorem tt116 : tt 116 = some (.atom (.c (.int .u64 0))) := _root_.id rfl
theorem fnk {f : FuncId} {fn : Func} {c : Code} {args : List (Bool × List CT)} {res : List RT} (hf : Try.prog.funcs[f]? = some fn) (hname : (fn.name == "runtime.NumGoroutine") = false) (hb : fn.body = some c) (hok : codeOk tt hds false fn.ntmps c = true) (hlen : Nat.ble args.length fn.ntmps = true) (h : fnS tt (SC Try.prog J0 JF0 hds) fn.results.toList c args res) : Sound Try.prog J0 f args res := fn_sound htt hJ0 hmix hf hname hb hok hlen h
theorem fnh {f : FuncId} {fn : Func} {c : Code} {h h' : Hand} {args : List (Bool × List CT)} {res : List RT} (hf : Try.prog.funcs[f]? = some fn) (hname : (fn.name == "runtime.NumGoroutine") = false) (hb : fn.body = some c) (hok : codeOk tt hds true fn.ntmps c = true) (hlen : Nat.blt args.length fn.ntmps = true) (hh : fnH tt (SC Try.prog J0 JF0 hds) fn.results.toList c h args res h') : SoundH Try.prog J0 JF0 f h args res h' := fn_soundH htt hJ0 hmix hf hname hb hok hlen hh
theorem fnb {f : FuncId} {fn : Func} {c : Code} {args : List (Bool × List CT)} {t : Nat} {cs : List CT} (hf : Try.prog.funcs[f]? = some fn) (hname : (fn.name == "runtime.NumGoroutine") = false) (hb : fn.body = some c) (hok : codeOk tt hds false fn.ntmps c = true) (hlen : Nat.ble args.length fn.ntmps = true) (h : fnB tt (SC Try.prog J0 JF0 hds) fn.results.toList c args t cs) : SoundB Try.prog J0 f args t cs := fn_soundB htt hJ0 hmix hf hname hb hok hlen h
def eReason (x : ReasonD) : List CT := [.int .i64 x.for_, .sl 3 1 (List.map eInt x.inn), .sl 3 1 (List.map eInt x.outs)]
theorem eReason_eq (x : ReasonD) : eReason x = [.int .i64 x.for_, .sl 3 1 (List.map eInt x.inn), .sl 3 1 (List.map eInt x.outs)] := _root_.id rfl
def eBeliefs (x : BeliefsD) : List CT := [.int .i64 x.nodes, .sl 49 3 (List.map eReason x.reasons)]
theorem eBeliefs_eq (x : BeliefsD) : eBeliefs x = [.int .i64 x.nodes, .sl 49 3 (List.map eReason x.reasons)] := _root_.id rfl
def eFrame (x : FrameD) : List CT := [.int .i64 x.beliefs.nodes, .sl 49 3 (List.map eReason x.beliefs.reasons), .sl 3 1 (List.map eInt x.assumed), .sl 3 1 (List.map eInt x.bad)]
theorem eFrame_eq (x : FrameD) : eFrame x = [.int .i64 x.beliefs.nodes, .sl 49 3 (List.map eReason x.beliefs.reasons), .sl 3 1 (List.map eInt x.assumed), .sl 3 1 (List.map eInt x.bad)] := _root_.id rfl
def el1Cur (x : l1CurD) : List CT := [.sl 5 1 (List.map eByte x.b), .int .i64 x.i, .int .i64 x.h]
theorem el1Cur_eq (x : l1CurD) : el1Cur x = [.sl 5 1 (List.map eByte x.b), .int .i64 x.i, .int .i64 x.h] := _root_.id rfl
def eSlInt_3 (x : (List Int)) : List CT := [.sl 3 1 (List.map eInt x)]
theorem eSlInt_3_eq (x : (List Int)) : eSlInt_3 x = [.sl 3 1 (List.map eInt x)] := _root_.id rfl
def eSlBool_4 (x : (List Bool)) : List CT := [.sl 4 1 (List.map eBool x)]
theorem eSlBool_4_eq (x : (List Bool)) : eSlBool_4 x = [.sl 4 1 (List.map eBool x)] := _root_.id rfl
attribute [go_sem] tt2 tt3 tt4 tt5 tt9 tt12 tt14 tt20 tt21 tt22 tt24 tt35 tt37 tt39 tt49 tt52 tt54 tt75 tt93 tt98 tt114 tt116 hd_3 hd_4 hd_5 hd_6 hd_7 hd_8 hd_10 hd_11 hd_12 hd_13 hd_14 hd_15 hd_16 hd_17 hd_18 hd_19 hd_20 hd_21
attribute [go_sem] hd_22 hd_23 hd_24 hd_25 hd_26 hd_27 hd_28 hd_29 hd_30 hd_31 hd_34 hd_35 hd_36 hd_37 hd_38 hd_39 hd_40 hd_41 hd_42 hd_43 hd_44 hd_45 hd_46 hd_47 hd_48 hd_49 hd_50 hd_51 hd_52 hd_53 hd_54 hd_55 hd_56 hd_57 hd_59 hd_60 hd_61 hd_63 hd_65 hd_66
attribute [go_sem] hd_67 hd_69 hd_70 hd_71 hd_72 hd_73 hd_74 hd_75 hd_76 hd_77 hd_78 hd_84 hd_87 hd_88 hd_89 hd_101 hd_102 eReason_eq eBeliefs_eq eFrame_eq el1Cur_eq eSlInt_3_eq eSlBool_4_eq
end Go.Proofs.Ytfbonanbiblkbaa

namespace Go.Proofs.Ytfbonanbiblkbaa
open Go.Proofs.Try
set_option linter.unusedSimpArgs false
set_option linter.unusedVariables false
set_option maxRecDepth 1000000
set_option maxHeartbeats 4000000
theorem w_big_ok {code_0 : (List Int)} {r : Bool} (h : w_big code_0 = some r) : Sound Try.prog J0 10 [(false, [.sl 5 1 (List.map eByte code_0)])] [(false, [(false, .bool r)])] := by
  refine fnk Try.func10 (by kernel_rfl) rfl (by kernel_rfl) (by kernel_rfl) ?_
  unfold w_big at h
  simp only [fnS, f10, argSt, go_sem, Int.reduceLT, Int.reduceLE, Int.reduceBEq, Int.reduceBNe, Nat.reduceBNe, Nat.reduceAdd, Nat.reduceMul, Nat.reduceEqDiff, Nat.reduceLeDiff, Nat.reduceLT, Nat.reduceBEq, reduceCtorEq, reduceIte]
  obtain rfl := Option.some.inj h
  try simp only [go_sem, Int.reduceLT, Int.reduceLE, Int.reduceBEq, Int.reduceBNe, Nat.reduceBNe, Nat.reduceAdd, Nat.reduceMul, Nat.reduceEqDiff, Nat.reduceLeDiff, Nat.reduceLT, Nat.reduceBEq, reduceCtorEq, reduceIte]
theorem s_l1New_ok {code_0 : (List Int)} {r : l1CurD} (h : s_l1New code_0 = some r) : SoundB Try.prog J0 35 [(false, [.sl 5 1 (List.map eByte code_0)])] 75 (el1Cur r) := by
  refine fnb Try.func35 (by kernel_rfl) rfl (by kernel_rfl) (by kernel_rfl) ?_
  unfold s_l1New at h
  simp only [fnB, f35, argSt, go_sem, Int.reduceLT, Int.reduceLE, Int.reduceBEq, Int.reduceBNe, Nat.reduceBNe, Nat.reduceAdd, Nat.reduceMul, Nat.reduceEqDiff, Nat.reduceLeDiff, Nat.reduceLT, Nat.reduceBEq, reduceCtorEq, reduceIte]
  refine swp_for h (fun i h_2 st => IV [(0, .p false [.c (.sl 5 1 (List.map eByte code_0))]), (3, .p false [.c (.int .i64 h_2)]), (4, .p false [.c (.int .i64 ((i : Nat) : Int))])] [] st) [] [] (by decide) ?_ ?_ ?_
  · simp only [go_sem, Int.reduceLT, Int.reduceLE, Int.reduceBEq, Int.reduceBNe, Nat.reduceBNe, Nat.reduceAdd, Nat.reduceMul, Nat.reduceEqDiff, Nat.reduceLeDiff, Nat.reduceLT, Nat.reduceBEq, reduceCtorEq, reduceIte, IV, sts_cons, sts_nil, obs_cons, obs_nil]
  · rintro i5 x6 h_2 ⟨sl, ob, n⟩ y1 hx2 hI3 hW4 h hy1
    simp only [IV, sts_cons, sts_nil, obs_cons, obs_nil, and_true, true_and, Nat.reduceAdd, str_len] at hI3
    obtain ⟨⟨g5_0, g5_3, g5_4⟩, hn⟩ := hI3
    subst hn
    have hlhx2 := WF.slotL hW4 g5_0 (j := 0) rfl
    try simp only [go_sem, Int.reduceLT, Int.reduceLE, Int.reduceBEq, Int.reduceBNe, Nat.reduceBNe, Nat.reduceAdd, Nat.reduceMul, Nat.reduceEqDiff, Nat.reduceLeDiff, Nat.reduceLT, Nat.reduceBEq, reduceCtorEq, reduceIte, hx2, lt_t hx2, lt_p hx2, nat_in (lt_n hx2) hlhx2, g5_0, g5_3, g5_4]
    refine ite_K h (fun c6 h => ?_) (fun c6 h => ?_)
    · try simp only [go_sem, Int.reduceLT, Int.reduceLE, Int.reduceBEq, Int.reduceBNe, Nat.reduceBNe, Nat.reduceAdd, Nat.reduceMul, Nat.reduceEqDiff, Nat.reduceLeDiff, Nat.reduceLT, Nat.reduceBEq, reduceCtorEq, reduceIte, hx2, lt_t hx2, lt_p hx2, nat_in (lt_n hx2) hlhx2, c6, g5_0, g5_3, g5_4]
      refine ⟨_, [], [], (Option.some.inj h).symm, by decide, ?_⟩
      try simp only [go_sem, Int.reduceLT, Int.reduceLE, Int.reduceBEq, Int.reduceBNe, Nat.reduceBNe, Nat.reduceAdd, Nat.reduceMul, Nat.reduceEqDiff, Nat.reduceLeDiff, Nat.reduceLT, Nat.reduceBEq, reduceCtorEq, reduceIte, hx2, lt_t hx2, lt_p hx2, nat_in (lt_n hx2) hlhx2, c6, g5_0, g5_3, g5_4, IV, sts_cons, sts_nil, obs_cons, obs_nil]
    · replace h := inr_K h hy1
      obtain rfl := Option.some.inj h
      try simp only [go_sem, Int.reduceLT, Int.reduceLE, Int.reduceBEq, Int.reduceBNe, Nat.reduceBNe, Nat.reduceAdd, Nat.reduceMul, Nat.reduceEqDiff, Nat.reduceLeDiff, Nat.reduceLT, Nat.reduceBEq, reduceCtorEq, reduceIte, hx2, lt_t hx2, lt_p hx2, nat_in (lt_n hx2) hlhx2, c6, g5_0, g5_3, g5_4]
  · rintro h_2 ⟨sl, ob, n⟩ hI7 hW8 h
    simp only [IV, sts_cons, sts_nil, obs_cons, obs_nil, and_true, true_and, Nat.reduceAdd, str_len] at hI7
    obtain ⟨⟨g9_0, g9_3, g9_4⟩, hn⟩ := hI7
    subst hn
    obtain rfl := Option.some.inj h
    try simp only [go_sem, Int.reduceLT, Int.reduceLE, Int.reduceBEq, Int.reduceBNe, Nat.reduceBNe, Nat.reduceAdd, Nat.reduceMul, Nat.reduceEqDiff, Nat.reduceLeDiff, Nat.reduceLT, Nat.reduceBEq, reduceCtorEq, reduceIte, lt_f (code_0.length), g9_0, g9_3, g9_4]
theorem s_l1Byte_ok {c_0 : l1CurD} {r : (Int × l1CurD)} (h : s_l1Byte c_0 = some r) : SoundH Try.prog J0 JF0 69 (.box 75 (el1Cur c_0)) [] [(false, [(false, .int .i64 r.1)])] (.box 75 (el1Cur r.2)) := by
  refine fnh Try.func69 (by kernel_rfl) rfl (by kernel_rfl) (by kernel_rfl) ?_
  unfold s_l1Byte at h
  have kn0 : ¬ ((35 : Int) < 0) := by decide
  have kn1 : ¬ ((45 : Int) < 0) := by decide
  simp only [fnH, f69, handSt, handSV, handOb, go_sem, Int.reduceLT, Int.reduceLE, Int.reduceBEq, Int.reduceBNe, Nat.reduceBNe, Nat.reduceAdd, Nat.reduceMul, Nat.reduceEqDiff, Nat.reduceLeDiff, Nat.reduceLT, Nat.reduceBEq, reduceCtorEq, reduceIte, kn0, kn1]
  refine ite_K h (fun c1 h => ?_) (fun c1 h => ?_)
  · obtain ⟨x1, a2, a3, e4, h⟩ := at_K h
    obtain rfl := Option.some.inj h
    try simp only [go_sem, Int.reduceLT, Int.reduceLE, Int.reduceBEq, Int.reduceBNe, Nat.reduceBNe, Nat.reduceAdd, Nat.reduceMul, Nat.reduceEqDiff, Nat.reduceLeDiff, Nat.reduceLT, Nat.reduceBEq, reduceCtorEq, reduceIte, kn0, kn1, c1, a2, a3, e4]
  · obtain rfl := Option.some.inj h
    try simp only [go_sem, Int.reduceLT, Int.reduceLE, Int.reduceBEq, Int.reduceBNe, Nat.reduceBNe, Nat.reduceAdd, Nat.reduceMul, Nat.reduceEqDiff, Nat.reduceLeDiff, Nat.reduceLT, Nat.reduceBEq, reduceCtorEq, reduceIte, kn0, kn1, c1]
theorem w_ints_ok {a_0 : (List Int)} {b_1 : (List Int)} {r : Bool} (h : w_ints a_0 b_1 = some r) : Sound Try.prog J0 13 [(false, [.sl 3 1 (List.map eInt a_0)]), (false, [.sl 3 1 (List.map eInt b_1)])] [(false, [(false, .bool r)])] := by
  refine fnk Try.func13 (by kernel_rfl) rfl (by kernel_rfl) (by kernel_rfl) ?_
  unfold w_ints at h
  simp only [fnS, f13, argSt, go_sem, Int.reduceLT, Int.reduceLE, Int.reduceBEq, Int.reduceBNe, Nat.reduceBNe, Nat.reduceAdd, Nat.reduceMul, Nat.reduceEqDiff, Nat.reduceLeDiff, Nat.reduceLT, Nat.reduceBEq, reduceCtorEq, reduceIte]
  refine ite_K h (fun c1 h => ?_) (fun c1 h => ?_)
  · obtain rfl := Option.some.inj h
    try simp only [go_sem, Int.reduceLT, Int.reduceLE, Int.reduceBEq, Int.reduceBNe, Nat.reduceBNe, Nat.reduceAdd, Nat.reduceMul, Nat.reduceEqDiff, Nat.reduceLeDiff, Nat.reduceLT, Nat.reduceBEq, reduceCtorEq, reduceIte, c1]
  · try simp only [go_sem, Int.reduceLT, Int.reduceLE, Int.reduceBEq, Int.reduceBNe, Nat.reduceBNe, Nat.reduceAdd, Nat.reduceMul, Nat.reduceEqDiff, Nat.reduceLeDiff, Nat.reduceLT, Nat.reduceBEq, reduceCtorEq, reduceIte, c1]
    refine swp_for h (fun i _ st => IV [(0, .p false [.c (.sl 3 1 (List.map eInt a_0))]), (1, .p false [.c (.sl 3 1 (List.map eInt b_1))]), (5, .p false [.c (.int .i64 ((i : Nat) : Int))])] [] st) [] [] (by decide) ?_ ?_ ?_
    · simp only [go_sem, Int.reduceLT, Int.reduceLE, Int.reduceBEq, Int.reduceBNe, Nat.reduceBNe, Nat.reduceAdd, Nat.reduceMul, Nat.reduceEqDiff, Nat.reduceLeDiff, Nat.reduceLT, Nat.reduceBEq, reduceCtorEq, reduceIte, IV, sts_cons, sts_nil, obs_cons, obs_nil, c1]
    · rintro i6 x7 ⟨⟩ ⟨sl, ob, n⟩ y2 hx3 hI4 hW5 h hy2
      simp only [IV, sts_cons, sts_nil, obs_cons, obs_nil, and_true, true_and, Nat.reduceAdd, str_len] at hI4
      obtain ⟨⟨g6_0, g6_1, g6_5⟩, hn⟩ := hI4
      subst hn
      have hlhx3 := WF.slotL hW5 g6_0 (j := 0) rfl
      obtain ⟨x8, a7, a8, e9, h⟩ := at_K h
      simp only [Int.toNat_natCast] at e9
      try simp only [go_sem, Int.reduceLT, Int.reduceLE, Int.reduceBEq, Int.reduceBNe, Nat.reduceBNe, Nat.reduceAdd, Nat.reduceMul, Nat.reduceEqDiff, Nat.reduceLeDiff, Nat.reduceLT, Nat.reduceBEq, reduceCtorEq, reduceIte, c1, hx3, lt_t hx3, lt_p hx3, nat_in (lt_n hx3) hlhx3, a7, a8, e9, g6_0, g6_1, g6_5]
      refine ite_K h (fun c10 h => ?_) (fun c10 h => ?_)
      · replace h := inr_K h hy2
        obtain rfl := Option.some.inj h
        try simp only [go_sem, Int.reduceLT, Int.reduceLE, Int.reduceBEq, Int.reduceBNe, Nat.reduceBNe, Nat.reduceAdd, Nat.reduceMul, Nat.reduceEqDiff, Nat.reduceLeDiff, Nat.reduceLT, Nat.reduceBEq, reduceCtorEq, reduceIte, c1, hx3, lt_t hx3, lt_p hx3, nat_in (lt_n hx3) hlhx3, a7, a8, e9, c10, g6_0, g6_1, g6_5]
      · try simp only [go_sem, Int.reduceLT, Int.reduceLE, Int.reduceBEq, Int.reduceBNe, Nat.reduceBNe, Nat.reduceAdd, Nat.reduceMul, Nat.reduceEqDiff, Nat.reduceLeDiff, Nat.reduceLT, Nat.reduceBEq, reduceCtorEq, reduceIte, c1, hx3, lt_t hx3, lt_p hx3, nat_in (lt_n hx3) hlhx3, a7, a8, e9, c10, g6_0, g6_1, g6_5]
        refine ⟨_, [], [], (Option.some.inj h).symm, by decide, ?_⟩
        try simp only [go_sem, Int.reduceLT, Int.reduceLE, Int.reduceBEq, Int.reduceBNe, Nat.reduceBNe, Nat.reduceAdd, Nat.reduceMul, Nat.reduceEqDiff, Nat.reduceLeDiff, Nat.reduceLT, Nat.reduceBEq, reduceCtorEq, reduceIte, c1, hx3, lt_t hx3, lt_p hx3, nat_in (lt_n hx3) hlhx3, a7, a8, e9, c10, g6_0, g6_1, g6_5, IV, sts_cons, sts_nil, obs_cons, obs_nil]
    · rintro ⟨⟩ ⟨sl, ob, n⟩ hI11 hW12 h
      simp only [IV, sts_cons, sts_nil, obs_cons, obs_nil, and_true, true_and, Nat.reduceAdd, str_len] at hI11
      obtain ⟨⟨g13_0, g13_1, g13_5⟩, hn⟩ := hI11
      subst hn
      obtain rfl := Option.some.inj h
      try simp only [go_sem, Int.reduceLT, Int.reduceLE, Int.reduceBEq, Int.reduceBNe, Nat.reduceBNe, Nat.reduceAdd, Nat.reduceMul, Nat.reduceEqDiff, Nat.reduceLeDiff, Nat.reduceLT, Nat.reduceBEq, reduceCtorEq, reduceIte, c1, lt_f (a_0.length), g13_0, g13_1, g13_5]
theorem i_IsPart_ok {a_0 : Int} {b_1 : Int} {r : Bool} (h : i_IsPart a_0 b_1 = some r) : Sound Try.prog J0 16 [(false, [.int .i64 a_0]), (false, [.int .i64 b_1])] [(false, [(false, .bool r)])] := by
  refine fnk Try.func16 (by kernel_rfl) rfl (by kernel_rfl) (by kernel_rfl) ?_
  unfold i_IsPart at h
  simp only [fnS, f16, argSt, go_sem, Int.reduceLT, Int.reduceLE, Int.reduceBEq, Int.reduceBNe, Nat.reduceBNe, Nat.reduceAdd, Nat.reduceMul, Nat.reduceEqDiff, Nat.reduceLeDiff, Nat.reduceLT, Nat.reduceBEq, reduceCtorEq, reduceIte]
  refine ite_K h (fun c1 h => ?_) (fun c1 h => ?_)
  · try simp only [go_sem, Int.reduceLT, Int.reduceLE, Int.reduceBEq, Int.reduceBNe, Nat.reduceBNe, Nat.reduceAdd, Nat.reduceMul, Nat.reduceEqDiff, Nat.reduceLeDiff, Nat.reduceLT, Nat.reduceBEq, reduceCtorEq, reduceIte, c1]
    refine ite_K h (fun c2 h => ?_) (fun c2 h => ?_)
    · obtain rfl := Option.some.inj h
      try simp only [go_sem, Int.reduceLT, Int.reduceLE, Int.reduceBEq, Int.reduceBNe, Nat.reduceBNe, Nat.reduceAdd, Nat.reduceMul, Nat.reduceEqDiff, Nat.reduceLeDiff, Nat.reduceLT, Nat.reduceBEq, reduceCtorEq, reduceIte, c1, c2]
    · obtain rfl := Option.some.inj h
      try simp only [go_sem, Int.reduceLT, Int.reduceLE, Int.reduceBEq, Int.reduceBNe, Nat.reduceBNe, Nat.reduceAdd, Nat.reduceMul, Nat.reduceEqDiff, Nat.reduceLeDiff, Nat.reduceLT, Nat.reduceBEq, reduceCtorEq, reduceIte, c1, c2]
  · obtain rfl := Option.some.inj h
    try simp only [go_sem, Int.reduceLT, Int.reduceLE, Int.reduceBEq, Int.reduceBNe, Nat.reduceBNe, Nat.reduceAdd, Nat.reduceMul, Nat.reduceEqDiff, Nat.reduceLeDiff, Nat.reduceLT, Nat.reduceBEq, reduceCtorEq, reduceIte, c1]
theorem i_hasInt_ok {l_0 : (List Int)} {n_1 : Int} {r : Bool} (h : i_hasInt l_0 n_1 = some r) : Sound Try.prog J0 37 [(false, [.sl 3 1 (List.map eInt l_0)]), (false, [.int .i64 n_1])] [(false, [(false, .bool r)])] := by
  refine fnk Try.func37 (by kernel_rfl) rfl (by kernel_rfl) (by kernel_rfl) ?_
  unfold i_hasInt at h
  simp only [fnS, f37, argSt, go_sem, Int.reduceLT, Int.reduceLE, Int.reduceBEq, Int.reduceBNe, Nat.reduceBNe, Nat.reduceAdd, Nat.reduceMul, Nat.reduceEqDiff, Nat.reduceLeDiff, Nat.reduceLT, Nat.reduceBEq, reduceCtorEq, reduceIte]
  refine swp_for h (fun i _ st => IV [(1, .p false [.c (.int .i64 n_1)]), (7, .p false [.c (.sl 3 1 (List.map eInt l_0))]), (8, .p false [.c (.int .i64 ((l_0.length : Nat) : Int))]), (9, .p false [.c (.int .i64 ((i : Nat) : Int))])] [] st) [] [] (by decide) ?_ ?_ ?_
  · simp only [go_sem, Int.reduceLT, Int.reduceLE, Int.reduceBEq, Int.reduceBNe, Nat.reduceBNe, Nat.reduceAdd, Nat.reduceMul, Nat.reduceEqDiff, Nat.reduceLeDiff, Nat.reduceLT, Nat.reduceBEq, reduceCtorEq, reduceIte, IV, sts_cons, sts_nil, obs_cons, obs_nil]
  · rintro i4 x5 ⟨⟩ ⟨sl, ob, n⟩ y1 hx2 hI3 hW4 h hy1
    simp only [IV, sts_cons, sts_nil, obs_cons, obs_nil, and_true, true_and, Nat.reduceAdd, str_len] at hI3
    obtain ⟨⟨g5_1, g5_7, g5_8, g5_9⟩, hn⟩ := hI3
    subst hn
    have hlhx2 := WF.slotL hW4 g5_7 (j := 0) rfl
    try simp only [go_sem, Int.reduceLT, Int.reduceLE, Int.reduceBEq, Int.reduceBNe, Nat.reduceBNe, Nat.reduceAdd, Nat.reduceMul, Nat.reduceEqDiff, Nat.reduceLeDiff, Nat.reduceLT, Nat.reduceBEq, reduceCtorEq, reduceIte, hx2, lt_t hx2, lt_p hx2, nat_in (lt_n hx2) hlhx2, g5_1, g5_7, g5_8, g5_9]
    refine ite_K h (fun c6 h => ?_) (fun c6 h => ?_)
    · replace h := inr_K h hy1
      obtain rfl := Option.some.inj h
      try simp only [go_sem, Int.reduceLT, Int.reduceLE, Int.reduceBEq, Int.reduceBNe, Nat.reduceBNe, Nat.reduceAdd, Nat.reduceMul, Nat.reduceEqDiff, Nat.reduceLeDiff, Nat.reduceLT, Nat.reduceBEq, reduceCtorEq, reduceIte, hx2, lt_t hx2, lt_p hx2, nat_in (lt_n hx2) hlhx2, c6, g5_1, g5_7, g5_8, g5_9]
    · try simp only [go_sem, Int.reduceLT, Int.reduceLE, Int.reduceBEq, Int.reduceBNe, Nat.reduceBNe, Nat.reduceAdd, Nat.reduceMul, Nat.reduceEqDiff, Nat.reduceLeDiff, Nat.reduceLT, Nat.reduceBEq, reduceCtorEq, reduceIte, hx2, lt_t hx2, lt_p hx2, nat_in (lt_n hx2) hlhx2, c6, g5_1, g5_7, g5_8, g5_9]
      refine ⟨_, [], [], (Option.some.inj h).symm, by decide, ?_⟩
      try simp only [go_sem, Int.reduceLT, Int.reduceLE, Int.reduceBEq, Int.reduceBNe, Nat.reduceBNe, Nat.reduceAdd, Nat.reduceMul, Nat.reduceEqDiff, Nat.reduceLeDiff, Nat.reduceLT, Nat.reduceBEq, reduceCtorEq, reduceIte, hx2, lt_t hx2, lt_p hx2, nat_in (lt_n hx2) hlhx2, c6, g5_1, g5_7, g5_8, g5_9, IV, sts_cons, sts_nil, obs_cons, obs_nil]
  · rintro ⟨⟩ ⟨sl, ob, n⟩ hI7 hW8 h
    simp only [IV, sts_cons, sts_nil, obs_cons, obs_nil, and_true, true_and, Nat.reduceAdd, str_len] at hI7
    obtain ⟨⟨g9_1, g9_7, g9_8, g9_9⟩, hn⟩ := hI7
    subst hn
    obtain rfl := Option.some.inj h
    try simp only [go_sem, Int.reduceLT, Int.reduceLE, Int.reduceBEq, Int.reduceBNe, Nat.reduceBNe, Nat.reduceAdd, Nat.reduceMul, Nat.reduceEqDiff, Nat.reduceLeDiff, Nat.reduceLT, Nat.reduceBEq, reduceCtorEq, reduceIte, lt_f (l_0.length), g9_1, g9_7, g9_8, g9_9]
theorem s_l1In_ok {x_0 : Int} {least_1 : Int} {most_2 : Int} {r : Bool} (h : s_l1In x_0 least_1 most_2 = some r) : Sound Try.prog J0 41 [(false, [.int .i64 x_0]), (false, [.int .i64 least_1]), (false, [.int .i64 most_2])] [(false, [(false, .bool r)])] := by
  refine fnk Try.func41 (by kernel_rfl) rfl (by kernel_rfl) (by kernel_rfl) ?_
  unfold s_l1In at h
  simp only [fnS, f41, argSt, go_sem, Int.reduceLT, Int.reduceLE, Int.reduceBEq, Int.reduceBNe, Nat.reduceBNe, Nat.reduceAdd, Nat.reduceMul, Nat.reduceEqDiff, Nat.reduceLeDiff, Nat.reduceLT, Nat.reduceBEq, reduceCtorEq, reduceIte]
  refine ite_K h (fun c1 h => ?_) (fun c1 h => ?_)
  · obtain rfl := Option.some.inj h
    try simp only [go_sem, Int.reduceLT, Int.reduceLE, Int.reduceBEq, Int.reduceBNe, Nat.reduceBNe, Nat.reduceAdd, Nat.reduceMul, Nat.reduceEqDiff, Nat.reduceLeDiff, Nat.reduceLT, Nat.reduceBEq, reduceCtorEq, reduceIte, c1]
  · obtain rfl := Option.some.inj h
    try simp only [go_sem, Int.reduceLT, Int.reduceLE, Int.reduceBEq, Int.reduceBNe, Nat.reduceBNe, Nat.reduceAdd, Nat.reduceMul, Nat.reduceEqDiff, Nat.reduceLeDiff, Nat.reduceLT, Nat.reduceBEq, reduceCtorEq, reduceIte, c1]
theorem s_IsPart_ok {a_0 : Int} {b_1 : Int} {r : Bool} (h : s_IsPart a_0 b_1 = some r) : Sound Try.prog J0 55 [(false, [.int .i64 a_0]), (false, [.int .i64 b_1])] [(false, [(false, .bool r)])] := by
  refine fnk Try.func55 (by kernel_rfl) rfl (by kernel_rfl) (by kernel_rfl) ?_
  unfold s_IsPart at h
  simp only [fnS, f55, argSt, go_sem, Int.reduceLT, Int.reduceLE, Int.reduceBEq, Int.reduceBNe, Nat.reduceBNe, Nat.reduceAdd, Nat.reduceMul, Nat.reduceEqDiff, Nat.reduceLeDiff, Nat.reduceLT, Nat.reduceBEq, reduceCtorEq, reduceIte]
  refine ite_K h (fun c1 h => ?_) (fun c1 h => ?_)
  · try simp only [go_sem, Int.reduceLT, Int.reduceLE, Int.reduceBEq, Int.reduceBNe, Nat.reduceBNe, Nat.reduceAdd, Nat.reduceMul, Nat.reduceEqDiff, Nat.reduceLeDiff, Nat.reduceLT, Nat.reduceBEq, reduceCtorEq, reduceIte, c1]
    refine ite_K h (fun c2 h => ?_) (fun c2 h => ?_)
    · obtain rfl := Option.some.inj h
      try simp only [go_sem, Int.reduceLT, Int.reduceLE, Int.reduceBEq, Int.reduceBNe, Nat.reduceBNe, Nat.reduceAdd, Nat.reduceMul, Nat.reduceEqDiff, Nat.reduceLeDiff, Nat.reduceLT, Nat.reduceBEq, reduceCtorEq, reduceIte, c1, c2]
    · obtain rfl := Option.some.inj h
      try simp only [go_sem, Int.reduceLT, Int.reduceLE, Int.reduceBEq, Int.reduceBNe, Nat.reduceBNe, Nat.reduceAdd, Nat.reduceMul, Nat.reduceEqDiff, Nat.reduceLeDiff, Nat.reduceLT, Nat.reduceBEq, reduceCtorEq, reduceIte, c1, c2]
  · obtain rfl := Option.some.inj h
    try simp only [go_sem, Int.reduceLT, Int.reduceLE, Int.reduceBEq, Int.reduceBNe, Nat.reduceBNe, Nat.reduceAdd, Nat.reduceMul, Nat.reduceEqDiff, Nat.reduceLeDiff, Nat.reduceLT, Nat.reduceBEq, reduceCtorEq, reduceIte, c1]
theorem s_l13Put_ok {l_0 : (List Int)} {x_1 : Int} {r : (List Int)} (h : s_l13Put l_0 x_1 = some r) : Sound Try.prog J0 70 [(false, [.sl 3 1 (List.map eInt l_0)]), (false, [.int .i64 x_1])] [(false, [(false, .sl 3 1 (List.map eInt r))])] := by
  refine fnk Try.func70 (by kernel_rfl) rfl (by kernel_rfl) (by kernel_rfl) ?_
  unfold s_l13Put at h
  simp only [fnS, f70, argSt, go_sem, Int.reduceLT, Int.reduceLE, Int.reduceBEq, Int.reduceBNe, Nat.reduceBNe, Nat.reduceAdd, Nat.reduceMul, Nat.reduceEqDiff, Nat.reduceLeDiff, Nat.reduceLT, Nat.reduceBEq, reduceCtorEq, reduceIte]
  refine swp_for h (fun i s st => match s with | (row_2, done_3) => IV [(0, .p false [.c (.sl 3 1 (List.map eInt l_0))]), (1, .p false [.c (.int .i64 x_1)]), (5, .p false [.row 0]), (6, .p false [.c (.bool done_3)]), (7, .p false [.c (.int .i64 ((i : Nat) : Int))])] [.row 3 1 (List.map eInt row_2) 2] st) [] [16] (by decide) ?_ ?_ ?_
  · simp only [go_sem, Int.reduceLT, Int.reduceLE, Int.reduceBEq, Int.reduceBNe, Nat.reduceBNe, Nat.reduceAdd, Nat.reduceMul, Nat.reduceEqDiff, Nat.reduceLeDiff, Nat.reduceLT, Nat.reduceBEq, reduceCtorEq, reduceIte, IV, sts_cons, sts_nil, obs_cons, obs_nil]
  · rintro i7 x8 ⟨row_2, done_3⟩ ⟨sl, ob, n⟩ y1 hx2 hI3 hW4 h hy1
    simp only [IV, sts_cons, sts_nil, obs_cons, obs_nil, and_true, true_and, Nat.reduceAdd, str_len] at hI3
    obtain ⟨⟨g5_0, g5_1, g5_5, g5_6, g5_7⟩, og5_0, hn⟩ := hI3
    subst hn
    have hlhx2 := WF.slotL hW4 g5_0 (j := 0) rfl
    try simp only [go_sem, Int.reduceLT, Int.reduceLE, Int.reduceBEq, Int.reduceBNe, Nat.reduceBNe, Nat.reduceAdd, Nat.reduceMul, Nat.reduceEqDiff, Nat.reduceLeDiff, Nat.reduceLT, Nat.reduceBEq, reduceCtorEq, reduceIte, hx2, lt_t hx2, lt_p hx2, nat_in (lt_n hx2) hlhx2, g5_0, g5_1, g5_5, g5_6, g5_7, og5_0]
    refine ite_K h (fun c6 h => ?_) (fun c6 h => ?_)
    · obtain ⟨p7, h⟩ := chk_K h
      try simp only [Nat.reduceLeDiff] at p7
      try simp only [go_sem, Int.reduceLT, Int.reduceLE, Int.reduceBEq, Int.reduceBNe, Nat.reduceBNe, Nat.reduceAdd, Nat.reduceMul, Nat.reduceEqDiff, Nat.reduceLeDiff, Nat.reduceLT, Nat.reduceBEq, reduceCtorEq, reduceIte, hx2, lt_t hx2, lt_p hx2, nat_in (lt_n hx2) hlhx2, c6, p7, g5_0, g5_1, g5_5, g5_6, g5_7, og5_0]
      refine ⟨_, [], [321], (Option.some.inj h).symm, by decide, ?_⟩
      try simp only [go_sem, Int.reduceLT, Int.reduceLE, Int.reduceBEq, Int.reduceBNe, Nat.reduceBNe, Nat.reduceAdd, Nat.reduceMul, Nat.reduceEqDiff, Nat.reduceLeDiff, Nat.reduceLT, Nat.reduceBEq, reduceCtorEq, reduceIte, hx2, lt_t hx2, lt_p hx2, nat_in (lt_n hx2) hlhx2, c6, p7, g5_0, g5_1, g5_5, g5_6, g5_7, og5_0, IV, sts_cons, sts_nil, obs_cons, obs_nil]
    · try simp only [go_sem, Int.reduceLT, Int.reduceLE, Int.reduceBEq, Int.reduceBNe, Nat.reduceBNe, Nat.reduceAdd, Nat.reduceMul, Nat.reduceEqDiff, Nat.reduceLeDiff, Nat.reduceLT, Nat.reduceBEq, reduceCtorEq, reduceIte, hx2, lt_t hx2, lt_p hx2, nat_in (lt_n hx2) hlhx2, c6, g5_0, g5_1, g5_5, g5_6, g5_7, og5_0]
      refine ite_K h (fun c8 h => ?_) (fun c8 h => ?_)
      · try simp only [go_sem, Int.reduceLT, Int.reduceLE, Int.reduceBEq, Int.reduceBNe, Nat.reduceBNe, Nat.reduceAdd, Nat.reduceMul, Nat.reduceEqDiff, Nat.reduceLeDiff, Nat.reduceLT, Nat.reduceBEq, reduceCtorEq, reduceIte, hx2, lt_t hx2, lt_p hx2, nat_in (lt_n hx2) hlhx2, c6, c8, g5_0, g5_1, g5_5, g5_6, g5_7, og5_0]
        refine ite_K h (fun c9 h => ?_) (fun c9 h => ?_)
        · obtain ⟨p10, h⟩ := chk_K h
          try simp only [Nat.reduceLeDiff] at p10
          obtain ⟨p11, h⟩ := chk_K h
          try simp only [Nat.reduceLeDiff] at p11
          try simp only [go_sem, Int.reduceLT, Int.reduceLE, Int.reduceBEq, Int.reduceBNe, Nat.reduceBNe, Nat.reduceAdd, Nat.reduceMul, Nat.reduceEqDiff, Nat.reduceLeDiff, Nat.reduceLT, Nat.reduceBEq, reduceCtorEq, reduceIte, hx2, lt_t hx2, lt_p hx2, nat_in (lt_n hx2) hlhx2, c6, c8, c9, p10, p11, g5_0, g5_1, g5_5, g5_6, g5_7, og5_0]
          refine ⟨_, [], [513], (Option.some.inj h).symm, by decide, ?_⟩
          try simp only [go_sem, Int.reduceLT, Int.reduceLE, Int.reduceBEq, Int.reduceBNe, Nat.reduceBNe, Nat.reduceAdd, Nat.reduceMul, Nat.reduceEqDiff, Nat.reduceLeDiff, Nat.reduceLT, Nat.reduceBEq, reduceCtorEq, reduceIte, hx2, lt_t hx2, lt_p hx2, nat_in (lt_n hx2) hlhx2, c6, c8, c9, p10, p11, g5_0, g5_1, g5_5, g5_6, g5_7, og5_0, IV, sts_cons, sts_nil, obs_cons, obs_nil]
        · obtain ⟨p12, h⟩ := chk_K h
          try simp only [Nat.reduceLeDiff] at p12
          try simp only [go_sem, Int.reduceLT, Int.reduceLE, Int.reduceBEq, Int.reduceBNe, Nat.reduceBNe, Nat.reduceAdd, Nat.reduceMul, Nat.reduceEqDiff, Nat.reduceLeDiff, Nat.reduceLT, Nat.reduceBEq, reduceCtorEq, reduceIte, hx2, lt_t hx2, lt_p hx2, nat_in (lt_n hx2) hlhx2, c6, c8, c9, p12, g5_0, g5_1, g5_5, g5_6, g5_7, og5_0]
          refine ⟨_, [], [433], (Option.some.inj h).symm, by decide, ?_⟩
          try simp only [go_sem, Int.reduceLT, Int.reduceLE, Int.reduceBEq, Int.reduceBNe, Nat.reduceBNe, Nat.reduceAdd, Nat.reduceMul, Nat.reduceEqDiff, Nat.reduceLeDiff, Nat.reduceLT, Nat.reduceBEq, reduceCtorEq, reduceIte, hx2, lt_t hx2, lt_p hx2, nat_in (lt_n hx2) hlhx2, c6, c8, c9, p12, g5_0, g5_1, g5_5, g5_6, g5_7, og5_0, IV, sts_cons, sts_nil, obs_cons, obs_nil]
      · obtain ⟨p13, h⟩ := chk_K h
        try simp only [Nat.reduceLeDiff] at p13
        try simp only [go_sem, Int.reduceLT, Int.reduceLE, Int.reduceBEq, Int.reduceBNe, Nat.reduceBNe, Nat.reduceAdd, Nat.reduceMul, Nat.reduceEqDiff, Nat.reduceLeDiff, Nat.reduceLT, Nat.reduceBEq, reduceCtorEq, reduceIte, hx2, lt_t hx2, lt_p hx2, nat_in (lt_n hx2) hlhx2, c6, c8, p13, g5_0, g5_1, g5_5, g5_6, g5_7, og5_0]
        refine ⟨_, [], [321], (Option.some.inj h).symm, by decide, ?_⟩
        try simp only [go_sem, Int.reduceLT, Int.reduceLE, Int.reduceBEq, Int.reduceBNe, Nat.reduceBNe, Nat.reduceAdd, Nat.reduceMul, Nat.reduceEqDiff, Nat.reduceLeDiff, Nat.reduceLT, Nat.reduceBEq, reduceCtorEq, reduceIte, hx2, lt_t hx2, lt_p hx2, nat_in (lt_n hx2) hlhx2, c6, c8, p13, g5_0, g5_1, g5_5, g5_6, g5_7, og5_0, IV, sts_cons, sts_nil, obs_cons, obs_nil]
  · rintro ⟨row_2, done_3⟩ ⟨sl, ob, n⟩ hI14 hW15 h
    simp only [IV, sts_cons, sts_nil, obs_cons, obs_nil, and_true, true_and, Nat.reduceAdd, str_len] at hI14
    obtain ⟨⟨g16_0, g16_1, g16_5, g16_6, g16_7⟩, og16_0, hn⟩ := hI14
    subst hn
    try simp only [go_sem, Int.reduceLT, Int.reduceLE, Int.reduceBEq, Int.reduceBNe, Nat.reduceBNe, Nat.reduceAdd, Nat.reduceMul, Nat.reduceEqDiff, Nat.reduceLeDiff, Nat.reduceLT, Nat.reduceBEq, reduceCtorEq, reduceIte, lt_f (l_0.length), g16_0, g16_1, g16_5, g16_6, g16_7, og16_0]
    refine ite_K h (fun c17 h => ?_) (fun c17 h => ?_)
    · obtain rfl := Option.some.inj h
      try simp only [go_sem, Int.reduceLT, Int.reduceLE, Int.reduceBEq, Int.reduceBNe, Nat.reduceBNe, Nat.reduceAdd, Nat.reduceMul, Nat.reduceEqDiff, Nat.reduceLeDiff, Nat.reduceLT, Nat.reduceBEq, reduceCtorEq, reduceIte, lt_f (l_0.length), c17, g16_0, g16_1, g16_5, g16_6, g16_7, og16_0]
    · obtain ⟨p18, h⟩ := chk_K h
      try simp only [Nat.reduceLeDiff] at p18
      obtain rfl := Option.some.inj h
      try simp only [go_sem, Int.reduceLT, Int.reduceLE, Int.reduceBEq, Int.reduceBNe, Nat.reduceBNe, Nat.reduceAdd, Nat.reduceMul, Nat.reduceEqDiff, Nat.reduceLeDiff, Nat.reduceLT, Nat.reduceBEq, reduceCtorEq, reduceIte, lt_f (l_0.length), c17, p18, g16_0, g16_1, g16_5, g16_6, g16_7, og16_0]
theorem i_ascendingNodes_ok {l_0 : (List Int)} {nodes_1 : Int} {r : Bool} (h : i_ascendingNodes l_0 nodes_1 = some r) : Sound Try.prog J0 51 [(false, [.sl 3 1 (List.map eInt l_0)]), (false, [.int .i64 nodes_1])] [(false, [(false, .bool r)])] := by
  refine fnk Try.func51 (by kernel_rfl) rfl (by kernel_rfl) (by kernel_rfl) ?_
  unfold i_ascendingNodes at h
  simp only [fnS, f51, argSt, go_sem, Int.reduceLT, Int.reduceLE, Int.reduceBEq, Int.reduceBNe, Nat.reduceBNe, Nat.reduceAdd, Nat.reduceMul, Nat.reduceEqDiff, Nat.reduceLeDiff, Nat.reduceLT, Nat.reduceBEq, reduceCtorEq, reduceIte]
  refine swp_for h (fun i _ st => IV [(0, .p false [.c (.sl 3 1 (List.map eInt l_0))]), (1, .p false [.c (.int .i64 nodes_1)]), (7, .p false [.c (.sl 3 1 (List.map eInt l_0))]), (8, .p false [.c (.int .i64 ((l_0.length : Nat) : Int))]), (9, .p false [.c (.int .i64 ((i : Nat) : Int))])] [] st) [] [] (by decide) ?_ ?_ ?_
  · simp only [go_sem, Int.reduceLT, Int.reduceLE, Int.reduceBEq, Int.reduceBNe, Nat.reduceBNe, Nat.reduceAdd, Nat.reduceMul, Nat.reduceEqDiff, Nat.reduceLeDiff, Nat.reduceLT, Nat.reduceBEq, reduceCtorEq, reduceIte, IV, sts_cons, sts_nil, obs_cons, obs_nil]
  · rintro i5 x6 ⟨⟩ ⟨sl, ob, n⟩ y1 hx2 hI3 hW4 h hy1
    simp only [IV, sts_cons, sts_nil, obs_cons, obs_nil, and_true, true_and, Nat.reduceAdd, str_len] at hI3
    obtain ⟨⟨g5_0, g5_1, g5_7, g5_8, g5_9⟩, hn⟩ := hI3
    subst hn
    have hlhx2 := WF.slotL hW4 g5_0 (j := 0) rfl
    try simp only [go_sem, Int.reduceLT, Int.reduceLE, Int.reduceBEq, Int.reduceBNe, Nat.reduceBNe, Nat.reduceAdd, Nat.reduceMul, Nat.reduceEqDiff, Nat.reduceLeDiff, Nat.reduceLT, Nat.reduceBEq, reduceCtorEq, reduceIte, hx2, lt_t hx2, lt_p hx2, nat_in (lt_n hx2) hlhx2, g5_0, g5_1, g5_7, g5_8, g5_9]
    refine ite_K h (fun c6 h => ?_) (fun c6 h => ?_)
    · replace h := inr_K h hy1
      obtain rfl := Option.some.inj h
      try simp only [go_sem, Int.reduceLT, Int.reduceLE, Int.reduceBEq, Int.reduceBNe, Nat.reduceBNe, Nat.reduceAdd, Nat.reduceMul, Nat.reduceEqDiff, Nat.reduceLeDiff, Nat.reduceLT, Nat.reduceBEq, reduceCtorEq, reduceIte, hx2, lt_t hx2, lt_p hx2, nat_in (lt_n hx2) hlhx2, c6, g5_0, g5_1, g5_7, g5_8, g5_9]
    · try simp only [go_sem, Int.reduceLT, Int.reduceLE, Int.reduceBEq, Int.reduceBNe, Nat.reduceBNe, Nat.reduceAdd, Nat.reduceMul, Nat.reduceEqDiff, Nat.reduceLeDiff, Nat.reduceLT, Nat.reduceBEq, reduceCtorEq, reduceIte, hx2, lt_t hx2, lt_p hx2, nat_in (lt_n hx2) hlhx2, c6, g5_0, g5_1, g5_7, g5_8, g5_9]
      refine ite_K h (fun c7 h => ?_) (fun c7 h => ?_)
      · replace h := inr_K h hy1
        obtain rfl := Option.some.inj h
        try simp only [go_sem, Int.reduceLT, Int.reduceLE, Int.reduceBEq, Int.reduceBNe, Nat.reduceBNe, Nat.reduceAdd, Nat.reduceMul, Nat.reduceEqDiff, Nat.reduceLeDiff, Nat.reduceLT, Nat.reduceBEq, reduceCtorEq, reduceIte, hx2, lt_t hx2, lt_p hx2, nat_in (lt_n hx2) hlhx2, c6, c7, g5_0, g5_1, g5_7, g5_8, g5_9]
      · try simp only [go_sem, Int.reduceLT, Int.reduceLE, Int.reduceBEq, Int.reduceBNe, Nat.reduceBNe, Nat.reduceAdd, Nat.reduceMul, Nat.reduceEqDiff, Nat.reduceLeDiff, Nat.reduceLT, Nat.reduceBEq, reduceCtorEq, reduceIte, hx2, lt_t hx2, lt_p hx2, nat_in (lt_n hx2) hlhx2, c6, c7, g5_0, g5_1, g5_7, g5_8, g5_9]
        refine ite_K h (fun c8 h => ?_) (fun c8 h => ?_)
        · obtain ⟨x7, a9, a10, e11, h⟩ := at_K h
          try simp only [go_sem, Int.reduceLT, Int.reduceLE, Int.reduceBEq, Int.reduceBNe, Nat.reduceBNe, Nat.reduceAdd, Nat.reduceMul, Nat.reduceEqDiff, Nat.reduceLeDiff, Nat.reduceLT, Nat.reduceBEq, reduceCtorEq, reduceIte, hx2, lt_t hx2, lt_p hx2, nat_in (lt_n hx2) hlhx2, c6, c7, c8, a9, a10, e11, g5_0, g5_1, g5_7, g5_8, g5_9]
          refine ite_K h (fun c12 h => ?_) (fun c12 h => ?_)
          · replace h := inr_K h hy1
            obtain rfl := Option.some.inj h
            try simp only [go_sem, Int.reduceLT, Int.reduceLE, Int.reduceBEq, Int.reduceBNe, Nat.reduceBNe, Nat.reduceAdd, Nat.reduceMul, Nat.reduceEqDiff, Nat.reduceLeDiff, Nat.reduceLT, Nat.reduceBEq, reduceCtorEq, reduceIte, hx2, lt_t hx2, lt_p hx2, nat_in (lt_n hx2) hlhx2, c6, c7, c8, a9, a10, e11, c12, g5_0, g5_1, g5_7, g5_8, g5_9]
          · try simp only [go_sem, Int.reduceLT, Int.reduceLE, Int.reduceBEq, Int.reduceBNe, Nat.reduceBNe, Nat.reduceAdd, Nat.reduceMul, Nat.reduceEqDiff, Nat.reduceLeDiff, Nat.reduceLT, Nat.reduceBEq, reduceCtorEq, reduceIte, hx2, lt_t hx2, lt_p hx2, nat_in (lt_n hx2) hlhx2, c6, c7, c8, a9, a10, e11, c12, g5_0, g5_1, g5_7, g5_8, g5_9]
            refine ⟨_, [], [], (Option.some.inj h).symm, by decide, ?_⟩
            try simp only [go_sem, Int.reduceLT, Int.reduceLE, Int.reduceBEq, Int.reduceBNe, Nat.reduceBNe, Nat.reduceAdd, Nat.reduceMul, Nat.reduceEqDiff, Nat.reduceLeDiff, Nat.reduceLT, Nat.reduceBEq, reduceCtorEq, reduceIte, hx2, lt_t hx2, lt_p hx2, nat_in (lt_n hx2) hlhx2, c6, c7, c8, a9, a10, e11, c12, g5_0, g5_1, g5_7, g5_8, g5_9, IV, sts_cons, sts_nil, obs_cons, obs_nil]
        · try simp only [go_sem, Int.reduceLT, Int.reduceLE, Int.reduceBEq, Int.reduceBNe, Nat.reduceBNe, Nat.reduceAdd, Nat.reduceMul, Nat.reduceEqDiff, Nat.reduceLeDiff, Nat.reduceLT, Nat.reduceBEq, reduceCtorEq, reduceIte, hx2, lt_t hx2, lt_p hx2, nat_in (lt_n hx2) hlhx2, c6, c7, c8, g5_0, g5_1, g5_7, g5_8, g5_9]
          refine ⟨_, [], [], (Option.some.inj h).symm, by decide, ?_⟩
          try simp only [go_sem, Int.reduceLT, Int.reduceLE, Int.reduceBEq, Int.reduceBNe, Nat.reduceBNe, Nat.reduceAdd, Nat.reduceMul, Nat.reduceEqDiff, Nat.reduceLeDiff, Nat.reduceLT, Nat.reduceBEq, reduceCtorEq, reduceIte, hx2, lt_t hx2, lt_p hx2, nat_in (lt_n hx2) hlhx2, c6, c7, c8, g5_0, g5_1, g5_7, g5_8, g5_9, IV, sts_cons, sts_nil, obs_cons, obs_nil]
  · rintro ⟨⟩ ⟨sl, ob, n⟩ hI13 hW14 h
    simp only [IV, sts_cons, sts_nil, obs_cons, obs_nil, and_true, true_and, Nat.reduceAdd, str_len] at hI13
    obtain ⟨⟨g15_0, g15_1, g15_7, g15_8, g15_9⟩, hn⟩ := hI13
    subst hn
    obtain rfl := Option.some.inj h
    try simp only [go_sem, Int.reduceLT, Int.reduceLE, Int.reduceBEq, Int.reduceBNe, Nat.reduceBNe, Nat.reduceAdd, Nat.reduceMul, Nat.reduceEqDiff, Nat.reduceLeDiff, Nat.reduceLT, Nat.reduceBEq, reduceCtorEq, reduceIte, lt_f (l_0.length), g15_0, g15_1, g15_7, g15_8, g15_9]
theorem i_setsWith_ok {f_0 : FrameD} {keep_1 : (Int → Option Bool)} {kkeep_1 : Nat} {ckeep_1 : List CT} (hkeep_1 : (SC Try.prog J0 JF0 hds).hd kkeep_1 = 0) (skeep_1 : ∀ {x0} {r : Bool}, keep_1 x0 = some r → Sound Try.prog J0 kkeep_1 ([(false, [.int .i64 x0])] ++ ckeep_1.map fun c => (false, [c])) [(false, [(false, .bool r)])]) {r : (List Int)} (h : i_setsWith f_0 keep_1 = some r) : Sound Try.prog J0 44 [(true, eFrame f_0), (false, [.fn kkeep_1 ckeep_1])] [(false, [(false, .sl 3 1 (List.map eInt r))])] := by
  refine fnk Try.func44 (by kernel_rfl) rfl (by kernel_rfl) (by kernel_rfl) ?_
  unfold i_setsWith at h
  simp only [fnS, f44, argSt, go_sem, Int.reduceLT, Int.reduceLE, Int.reduceBEq, Int.reduceBNe, Nat.reduceBNe, Nat.reduceAdd, Nat.reduceMul, Nat.reduceEqDiff, Nat.reduceLeDiff, Nat.reduceLT, Nat.reduceBEq, reduceCtorEq, reduceIte, hkeep_1]
  obtain ⟨p1, h⟩ := chk_K h
  try simp only [go_sem, Int.reduceLT, Int.reduceLE, Int.reduceBEq, Int.reduceBNe, Nat.reduceBNe, Nat.reduceAdd, Nat.reduceMul, Nat.reduceEqDiff, Nat.reduceLeDiff, Nat.reduceLT, Nat.reduceBEq, reduceCtorEq, reduceIte, hkeep_1, p1]
  refine swp_iter h (fun s st => match s with | (row_3, u_4) => IV [(1, .p false [.c (.fn kkeep_1 ckeep_1)]), (5, .p false [.row 0]), (10, .p false [.c (.int .i64 (shlI .i64 1 ((f_0.assumed.length : Nat) : Int)))]), (11, .p false [.c (.int .i64 u_4)])] [.row 3 1 (List.map eInt row_3) 2] st) [(false, 5, 0)] [128] (by decide) ?_ ?_
  · simp only [go_sem, Int.reduceLT, Int.reduceLE, Int.reduceBEq, Int.reduceBNe, Nat.reduceBNe, Nat.reduceAdd, Nat.reduceMul, Nat.reduceEqDiff, Nat.reduceLeDiff, Nat.reduceLT, Nat.reduceBEq, reduceCtorEq, reduceIte, IV, sts_cons, sts_nil, obs_cons, obs_nil, hkeep_1, p1]
  · rintro ⟨row_3, u_4⟩ ⟨sl, ob, n⟩ y2 hI3 hW4 h hy2
    simp only [IV, sts_cons, sts_nil, obs_cons, obs_nil, and_true, true_and, Nat.reduceAdd, str_len] at hI3
    obtain ⟨⟨g5_1, g5_5, g5_10, g5_11⟩, og5_0, hn⟩ := hI3
    subst hn
    try simp only [go_sem, Int.reduceLT, Int.reduceLE, Int.reduceBEq, Int.reduceBNe, Nat.reduceBNe, Nat.reduceAdd, Nat.reduceMul, Nat.reduceEqDiff, Nat.reduceLeDiff, Nat.reduceLT, Nat.reduceBEq, reduceCtorEq, reduceIte, hkeep_1, p1, g5_1, g5_5, g5_10, g5_11, og5_0]
    refine ite_K h (fun c6 h => ?_) (fun c6 h => ?_)
    · try simp only [go_sem, Int.reduceLT, Int.reduceLE, Int.reduceBEq, Int.reduceBNe, Nat.reduceBNe, Nat.reduceAdd, Nat.reduceMul, Nat.reduceEqDiff, Nat.reduceLeDiff, Nat.reduceLT, Nat.reduceBEq, reduceCtorEq, reduceIte, hkeep_1, p1, c6, g5_1, g5_5, g5_10, g5_11, og5_0]
      obtain ⟨v5, e7, h⟩ := bind_K h
      refine call_K (by first | exact skeep_1 e7 | simpa only [go_sem, Int.reduceLT, Int.reduceLE, Int.reduceBEq, Int.reduceBNe, Nat.reduceBNe, Nat.reduceAdd, Nat.reduceMul, Nat.reduceEqDiff, Nat.reduceLeDiff, Nat.reduceLT, Nat.reduceBEq, reduceCtorEq, reduceIte, hkeep_1, p1, c6, g5_1, g5_5, g5_10, g5_11, og5_0] using skeep_1 e7) ?_
      try simp only [go_sem, Int.reduceLT, Int.reduceLE, Int.reduceBEq, Int.reduceBNe, Nat.reduceBNe, Nat.reduceAdd, Nat.reduceMul, Nat.reduceEqDiff, Nat.reduceLeDiff, Nat.reduceLT, Nat.reduceBEq, reduceCtorEq, reduceIte, hkeep_1, p1, c6, g5_1, g5_5, g5_10, g5_11, og5_0]
      refine ite_K h (fun c8 h => ?_) (fun c8 h => ?_)
      · obtain ⟨p9, h⟩ := chk_K h
        try simp only [Nat.reduceLeDiff] at p9
        try simp only [go_sem, Int.reduceLT, Int.reduceLE, Int.reduceBEq, Int.reduceBNe, Nat.reduceBNe, Nat.reduceAdd, Nat.reduceMul, Nat.reduceEqDiff, Nat.reduceLeDiff, Nat.reduceLT, Nat.reduceBEq, reduceCtorEq, reduceIte, hkeep_1, p1, c6, c8, p9, g5_1, g5_5, g5_10, g5_11, og5_0]
        refine ⟨_, [], [145], (Option.some.inj h).symm, by decide, ?_⟩
        try simp only [go_sem, Int.reduceLT, Int.reduceLE, Int.reduceBEq, Int.reduceBNe, Nat.reduceBNe, Nat.reduceAdd, Nat.reduceMul, Nat.reduceEqDiff, Nat.reduceLeDiff, Nat.reduceLT, Nat.reduceBEq, reduceCtorEq, reduceIte, hkeep_1, p1, c6, c8, p9, g5_1, g5_5, g5_10, g5_11, og5_0, IV, sts_cons, sts_nil, obs_cons, obs_nil]
      · try simp only [go_sem, Int.reduceLT, Int.reduceLE, Int.reduceBEq, Int.reduceBNe, Nat.reduceBNe, Nat.reduceAdd, Nat.reduceMul, Nat.reduceEqDiff, Nat.reduceLeDiff, Nat.reduceLT, Nat.reduceBEq, reduceCtorEq, reduceIte, hkeep_1, p1, c6, c8, g5_1, g5_5, g5_10, g5_11, og5_0]
        refine ⟨_, [], [0], (Option.some.inj h).symm, by decide, ?_⟩
        try simp only [go_sem, Int.reduceLT, Int.reduceLE, Int.reduceBEq, Int.reduceBNe, Nat.reduceBNe, Nat.reduceAdd, Nat.reduceMul, Nat.reduceEqDiff, Nat.reduceLeDiff, Nat.reduceLT, Nat.reduceBEq, reduceCtorEq, reduceIte, hkeep_1, p1, c6, c8, g5_1, g5_5, g5_10, g5_11, og5_0, IV, sts_cons, sts_nil, obs_cons, obs_nil]
    · replace h := inr_K h hy2
      obtain rfl := Option.some.inj h
      try simp only [go_sem, Int.reduceLT, Int.reduceLE, Int.reduceBEq, Int.reduceBNe, Nat.reduceBNe, Nat.reduceAdd, Nat.reduceMul, Nat.reduceEqDiff, Nat.reduceLeDiff, Nat.reduceLT, Nat.reduceBEq, reduceCtorEq, reduceIte, hkeep_1, p1, c6, g5_1, g5_5, g5_10, g5_11, og5_0]
theorem i_noneIn_ok {l_0 : (List Int)} {a_1 : (List Bool)} {r : Bool} (h : i_noneIn l_0 a_1 = some r) : Sound Try.prog J0 46 [(false, [.sl 3 1 (List.map eInt l_0)]), (false, [.sl 4 1 (List.map eBool a_1)])] [(false, [(false, .bool r)])] := by
  refine fnk Try.func46 (by kernel_rfl) rfl (by kernel_rfl) (by kernel_rfl) ?_
  unfold i_noneIn at h
  simp only [fnS, f46, argSt, go_sem, Int.reduceLT, Int.reduceLE, Int.reduceBEq, Int.reduceBNe, Nat.reduceBNe, Nat.reduceAdd, Nat.reduceMul, Nat.reduceEqDiff, Nat.reduceLeDiff, Nat.reduceLT, Nat.reduceBEq, reduceCtorEq, reduceIte]
  refine swp_for h (fun i _ st => IV [(1, .p false [.c (.sl 4 1 (List.map eBool a_1))]), (7, .p false [.c (.sl 3 1 (List.map eInt l_0))]), (8, .p false [.c (.int .i64 ((l_0.length : Nat) : Int))]), (9, .p false [.c (.int .i64 ((i : Nat) : Int))])] [] st) [] [] (by decide) ?_ ?_ ?_
  · simp only [go_sem, Int.reduceLT, Int.reduceLE, Int.reduceBEq, Int.reduceBNe, Nat.reduceBNe, Nat.reduceAdd, Nat.reduceMul, Nat.reduceEqDiff, Nat.reduceLeDiff, Nat.reduceLT, Nat.reduceBEq, reduceCtorEq, reduceIte, IV, sts_cons, sts_nil, obs_cons, obs_nil]
  · rintro i6 x7 ⟨⟩ ⟨sl, ob, n⟩ y1 hx2 hI3 hW4 h hy1
    simp only [IV, sts_cons, sts_nil, obs_cons, obs_nil, and_true, true_and, Nat.reduceAdd, str_len] at hI3
    obtain ⟨⟨g5_1, g5_7, g5_8, g5_9⟩, hn⟩ := hI3
    subst hn
    have hlhx2 := WF.slotL hW4 g5_7 (j := 0) rfl
    obtain ⟨x8, a6, a7, e8, h⟩ := at_K h
    try simp only [go_sem, Int.reduceLT, Int.reduceLE, Int.reduceBEq, Int.reduceBNe, Nat.reduceBNe, Nat.reduceAdd, Nat.reduceMul, Nat.reduceEqDiff, Nat.reduceLeDiff, Nat.reduceLT, Nat.reduceBEq, reduceCtorEq, reduceIte, hx2, lt_t hx2, lt_p hx2, nat_in (lt_n hx2) hlhx2, a6, a7, e8, g5_1, g5_7, g5_8, g5_9]
    refine ite_K h (fun c9 h => ?_) (fun c9 h => ?_)
    · replace h := inr_K h hy1
      obtain rfl := Option.some.inj h
      try simp only [go_sem, Int.reduceLT, Int.reduceLE, Int.reduceBEq, Int.reduceBNe, Nat.reduceBNe, Nat.reduceAdd, Nat.reduceMul, Nat.reduceEqDiff, Nat.reduceLeDiff, Nat.reduceLT, Nat.reduceBEq, reduceCtorEq, reduceIte, hx2, lt_t hx2, lt_p hx2, nat_in (lt_n hx2) hlhx2, a6, a7, e8, c9, g5_1, g5_7, g5_8, g5_9]
    · try simp only [go_sem, Int.reduceLT, Int.reduceLE, Int.reduceBEq, Int.reduceBNe, Nat.reduceBNe, Nat.reduceAdd, Nat.reduceMul, Nat.reduceEqDiff, Nat.reduceLeDiff, Nat.reduceLT, Nat.reduceBEq, reduceCtorEq, reduceIte, hx2, lt_t hx2, lt_p hx2, nat_in (lt_n hx2) hlhx2, a6, a7, e8, c9, g5_1, g5_7, g5_8, g5_9]
      refine ⟨_, [], [], (Option.some.inj h).symm, by decide, ?_⟩
      try simp only [go_sem, Int.reduceLT, Int.reduceLE, Int.reduceBEq, Int.reduceBNe, Nat.reduceBNe, Nat.reduceAdd, Nat.reduceMul, Nat.reduceEqDiff, Nat.reduceLeDiff, Nat.reduceLT, Nat.reduceBEq, reduceCtorEq, reduceIte, hx2, lt_t hx2, lt_p hx2, nat_in (lt_n hx2) hlhx2, a6, a7, e8, c9, g5_1, g5_7, g5_8, g5_9, IV, sts_cons, sts_nil, obs_cons, obs_nil]
  · rintro ⟨⟩ ⟨sl, ob, n⟩ hI10 hW11 h
    simp only [IV, sts_cons, sts_nil, obs_cons, obs_nil, and_true, true_and, Nat.reduceAdd, str_len] at hI10
    obtain ⟨⟨g12_1, g12_7, g12_8, g12_9⟩, hn⟩ := hI10
    subst hn
    obtain rfl := Option.some.inj h
    try simp only [go_sem, Int.reduceLT, Int.reduceLE, Int.reduceBEq, Int.reduceBNe, Nat.reduceBNe, Nat.reduceAdd, Nat.reduceMul, Nat.reduceEqDiff, Nat.reduceLeDiff, Nat.reduceLT, Nat.reduceBEq, reduceCtorEq, reduceIte, lt_f (l_0.length), g12_1, g12_7, g12_8, g12_9]
theorem i_copyInts_ok {l_0 : (List Int)} {r : (List Int)} (h : i_copyInts l_0 = some r) : Sound Try.prog J0 89 [(false, [.sl 3 1 (List.map eInt l_0)])] [(false, [(false, .sl 3 1 (List.map eInt r))])] := by
  refine fnk Try.func89 (by kernel_rfl) rfl (by kernel_rfl) (by kernel_rfl) ?_
  unfold i_copyInts at h
  simp only [fnS, f89, argSt, go_sem, Int.reduceLT, Int.reduceLE, Int.reduceBEq, Int.reduceBNe, Nat.reduceBNe, Nat.reduceAdd, Nat.reduceMul, Nat.reduceEqDiff, Nat.reduceLeDiff, Nat.reduceLT, Nat.reduceBEq, reduceCtorEq, reduceIte]
  obtain ⟨p1, h⟩ := chk_K h
  try simp only [Nat.reduceLeDiff] at p1
  obtain rfl := Option.some.inj h
  try simp only [go_sem, Int.reduceLT, Int.reduceLE, Int.reduceBEq, Int.reduceBNe, Nat.reduceBNe, Nat.reduceAdd, Nat.reduceMul, Nat.reduceEqDiff, Nat.reduceLeDiff, Nat.reduceLT, Nat.reduceBEq, reduceCtorEq, reduceIte, p1]
end Go.Proofs.Ytfbonanbiblkbaa

namespace Go.Proofs.Ytfbonanbiblkbaa
open Go.Proofs.Try
set_option linter.unusedSimpArgs false
set_option linter.unusedVariables false
set_option maxRecDepth 1000000
set_option maxHeartbeats 4000000
theorem i_chosen_ok {l_0 : (List Int)} {set_1 : Int} {r : (List Int)} (h : i_chosen l_0 set_1 = some r) : Sound Try.prog J0 61 [(false, [.sl 3 1 (List.map eInt l_0)]), (false, [.int .i64 set_1])] [(false, [(false, .sl 3 1 (List.map eInt r))])] := by
  refine fnk Try.func61 (by kernel_rfl) rfl (by kernel_rfl) (by kernel_rfl) ?_
  unfold i_chosen at h
  have kn0 : ¬ ((0 : Int) < 0) := by decide
  simp only [fnS, f61, argSt, go_sem, Int.reduceLT, Int.reduceLE, Int.reduceBEq, Int.reduceBNe, Nat.reduceBNe, Nat.reduceAdd, Nat.reduceMul, Nat.reduceEqDiff, Nat.reduceLeDiff, Nat.reduceLT, Nat.reduceBEq, reduceCtorEq, reduceIte, kn0]
  refine swp_for h (fun i row_3 st => IV [(1, .p false [.c (.int .i64 set_1)]), (5, .p false [.row 0]), (8, .p false [.c (.sl 3 1 (List.map eInt l_0))]), (9, .p false [.c (.int .i64 ((l_0.length : Nat) : Int))]), (10, .p false [.c (.int .i64 ((i : Nat) : Int))])] [.row 3 1 (List.map eInt row_3) 2] st) [(false, 5, 0)] [80] (by decide) ?_ ?_ ?_
  · simp only [go_sem, Int.reduceLT, Int.reduceLE, Int.reduceBEq, Int.reduceBNe, Nat.reduceBNe, Nat.reduceAdd, Nat.reduceMul, Nat.reduceEqDiff, Nat.reduceLeDiff, Nat.reduceLT, Nat.reduceBEq, reduceCtorEq, reduceIte, IV, sts_cons, sts_nil, obs_cons, obs_nil, kn0]
  · rintro i6 x7 row_3 ⟨sl, ob, n⟩ y1 hx2 hI3 hW4 h hy1
    simp only [IV, sts_cons, sts_nil, obs_cons, obs_nil, and_true, true_and, Nat.reduceAdd, str_len] at hI3
    obtain ⟨⟨g5_1, g5_5, g5_8, g5_9, g5_10⟩, og5_0, hn⟩ := hI3
    subst hn
    have hlhx2 := WF.slotL hW4 g5_8 (j := 0) rfl
    obtain ⟨p6, h⟩ := chk_K h
    try simp only [go_sem, Int.reduceLT, Int.reduceLE, Int.reduceBEq, Int.reduceBNe, Nat.reduceBNe, Nat.reduceAdd, Nat.reduceMul, Nat.reduceEqDiff, Nat.reduceLeDiff, Nat.reduceLT, Nat.reduceBEq, reduceCtorEq, reduceIte, kn0, hx2, lt_t hx2, lt_p hx2, nat_in (lt_n hx2) hlhx2, p6, g5_1, g5_5, g5_8, g5_9, g5_10, og5_0]
    refine ite_K h (fun c7 h => ?_) (fun c7 h => ?_)
    · obtain ⟨p8, h⟩ := chk_K h
      try simp only [Nat.reduceLeDiff] at p8
      try simp only [go_sem, Int.reduceLT, Int.reduceLE, Int.reduceBEq, Int.reduceBNe, Nat.reduceBNe, Nat.reduceAdd, Nat.reduceMul, Nat.reduceEqDiff, Nat.reduceLeDiff, Nat.reduceLT, Nat.reduceBEq, reduceCtorEq, reduceIte, kn0, hx2, lt_t hx2, lt_p hx2, nat_in (lt_n hx2) hlhx2, p6, c7, p8, g5_1, g5_5, g5_8, g5_9, g5_10, og5_0]
      refine ⟨_, [], [225], (Option.some.inj h).symm, by decide, ?_⟩
      try simp only [go_sem, Int.reduceLT, Int.reduceLE, Int.reduceBEq, Int.reduceBNe, Nat.reduceBNe, Nat.reduceAdd, Nat.reduceMul, Nat.reduceEqDiff, Nat.reduceLeDiff, Nat.reduceLT, Nat.reduceBEq, reduceCtorEq, reduceIte, kn0, hx2, lt_t hx2, lt_p hx2, nat_in (lt_n hx2) hlhx2, p6, c7, p8, g5_1, g5_5, g5_8, g5_9, g5_10, og5_0, IV, sts_cons, sts_nil, obs_cons, obs_nil]
    · try simp only [go_sem, Int.reduceLT, Int.reduceLE, Int.reduceBEq, Int.reduceBNe, Nat.reduceBNe, Nat.reduceAdd, Nat.reduceMul, Nat.reduceEqDiff, Nat.reduceLeDiff, Nat.reduceLT, Nat.reduceBEq, reduceCtorEq, reduceIte, kn0, hx2, lt_t hx2, lt_p hx2, nat_in (lt_n hx2) hlhx2, p6, c7, g5_1, g5_5, g5_8, g5_9, g5_10, og5_0]
      refine ⟨_, [], [0], (Option.some.inj h).symm, by decide, ?_⟩
      try simp only [go_sem, Int.reduceLT, Int.reduceLE, Int.reduceBEq, Int.reduceBNe, Nat.reduceBNe, Nat.reduceAdd, Nat.reduceMul, Nat.reduceEqDiff, Nat.reduceLeDiff, Nat.reduceLT, Nat.reduceBEq, reduceCtorEq, reduceIte, kn0, hx2, lt_t hx2, lt_p hx2, nat_in (lt_n hx2) hlhx2, p6, c7, g5_1, g5_5, g5_8, g5_9, g5_10, og5_0, IV, sts_cons, sts_nil, obs_cons, obs_nil]
  · rintro row_3 ⟨sl, ob, n⟩ hI9 hW10 h
    simp only [IV, sts_cons, sts_nil, obs_cons, obs_nil, and_true, true_and, Nat.reduceAdd, str_len] at hI9
    obtain ⟨⟨g11_1, g11_5, g11_8, g11_9, g11_10⟩, og11_0, hn⟩ := hI9
    subst hn
    obtain rfl := Option.some.inj h
    try simp only [go_sem, Int.reduceLT, Int.reduceLE, Int.reduceBEq, Int.reduceBNe, Nat.reduceBNe, Nat.reduceAdd, Nat.reduceMul, Nat.reduceEqDiff, Nat.reduceLeDiff, Nat.reduceLT, Nat.reduceBEq, reduceCtorEq, reduceIte, kn0, lt_f (l_0.length), g11_1, g11_5, g11_8, g11_9, g11_10, og11_0]
theorem i_strata_ok {append_0 : BeliefsD} {r : (List Int)} (h : i_strata append_0 = some r) : Sound Try.prog J0 101 [(true, eBeliefs append_0)] [(false, [(false, .sl 3 1 (List.map eInt r))])] := by
  refine fnk Try.func101 (by kernel_rfl) rfl (by kernel_rfl) (by kernel_rfl) ?_
  unfold i_strata at h
  simp only [fnS, f101, argSt, go_sem, Int.reduceLT, Int.reduceLE, Int.reduceBEq, Int.reduceBNe, Nat.reduceBNe, Nat.reduceAdd, Nat.reduceMul, Nat.reduceEqDiff, Nat.reduceLeDiff, Nat.reduceLT, Nat.reduceBEq, reduceCtorEq, reduceIte]
  obtain ⟨p1, h⟩ := chk_K h
  try simp only [go_sem, Int.reduceLT, Int.reduceLE, Int.reduceBEq, Int.reduceBNe, Nat.reduceBNe, Nat.reduceAdd, Nat.reduceMul, Nat.reduceEqDiff, Nat.reduceLeDiff, Nat.reduceLT, Nat.reduceBEq, reduceCtorEq, reduceIte, p1.1, p1.2]
  refine swp_iter h (fun s st => match s with | (row_92, u_93) => IV [(1, .bp 0 0), (3, .p false [.row 1]), (4, .p false [.c (.bool u_93)])] [.box 37 [.c (.int .i64 append_0.nodes), .c (.sl 49 3 (List.map eReason append_0.reasons))], .row 3 1 (List.map eInt row_92) 2] st) [] [0, 64] (by decide) ?_ ?_
  · simp only [go_sem, Int.reduceLT, Int.reduceLE, Int.reduceBEq, Int.reduceBNe, Nat.reduceBNe, Nat.reduceAdd, Nat.reduceMul, Nat.reduceEqDiff, Nat.reduceLeDiff, Nat.reduceLT, Nat.reduceBEq, reduceCtorEq, reduceIte, IV, sts_cons, sts_nil, obs_cons, obs_nil, p1.1, p1.2]
  · rintro ⟨row_92, u_93⟩ ⟨sl, ob, n⟩ y2 hI3 hW4 h hy2
    simp only [IV, sts_cons, sts_nil, obs_cons, obs_nil, and_true, true_and, Nat.reduceAdd, str_len] at hI3
    obtain ⟨⟨g5_1, g5_3, g5_4⟩, og5_0, og5_1, hn⟩ := hI3
    subst hn
    try simp only [go_sem, Int.reduceLT, Int.reduceLE, Int.reduceBEq, Int.reduceBNe, Nat.reduceBNe, Nat.reduceAdd, Nat.reduceMul, Nat.reduceEqDiff, Nat.reduceLeDiff, Nat.reduceLT, Nat.reduceBEq, reduceCtorEq, reduceIte, p1.1, p1.2, g5_1, g5_3, g5_4, og5_0, og5_1]
    refine ite_K h (fun c6 h => ?_) (fun c6 h => ?_)
    · try simp only [go_sem, Int.reduceLT, Int.reduceLE, Int.reduceBEq, Int.reduceBNe, Nat.reduceBNe, Nat.reduceAdd, Nat.reduceMul, Nat.reduceEqDiff, Nat.reduceLeDiff, Nat.reduceLT, Nat.reduceBEq, reduceCtorEq, reduceIte, p1.1, p1.2, c6, g5_1, g5_3, g5_4, og5_0, og5_1]
      refine swp_for h (fun i s st => match s with | (row_123, u_125) => IV [(1, .bp 0 0), (3, .p false [.row 1]), (4, .p false [.c (.bool u_125)]), (17, .p false [.c (.sl 49 3 (List.map eReason append_0.reasons))]), (18, .p false [.c (.int .i64 ((append_0.reasons.length : Nat) : Int))]), (19, .p false [.c (.int .i64 ((i : Nat) : Int))])] [.box 37 [.c (.int .i64 append_0.nodes), .c (.sl 49 3 (List.map eReason append_0.reasons))], .row 3 1 (List.map eInt row_123) 2] st) [] [0, 1] (by decide) ?_ ?_ ?_
      · simp only [go_sem, Int.reduceLT, Int.reduceLE, Int.reduceBEq, Int.reduceBNe, Nat.reduceBNe, Nat.reduceAdd, Nat.reduceMul, Nat.reduceEqDiff, Nat.reduceLeDiff, Nat.reduceLT, Nat.reduceBEq, reduceCtorEq, reduceIte, IV, sts_cons, sts_nil, obs_cons, obs_nil, p1.1, p1.2, c6, g5_1, g5_3, g5_4, og5_0, og5_1]
      · rintro i155 x156 ⟨row_123, u_125⟩ ⟨sl, ob, n⟩ y7 hx8 hI9 hW10 h hy7
        simp only [IV, sts_cons, sts_nil, obs_cons, obs_nil, and_true, true_and, Nat.reduceAdd, str_len] at hI9
        obtain ⟨⟨g11_1, g11_3, g11_4, g11_17, g11_18, g11_19⟩, og11_0, og11_1, hn⟩ := hI9
        subst hn
        have hlhx8 := WF.slotL hW10 g11_17 (j := 0) rfl
        obtain ⟨p12, h⟩ := chk_K h
        obtain ⟨x157, e13, h⟩ := bind_K h
        try simp only [go_sem, Int.reduceLT, Int.reduceLE, Int.reduceBEq, Int.reduceBNe, Nat.reduceBNe, Nat.reduceAdd, Nat.reduceMul, Nat.reduceEqDiff, Nat.reduceLeDiff, Nat.reduceLT, Nat.reduceBEq, reduceCtorEq, reduceIte, p1.1, p1.2, c6, hx8, lt_t hx8, lt_p hx8, nat_in (lt_n hx8) hlhx8, p12.1, p12.2, e13, g11_1, g11_3, g11_4, g11_17, g11_18, g11_19, og11_0, og11_1]
        refine swp_for h (fun i u_161 st => IV [(1, .bp 0 0), (3, .p false [.row 1]), (4, .p false [.c (.bool u_125)]), (6, .bp 2 0), (7, .p false [.c (.int .i64 u_161)]), (17, .p false [.c (.sl 49 3 (List.map eReason append_0.reasons))]), (18, .p false [.c (.int .i64 ((append_0.reasons.length : Nat) : Int))]), (19, .p false [.c (.int .i64 ((i155 : Nat) : Int))]), (29, .p false [.c (.sl 3 1 (List.map eInt x156.inn))]), (30, .p false [.c (.int .i64 ((x156.inn.length : Nat) : Int))]), (31, .p false [.c (.int .i64 ((i : Nat) : Int))])] [.box 37 [.c (.int .i64 append_0.nodes), .c (.sl 49 3 (List.map eReason append_0.reasons))], .row 3 1 (List.map eInt row_123) 2, .box 49 [.c (.int .i64 x156.for_), .c (.sl 3 1 (List.map eInt x156.inn)), .c (.sl 3 1 (List.map eInt x156.outs))]] st) [] [0, 1, 50] (by decide) ?_ ?_ ?_
        · simp only [go_sem, Int.reduceLT, Int.reduceLE, Int.reduceBEq, Int.reduceBNe, Nat.reduceBNe, Nat.reduceAdd, Nat.reduceMul, Nat.reduceEqDiff, Nat.reduceLeDiff, Nat.reduceLT, Nat.reduceBEq, reduceCtorEq, reduceIte, IV, sts_cons, sts_nil, obs_cons, obs_nil, p1.1, p1.2, c6, hx8, lt_t hx8, lt_p hx8, nat_in (lt_n hx8) hlhx8, p12.1, p12.2, e13, g11_1, g11_3, g11_4, g11_17, g11_18, g11_19, og11_0, og11_1]
        · rintro i173 x174 u_161 ⟨sl, ob, n⟩ y14 hx15 hI16 hW17 h hy14
          simp only [IV, sts_cons, sts_nil, obs_cons, obs_nil, and_true, true_and, Nat.reduceAdd, str_len] at hI16
          obtain ⟨⟨g18_1, g18_3, g18_4, g18_6, g18_7, g18_17, g18_18, g18_19, g18_29, g18_30, g18_31⟩, og18_0, og18_1, og18_2, hn⟩ := hI16
          subst hn
          have hlhx15 := WF.slotL hW17 g18_29 (j := 0) rfl
          obtain ⟨p19, h⟩ := chk_K h
          obtain ⟨x175, e20, h⟩ := bind_K h
          try simp only [go_sem, Int.reduceLT, Int.reduceLE, Int.reduceBEq, Int.reduceBNe, Nat.reduceBNe, Nat.reduceAdd, Nat.reduceMul, Nat.reduceEqDiff, Nat.reduceLeDiff, Nat.reduceLT, Nat.reduceBEq, reduceCtorEq, reduceIte, p1.1, p1.2, c6, hx8, lt_t hx8, lt_p hx8, nat_in (lt_n hx8) hlhx8, p12.1, p12.2, e13, hx15, lt_t hx15, lt_p hx15, nat_in (lt_n hx15) hlhx15, p19.1, p19.2, e20, g18_1, g18_3, g18_4, g18_6, g18_7, g18_17, g18_18, g18_19, g18_29, g18_30, g18_31, og18_0, og18_1, og18_2]
          refine ⟨_, [], [0, 1, 2], (Option.some.inj h).symm, by decide, ?_⟩
          try simp only [go_sem, Int.reduceLT, Int.reduceLE, Int.reduceBEq, Int.reduceBNe, Nat.reduceBNe, Nat.reduceAdd, Nat.reduceMul, Nat.reduceEqDiff, Nat.reduceLeDiff, Nat.reduceLT, Nat.reduceBEq, reduceCtorEq, reduceIte, p1.1, p1.2, c6, hx8, lt_t hx8, lt_p hx8, nat_in (lt_n hx8) hlhx8, p12.1, p12.2, e13, hx15, lt_t hx15, lt_p hx15, nat_in (lt_n hx15) hlhx15, p19.1, p19.2, e20, g18_1, g18_3, g18_4, g18_6, g18_7, g18_17, g18_18, g18_19, g18_29, g18_30, g18_31, og18_0, og18_1, og18_2, IV, sts_cons, sts_nil, obs_cons, obs_nil]
        · rintro u_161 ⟨sl, ob, n⟩ hI21 hW22 h
          simp only [IV, sts_cons, sts_nil, obs_cons, obs_nil, and_true, true_and, Nat.reduceAdd, str_len] at hI21
          obtain ⟨⟨g23_1, g23_3, g23_4, g23_6, g23_7, g23_17, g23_18, g23_19, g23_29, g23_30, g23_31⟩, og23_0, og23_1, og23_2, hn⟩ := hI21
          subst hn
          try simp only [go_sem, Int.reduceLT, Int.reduceLE, Int.reduceBEq, Int.reduceBNe, Nat.reduceBNe, Nat.reduceAdd, Nat.reduceMul, Nat.reduceEqDiff, Nat.reduceLeDiff, Nat.reduceLT, Nat.reduceBEq, reduceCtorEq, reduceIte, p1.1, p1.2, c6, hx8, lt_t hx8, lt_p hx8, nat_in (lt_n hx8) hlhx8, p12.1, p12.2, e13, lt_f (x156.inn.length), g23_1, g23_3, g23_4, g23_6, g23_7, g23_17, g23_18, g23_19, g23_29, g23_30, g23_31, og23_0, og23_1, og23_2]
          refine swp_for h (fun i u_179 st => IV [(1, .bp 0 0), (3, .p false [.row 1]), (4, .p false [.c (.bool u_125)]), (6, .bp 2 0), (7, .p false [.c (.int .i64 u_179)]), (17, .p false [.c (.sl 49 3 (List.map eReason append_0.reasons))]), (18, .p false [.c (.int .i64 ((append_0.reasons.length : Nat) : Int))]), (19, .p false [.c (.int .i64 ((i155 : Nat) : Int))]), (43, .p false [.c (.sl 3 1 (List.map eInt x156.outs))]), (44, .p false [.c (.int .i64 ((x156.outs.length : Nat) : Int))]), (45, .p false [.c (.int .i64 ((i : Nat) : Int))])] [.box 37 [.c (.int .i64 append_0.nodes), .c (.sl 49 3 (List.map eReason append_0.reasons))], .row 3 1 (List.map eInt row_123) 2, .box 49 [.c (.int .i64 x156.for_), .c (.sl 3 1 (List.map eInt x156.inn)), .c (.sl 3 1 (List.map eInt x156.outs))]] st) [] [0, 1, 2] (by decide) ?_ ?_ ?_
          · simp only [go_sem, Int.reduceLT, Int.reduceLE, Int.reduceBEq, Int.reduceBNe, Nat.reduceBNe, Nat.reduceAdd, Nat.reduceMul, Nat.reduceEqDiff, Nat.reduceLeDiff, Nat.reduceLT, Nat.reduceBEq, reduceCtorEq, reduceIte, IV, sts_cons, sts_nil, obs_cons, obs_nil, p1.1, p1.2, c6, hx8, lt_t hx8, lt_p hx8, nat_in (lt_n hx8) hlhx8, p12.1, p12.2, e13, lt_f (x156.inn.length), g23_1, g23_3, g23_4, g23_6, g23_7, g23_17, g23_18, g23_19, g23_29, g23_30, g23_31, og23_0, og23_1, og23_2]
          · rintro i182 x183 u_179 ⟨sl, ob, n⟩ y24 hx25 hI26 hW27 h hy24
            simp only [IV, sts_cons, sts_nil, obs_cons, obs_nil, and_true, true_and, Nat.reduceAdd, str_len] at hI26
            obtain ⟨⟨g28_1, g28_3, g28_4, g28_6, g28_7, g28_17, g28_18, g28_19, g28_43, g28_44, g28_45⟩, og28_0, og28_1, og28_2, hn⟩ := hI26
            subst hn
            have hlhx25 := WF.slotL hW27 g28_43 (j := 0) rfl
            obtain ⟨p29, h⟩ := chk_K h
            obtain ⟨x184, e30, h⟩ := bind_K h
            try simp only [go_sem, Int.reduceLT, Int.reduceLE, Int.reduceBEq, Int.reduceBNe, Nat.reduceBNe, Nat.reduceAdd, Nat.reduceMul, Nat.reduceEqDiff, Nat.reduceLeDiff, Nat.reduceLT, Nat.reduceBEq, reduceCtorEq, reduceIte, p1.1, p1.2, c6, hx8, lt_t hx8, lt_p hx8, nat_in (lt_n hx8) hlhx8, p12.1, p12.2, e13, lt_f (x156.inn.length), hx25, lt_t hx25, lt_p hx25, nat_in (lt_n hx25) hlhx25, p29.1, p29.2, e30, g28_1, g28_3, g28_4, g28_6, g28_7, g28_17, g28_18, g28_19, g28_43, g28_44, g28_45, og28_0, og28_1, og28_2]
            refine ⟨_, [], [0, 1, 2], (Option.some.inj h).symm, by decide, ?_⟩
            try simp only [go_sem, Int.reduceLT, Int.reduceLE, Int.reduceBEq, Int.reduceBNe, Nat.reduceBNe, Nat.reduceAdd, Nat.reduceMul, Nat.reduceEqDiff, Nat.reduceLeDiff, Nat.reduceLT, Nat.reduceBEq, reduceCtorEq, reduceIte, p1.1, p1.2, c6, hx8, lt_t hx8, lt_p hx8, nat_in (lt_n hx8) hlhx8, p12.1, p12.2, e13, lt_f (x156.inn.length), hx25, lt_t hx25, lt_p hx25, nat_in (lt_n hx25) hlhx25, p29.1, p29.2, e30, g28_1, g28_3, g28_4, g28_6, g28_7, g28_17, g28_18, g28_19, g28_43, g28_44, g28_45, og28_0, og28_1, og28_2, IV, sts_cons, sts_nil, obs_cons, obs_nil]
          · rintro u_179 ⟨sl, ob, n⟩ hI31 hW32 h
            simp only [IV, sts_cons, sts_nil, obs_cons, obs_nil, and_true, true_and, Nat.reduceAdd, str_len] at hI31
            obtain ⟨⟨g33_1, g33_3, g33_4, g33_6, g33_7, g33_17, g33_18, g33_19, g33_43, g33_44, g33_45⟩, og33_0, og33_1, og33_2, hn⟩ := hI31
            subst hn
            try simp only [go_sem, Int.reduceLT, Int.reduceLE, Int.reduceBEq, Int.reduceBNe, Nat.reduceBNe, Nat.reduceAdd, Nat.reduceMul, Nat.reduceEqDiff, Nat.reduceLeDiff, Nat.reduceLT, Nat.reduceBEq, reduceCtorEq, reduceIte, p1.1, p1.2, c6, hx8, lt_t hx8, lt_p hx8, nat_in (lt_n hx8) hlhx8, p12.1, p12.2, e13, lt_f (x156.inn.length), lt_f (x156.outs.length), g33_1, g33_3, g33_4, g33_6, g33_7, g33_17, g33_18, g33_19, g33_43, g33_44, g33_45, og33_0, og33_1, og33_2]
            refine ite_K h (fun c34 h => ?_) (fun c34 h => ?_)
            · try simp only [go_sem, Int.reduceLT, Int.reduceLE, Int.reduceBEq, Int.reduceBNe, Nat.reduceBNe, Nat.reduceAdd, Nat.reduceMul, Nat.reduceEqDiff, Nat.reduceLeDiff, Nat.reduceLT, Nat.reduceBEq, reduceCtorEq, reduceIte, p1.1, p1.2, c6, hx8, lt_t hx8, lt_p hx8, nat_in (lt_n hx8) hlhx8, p12.1, p12.2, e13, lt_f (x156.inn.length), lt_f (x156.outs.length), c34, g33_1, g33_3, g33_4, g33_6, g33_7, g33_17, g33_18, g33_19, g33_43, g33_44, g33_45, og33_0, og33_1, og33_2]
              refine ⟨_, [], [0, 1], (Option.some.inj h).symm, by decide, ?_⟩
              try simp only [go_sem, Int.reduceLT, Int.reduceLE, Int.reduceBEq, Int.reduceBNe, Nat.reduceBNe, Nat.reduceAdd, Nat.reduceMul, Nat.reduceEqDiff, Nat.reduceLeDiff, Nat.reduceLT, Nat.reduceBEq, reduceCtorEq, reduceIte, p1.1, p1.2, c6, hx8, lt_t hx8, lt_p hx8, nat_in (lt_n hx8) hlhx8, p12.1, p12.2, e13, lt_f (x156.inn.length), lt_f (x156.outs.length), c34, g33_1, g33_3, g33_4, g33_6, g33_7, g33_17, g33_18, g33_19, g33_43, g33_44, g33_45, og33_0, og33_1, og33_2, IV, sts_cons, sts_nil, obs_cons, obs_nil]
            · try simp only [go_sem, Int.reduceLT, Int.reduceLE, Int.reduceBEq, Int.reduceBNe, Nat.reduceBNe, Nat.reduceAdd, Nat.reduceMul, Nat.reduceEqDiff, Nat.reduceLeDiff, Nat.reduceLT, Nat.reduceBEq, reduceCtorEq, reduceIte, p1.1, p1.2, c6, hx8, lt_t hx8, lt_p hx8, nat_in (lt_n hx8) hlhx8, p12.1, p12.2, e13, lt_f (x156.inn.length), lt_f (x156.outs.length), c34, g33_1, g33_3, g33_4, g33_6, g33_7, g33_17, g33_18, g33_19, g33_43, g33_44, g33_45, og33_0, og33_1, og33_2]
              refine ⟨_, [], [0, 1], (Option.some.inj h).symm, by decide, ?_⟩
              try simp only [go_sem, Int.reduceLT, Int.reduceLE, Int.reduceBEq, Int.reduceBNe, Nat.reduceBNe, Nat.reduceAdd, Nat.reduceMul, Nat.reduceEqDiff, Nat.reduceLeDiff, Nat.reduceLT, Nat.reduceBEq, reduceCtorEq, reduceIte, p1.1, p1.2, c6, hx8, lt_t hx8, lt_p hx8, nat_in (lt_n hx8) hlhx8, p12.1, p12.2, e13, lt_f (x156.inn.length), lt_f (x156.outs.length), c34, g33_1, g33_3, g33_4, g33_6, g33_7, g33_17, g33_18, g33_19, g33_43, g33_44, g33_45, og33_0, og33_1, og33_2, IV, sts_cons, sts_nil, obs_cons, obs_nil]
      · rintro ⟨row_123, u_125⟩ ⟨sl, ob, n⟩ hI35 hW36 h
        simp only [IV, sts_cons, sts_nil, obs_cons, obs_nil, and_true, true_and, Nat.reduceAdd, str_len] at hI35
        obtain ⟨⟨g37_1, g37_3, g37_4, g37_17, g37_18, g37_19⟩, og37_0, og37_1, hn⟩ := hI35
        subst hn
        try simp only [go_sem, Int.reduceLT, Int.reduceLE, Int.reduceBEq, Int.reduceBNe, Nat.reduceBNe, Nat.reduceAdd, Nat.reduceMul, Nat.reduceEqDiff, Nat.reduceLeDiff, Nat.reduceLT, Nat.reduceBEq, reduceCtorEq, reduceIte, p1.1, p1.2, c6, lt_f (append_0.reasons.length), g37_1, g37_3, g37_4, g37_17, g37_18, g37_19, og37_0, og37_1]
        refine ⟨_, [], [0, 1], (Option.some.inj h).symm, by decide, ?_⟩
        try simp only [go_sem, Int.reduceLT, Int.reduceLE, Int.reduceBEq, Int.reduceBNe, Nat.reduceBNe, Nat.reduceAdd, Nat.reduceMul, Nat.reduceEqDiff, Nat.reduceLeDiff, Nat.reduceLT, Nat.reduceBEq, reduceCtorEq, reduceIte, p1.1, p1.2, c6, lt_f (append_0.reasons.length), g37_1, g37_3, g37_4, g37_17, g37_18, g37_19, og37_0, og37_1, IV, sts_cons, sts_nil, obs_cons, obs_nil]
    · replace h := inr_K h hy2
      obtain rfl := Option.some.inj h
      try simp only [go_sem, Int.reduceLT, Int.reduceLE, Int.reduceBEq, Int.reduceBNe, Nat.reduceBNe, Nat.reduceAdd, Nat.reduceMul, Nat.reduceEqDiff, Nat.reduceLeDiff, Nat.reduceLT, Nat.reduceBEq, reduceCtorEq, reduceIte, p1.1, p1.2, c6, g5_1, g5_3, g5_4, og5_0, og5_1]
theorem i_supported_ok {r_0 : ReasonD} {rounds_1 : (List Int)} {before_2 : Int} {r : Bool} (h : i_supported r_0 rounds_1 before_2 = some r) : Sound Try.prog J0 102 [(true, eReason r_0), (false, [.sl 3 1 (List.map eInt rounds_1)]), (false, [.int .i64 before_2])] [(false, [(false, .bool r)])] := by
  refine fnk Try.func102 (by kernel_rfl) rfl (by kernel_rfl) (by kernel_rfl) ?_
  unfold i_supported at h
  simp only [fnS, f102, argSt, go_sem, Int.reduceLT, Int.reduceLE, Int.reduceBEq, Int.reduceBNe, Nat.reduceBNe, Nat.reduceAdd, Nat.reduceMul, Nat.reduceEqDiff, Nat.reduceLeDiff, Nat.reduceLT, Nat.reduceBEq, reduceCtorEq, reduceIte]
  refine swp_for h (fun i _ st => IV [(1, .p false [.c (.sl 3 1 (List.map eInt rounds_1))]), (2, .p false [.c (.int .i64 before_2)]), (3, .bp 0 0), (12, .p false [.c (.sl 3 1 (List.map eInt r_0.inn))]), (13, .p false [.c (.int .i64 ((r_0.inn.length : Nat) : Int))]), (14, .p false [.c (.int .i64 ((i : Nat) : Int))])] [.box 49 [.c (.int .i64 r_0.for_), .c (.sl 3 1 (List.map eInt r_0.inn)), .c (.sl 3 1 (List.map eInt r_0.outs))]] st) [] [0] (by decide) ?_ ?_ ?_
  · simp only [go_sem, Int.reduceLT, Int.reduceLE, Int.reduceBEq, Int.reduceBNe, Nat.reduceBNe, Nat.reduceAdd, Nat.reduceMul, Nat.reduceEqDiff, Nat.reduceLeDiff, Nat.reduceLT, Nat.reduceBEq, reduceCtorEq, reduceIte, IV, sts_cons, sts_nil, obs_cons, obs_nil]
  · rintro i14 x15 ⟨⟩ ⟨sl, ob, n⟩ y1 hx2 hI3 hW4 h hy1
    simp only [IV, sts_cons, sts_nil, obs_cons, obs_nil, and_true, true_and, Nat.reduceAdd, str_len] at hI3
    obtain ⟨⟨g5_1, g5_2, g5_3, g5_12, g5_13, g5_14⟩, og5_0, hn⟩ := hI3
    subst hn
    have hlhx2 := WF.slotL hW4 g5_12 (j := 0) rfl
    obtain ⟨x16, a6, a7, e8, h⟩ := at_K h
    try simp only [go_sem, Int.reduceLT, Int.reduceLE, Int.reduceBEq, Int.reduceBNe, Nat.reduceBNe, Nat.reduceAdd, Nat.reduceMul, Nat.reduceEqDiff, Nat.reduceLeDiff, Nat.reduceLT, Nat.reduceBEq, reduceCtorEq, reduceIte, hx2, lt_t hx2, lt_p hx2, nat_in (lt_n hx2) hlhx2, a6, a7, e8, g5_1, g5_2, g5_3, g5_12, g5_13, g5_14, og5_0]
    refine ite_K h (fun c9 h => ?_) (fun c9 h => ?_)
    · replace h := inr_K h hy1
      obtain rfl := Option.some.inj h
      try simp only [go_sem, Int.reduceLT, Int.reduceLE, Int.reduceBEq, Int.reduceBNe, Nat.reduceBNe, Nat.reduceAdd, Nat.reduceMul, Nat.reduceEqDiff, Nat.reduceLeDiff, Nat.reduceLT, Nat.reduceBEq, reduceCtorEq, reduceIte, hx2, lt_t hx2, lt_p hx2, nat_in (lt_n hx2) hlhx2, a6, a7, e8, c9, g5_1, g5_2, g5_3, g5_12, g5_13, g5_14, og5_0]
    · try simp only [go_sem, Int.reduceLT, Int.reduceLE, Int.reduceBEq, Int.reduceBNe, Nat.reduceBNe, Nat.reduceAdd, Nat.reduceMul, Nat.reduceEqDiff, Nat.reduceLeDiff, Nat.reduceLT, Nat.reduceBEq, reduceCtorEq, reduceIte, hx2, lt_t hx2, lt_p hx2, nat_in (lt_n hx2) hlhx2, a6, a7, e8, c9, g5_1, g5_2, g5_3, g5_12, g5_13, g5_14, og5_0]
      refine ite_K h (fun c10 h => ?_) (fun c10 h => ?_)
      · replace h := inr_K h hy1
        obtain rfl := Option.some.inj h
        try simp only [go_sem, Int.reduceLT, Int.reduceLE, Int.reduceBEq, Int.reduceBNe, Nat.reduceBNe, Nat.reduceAdd, Nat.reduceMul, Nat.reduceEqDiff, Nat.reduceLeDiff, Nat.reduceLT, Nat.reduceBEq, reduceCtorEq, reduceIte, hx2, lt_t hx2, lt_p hx2, nat_in (lt_n hx2) hlhx2, a6, a7, e8, c9, c10, g5_1, g5_2, g5_3, g5_12, g5_13, g5_14, og5_0]
      · try simp only [go_sem, Int.reduceLT, Int.reduceLE, Int.reduceBEq, Int.reduceBNe, Nat.reduceBNe, Nat.reduceAdd, Nat.reduceMul, Nat.reduceEqDiff, Nat.reduceLeDiff, Nat.reduceLT, Nat.reduceBEq, reduceCtorEq, reduceIte, hx2, lt_t hx2, lt_p hx2, nat_in (lt_n hx2) hlhx2, a6, a7, e8, c9, c10, g5_1, g5_2, g5_3, g5_12, g5_13, g5_14, og5_0]
        refine ⟨_, [], [0], (Option.some.inj h).symm, by decide, ?_⟩
        try simp only [go_sem, Int.reduceLT, Int.reduceLE, Int.reduceBEq, Int.reduceBNe, Nat.reduceBNe, Nat.reduceAdd, Nat.reduceMul, Nat.reduceEqDiff, Nat.reduceLeDiff, Nat.reduceLT, Nat.reduceBEq, reduceCtorEq, reduceIte, hx2, lt_t hx2, lt_p hx2, nat_in (lt_n hx2) hlhx2, a6, a7, e8, c9, c10, g5_1, g5_2, g5_3, g5_12, g5_13, g5_14, og5_0, IV, sts_cons, sts_nil, obs_cons, obs_nil]
  · rintro ⟨⟩ ⟨sl, ob, n⟩ hI11 hW12 h
    simp only [IV, sts_cons, sts_nil, obs_cons, obs_nil, and_true, true_and, Nat.reduceAdd, str_len] at hI11
    obtain ⟨⟨g13_1, g13_2, g13_3, g13_12, g13_13, g13_14⟩, og13_0, hn⟩ := hI11
    subst hn
    try simp only [go_sem, Int.reduceLT, Int.reduceLE, Int.reduceBEq, Int.reduceBNe, Nat.reduceBNe, Nat.reduceAdd, Nat.reduceMul, Nat.reduceEqDiff, Nat.reduceLeDiff, Nat.reduceLT, Nat.reduceBEq, reduceCtorEq, reduceIte, lt_f (r_0.inn.length), g13_1, g13_2, g13_3, g13_12, g13_13, g13_14, og13_0]
    refine swp_for h (fun i _ st => IV [(1, .p false [.c (.sl 3 1 (List.map eInt rounds_1))]), (33, .p false [.c (.sl 3 1 (List.map eInt r_0.outs))]), (34, .p false [.c (.int .i64 ((r_0.outs.length : Nat) : Int))]), (35, .p false [.c (.int .i64 ((i : Nat) : Int))])] [] st) [] [] (by decide) ?_ ?_ ?_
    · simp only [go_sem, Int.reduceLT, Int.reduceLE, Int.reduceBEq, Int.reduceBNe, Nat.reduceBNe, Nat.reduceAdd, Nat.reduceMul, Nat.reduceEqDiff, Nat.reduceLeDiff, Nat.reduceLT, Nat.reduceBEq, reduceCtorEq, reduceIte, IV, sts_cons, sts_nil, obs_cons, obs_nil, lt_f (r_0.inn.length), g13_1, g13_2, g13_3, g13_12, g13_13, g13_14, og13_0]
    · rintro i22 x23 ⟨⟩ ⟨sl, ob, n⟩ y14 hx15 hI16 hW17 h hy14
      simp only [IV, sts_cons, sts_nil, obs_cons, obs_nil, and_true, true_and, Nat.reduceAdd, str_len] at hI16
      obtain ⟨⟨g18_1, g18_33, g18_34, g18_35⟩, hn⟩ := hI16
      subst hn
      have hlhx15 := WF.slotL hW17 g18_33 (j := 0) rfl
      obtain ⟨x24, a19, a20, e21, h⟩ := at_K h
      try simp only [go_sem, Int.reduceLT, Int.reduceLE, Int.reduceBEq, Int.reduceBNe, Nat.reduceBNe, Nat.reduceAdd, Nat.reduceMul, Nat.reduceEqDiff, Nat.reduceLeDiff, Nat.reduceLT, Nat.reduceBEq, reduceCtorEq, reduceIte, lt_f (r_0.inn.length), hx15, lt_t hx15, lt_p hx15, nat_in (lt_n hx15) hlhx15, a19, a20, e21, g18_1, g18_33, g18_34, g18_35]
      refine ite_K h (fun c22 h => ?_) (fun c22 h => ?_)
      · replace h := inr_K h hy14
        obtain rfl := Option.some.inj h
        try simp only [go_sem, Int.reduceLT, Int.reduceLE, Int.reduceBEq, Int.reduceBNe, Nat.reduceBNe, Nat.reduceAdd, Nat.reduceMul, Nat.reduceEqDiff, Nat.reduceLeDiff, Nat.reduceLT, Nat.reduceBEq, reduceCtorEq, reduceIte, lt_f (r_0.inn.length), hx15, lt_t hx15, lt_p hx15, nat_in (lt_n hx15) hlhx15, a19, a20, e21, c22, g18_1, g18_33, g18_34, g18_35]
      · try simp only [go_sem, Int.reduceLT, Int.reduceLE, Int.reduceBEq, Int.reduceBNe, Nat.reduceBNe, Nat.reduceAdd, Nat.reduceMul, Nat.reduceEqDiff, Nat.reduceLeDiff, Nat.reduceLT, Nat.reduceBEq, reduceCtorEq, reduceIte, lt_f (r_0.inn.length), hx15, lt_t hx15, lt_p hx15, nat_in (lt_n hx15) hlhx15, a19, a20, e21, c22, g18_1, g18_33, g18_34, g18_35]
        refine ⟨_, [], [], (Option.some.inj h).symm, by decide, ?_⟩
        try simp only [go_sem, Int.reduceLT, Int.reduceLE, Int.reduceBEq, Int.reduceBNe, Nat.reduceBNe, Nat.reduceAdd, Nat.reduceMul, Nat.reduceEqDiff, Nat.reduceLeDiff, Nat.reduceLT, Nat.reduceBEq, reduceCtorEq, reduceIte, lt_f (r_0.inn.length), hx15, lt_t hx15, lt_p hx15, nat_in (lt_n hx15) hlhx15, a19, a20, e21, c22, g18_1, g18_33, g18_34, g18_35, IV, sts_cons, sts_nil, obs_cons, obs_nil]
    · rintro ⟨⟩ ⟨sl, ob, n⟩ hI23 hW24 h
      simp only [IV, sts_cons, sts_nil, obs_cons, obs_nil, and_true, true_and, Nat.reduceAdd, str_len] at hI23
      obtain ⟨⟨g25_1, g25_33, g25_34, g25_35⟩, hn⟩ := hI23
      subst hn
      obtain rfl := Option.some.inj h
      try simp only [go_sem, Int.reduceLT, Int.reduceLE, Int.reduceBEq, Int.reduceBNe, Nat.reduceBNe, Nat.reduceAdd, Nat.reduceMul, Nat.reduceEqDiff, Nat.reduceLeDiff, Nat.reduceLT, Nat.reduceBEq, reduceCtorEq, reduceIte, lt_f (r_0.inn.length), lt_f (r_0.outs.length), g25_1, g25_33, g25_34, g25_35]
theorem i_isSet_ok {f_0 : FrameD} {set_1 : Int} {r : Bool} (h : i_isSet f_0 set_1 = some r) : Sound Try.prog J0 48 [(true, eFrame f_0), (false, [.int .i64 set_1])] [(false, [(false, .bool r)])] := by
  refine fnk Try.func48 (by kernel_rfl) rfl (by kernel_rfl) (by kernel_rfl) ?_
  unfold i_isSet at h
  simp only [fnS, f48, argSt, go_sem, Int.reduceLT, Int.reduceLE, Int.reduceBEq, Int.reduceBNe, Nat.reduceBNe, Nat.reduceAdd, Nat.reduceMul, Nat.reduceEqDiff, Nat.reduceLeDiff, Nat.reduceLT, Nat.reduceBEq, reduceCtorEq, reduceIte]
  refine ite_K h (fun c1 h => ?_) (fun c1 h => ?_)
  · obtain ⟨p2, h⟩ := chk_K h
    obtain rfl := Option.some.inj h
    try simp only [go_sem, Int.reduceLT, Int.reduceLE, Int.reduceBEq, Int.reduceBNe, Nat.reduceBNe, Nat.reduceAdd, Nat.reduceMul, Nat.reduceEqDiff, Nat.reduceLeDiff, Nat.reduceLT, Nat.reduceBEq, reduceCtorEq, reduceIte, c1, p2]
  · obtain rfl := Option.some.inj h
    try simp only [go_sem, Int.reduceLT, Int.reduceLE, Int.reduceBEq, Int.reduceBNe, Nat.reduceBNe, Nat.reduceAdd, Nat.reduceMul, Nat.reduceEqDiff, Nat.reduceLeDiff, Nat.reduceLT, Nat.reduceBEq, reduceCtorEq, reduceIte, c1]
theorem w_at_ok {code_0 : (List Int)} {i_1 : Int} {r : Int} (h : w_at code_0 i_1 = some r) : Sound Try.prog J0 23 [(false, [.sl 5 1 (List.map eByte code_0)]), (false, [.int .i64 i_1])] [(false, [(false, .int .i64 r)])] := by
  refine fnk Try.func23 (by kernel_rfl) rfl (by kernel_rfl) (by kernel_rfl) ?_
  unfold w_at at h
  simp only [fnS, f23, argSt, go_sem, Int.reduceLT, Int.reduceLE, Int.reduceBEq, Int.reduceBNe, Nat.reduceBNe, Nat.reduceAdd, Nat.reduceMul, Nat.reduceEqDiff, Nat.reduceLeDiff, Nat.reduceLT, Nat.reduceBEq, reduceCtorEq, reduceIte]
  refine ite_K h (fun c1 h => ?_) (fun c1 h => ?_)
  · obtain rfl := Option.some.inj h
    try simp only [go_sem, Int.reduceLT, Int.reduceLE, Int.reduceBEq, Int.reduceBNe, Nat.reduceBNe, Nat.reduceAdd, Nat.reduceMul, Nat.reduceEqDiff, Nat.reduceLeDiff, Nat.reduceLT, Nat.reduceBEq, reduceCtorEq, reduceIte, c1]
  · obtain ⟨x1, a2, a3, e4, h⟩ := at_K h
    obtain rfl := Option.some.inj h
    try simp only [go_sem, Int.reduceLT, Int.reduceLE, Int.reduceBEq, Int.reduceBNe, Nat.reduceBNe, Nat.reduceAdd, Nat.reduceMul, Nat.reduceEqDiff, Nat.reduceLeDiff, Nat.reduceLT, Nat.reduceBEq, reduceCtorEq, reduceIte, c1, a2, a3, e4]
end Go.Proofs.Ytfbonanbiblkbaa

namespace Go.Proofs
open Go.Shelf
def Try.lays191_ren : Go.Shelf.Ren := ⟨fun | 191 => 38 | 189 => 68 | 125 => 86 | 257 => 85 | 128 => 112 | 129 => 113 | 294 => 103 | 295 => 104 | 296 => 105 | 297 => 106 | 298 => 107 | 299 => 108 | 216 => 109 | 300 => 110 | 301 => 111 | 328 => 115 | 329 => 116 | 330 => 117 | 331 => 118 | 332 => 119 | 215 => 120 | 343 => 122 | n => n, fun | 28 => 24 | 0 => 0 | 3 => 3 | 46 => 98 | 51 => 114 | 53 => 116 | 4 => 4 | 183 => 107 | 182 => 106 | 131 => 111 | 5 => 5 | 9 => 9 | 218 => 117 | 222 => 121 | 228 => 123 | 229 => 124 | n => n, fun | n => n⟩
theorem Try.lays191 : Go.Proofs.Lays.n191 Try.prog Try.lays191_ren := {
  mixed := by kernel_rfl
  f125 := Try.func86.trans (congrArg some (by kernel_rfl))
  f128 := Try.func112.trans (congrArg some (by kernel_rfl))
  f129 := Try.func113.trans (congrArg some (by kernel_rfl))
  f189 := Try.func68.trans (congrArg some (by kernel_rfl))
  f191 := Try.func38.trans (congrArg some (by kernel_rfl))
  f215 := Try.func120.trans (congrArg some (by kernel_rfl))
  f216 := Try.func109.trans (congrArg some (by kernel_rfl))
  f257 := Try.func85.trans (congrArg some (by kernel_rfl))
  f294 := Try.func103.trans (congrArg some (by kernel_rfl))
  f295 := Try.func104.trans (congrArg some (by kernel_rfl))
  f296 := Try.func105.trans (congrArg some (by kernel_rfl))
  f297 := Try.func106.trans (congrArg some (by kernel_rfl))
  f298 := Try.func107.trans (congrArg some (by kernel_rfl))
  f299 := Try.func108.trans (congrArg some (by kernel_rfl))
  f300 := Try.func110.trans (congrArg some (by kernel_rfl))
  f301 := Try.func111.trans (congrArg some (by kernel_rfl))
  f328 := Try.func115.trans (congrArg some (by kernel_rfl))
  f329 := Try.func116.trans (congrArg some (by kernel_rfl))
  f330 := Try.func117.trans (congrArg some (by kernel_rfl))
  f331 := Try.func118.trans (congrArg some (by kernel_rfl))
  f332 := Try.func119.trans (congrArg some (by kernel_rfl))
  f343 := Try.func122.trans (congrArg some (by kernel_rfl))
  t0 := Try.underlying0
  a0 := Try.isAgg0
  z0 := Try.sizeOf0
  v0 := Try.zeroValue0
  t3 := Try.underlying3
  a3 := Try.isAgg3
  z3 := Try.sizeOf3
  v3 := Try.zeroValue3
  t4 := Try.underlying4
  a4 := Try.isAgg4
  z4 := Try.sizeOf4
  v4 := Try.zeroValue4
  t5 := Try.underlying5
  a5 := Try.isAgg5
  z5 := Try.sizeOf5
  v5 := Try.zeroValue5
  t9 := Try.underlying9
  a9 := Try.isAgg9
  z9 := Try.sizeOf9
  v9 := Try.zeroValue9
  t28 := Try.underlying24
  a28 := Try.isAgg24
  z28 := Try.sizeOf24
  v28 := Try.zeroValue24
  t46 := Try.underlying98
  a46 := Try.isAgg98
  z46 := Try.sizeOf98
  v46 := Try.zeroValue98
  t51 := Try.underlying114
  a51 := Try.isAgg114
  z51 := Try.sizeOf114
  v51 := Try.zeroValue114
  t53 := Try.underlying116
  a53 := Try.isAgg116
  z53 := Try.sizeOf116
  v53 := Try.zeroValue116
  t131 := Try.underlying111
  a131 := Try.isAgg111
  z131 := Try.sizeOf111
  v131 := Try.zeroValue111
  t182 := Try.underlying106
  a182 := Try.isAgg106
  z182 := Try.sizeOf106
  v182 := Try.zeroValue106
  t183 := Try.underlying107
  a183 := Try.isAgg107
  z183 := Try.sizeOf107
  v183 := Try.zeroValue107
  t218 := Try.underlying117
  a218 := Try.isAgg117
  z218 := Try.sizeOf117
  v218 := Try.zeroValue117
  t222 := Try.underlying121
  a222 := Try.isAgg121
  z222 := Try.sizeOf121
  v222 := Try.zeroValue121
  t228 := Try.underlying123
  a228 := Try.isAgg123
  z228 := Try.sizeOf123
  v228 := Try.zeroValue123
  t229 := Try.underlying124
  a229 := Try.isAgg124
  z229 := Try.sizeOf124
  v229 := Try.zeroValue124 }
open Go.Sort Go.RowKit in
theorem Try.sort_Ints (blk off cap : Nat) (zs : List Int) (w : World) (hH : Holds (Value.int .i64) w blk off zs.toArray) (hblk : blk < w.heap.size) (hsz : zs.length < 4611686018427387904) :
    Calls Try.prog 38 #[.slice (some ⟨blk, off, none⟩) zs.length cap] w fun e w' =>
      e = .returned (.tuple #[]) ∧ ∃ n os, w' = grow (putRow (Value.int .i64) (Sort.ahead w n) blk off (zs.mergeSort fun x y => decide (x ≤ y)).toArray) os := Any.sort_Ints Try.lays191 blk off cap zs w hH hblk hsz
open Go.RowKit Go.Sort in
/-- .. and plain. (LAID: no walk: one application.) -/
theorem Try.sort_Ints_none (p : Option Addr) (cap : Nat) (w : World) :
    Calls Try.prog 38 #[.slice p 0 cap] w fun e w' => e = .returned (.tuple #[]) ∧ w' = w := Any.sort_Ints_none Try.lays191 p cap w
end Go.Proofs

namespace Go.Proofs.Ytfbonanbiblkbaa
open Go.RowKit Go.Sort
theorem sort_hand {α : Type} [Inhabited α] {P : Program} {J : World → Prop} {JF : Nat → Prop} (enc : α → Value) (el : α → List CT) (hel : ∀ (w : World) x v L, RCs w (el x) v L → v = [enc x]) (hmv : ∀ (w w' : World) x, RCs w (el x) [enc x] [] → RCs w' (el x) [enc x] []) (hflat : ∀ l : List α, flatEs (l.map el) = true) {f : FuncId} {e : TypeId} {zs d : List α} (hc : Callable P f) (hd : d.length = zs.length) (hsub : ∀ x ∈ d, x ∈ zs)
    (hN : ∀ p cap w, Calls P f #[.slice p 0 cap] w fun e w' => e = .returned (.tuple #[]) ∧ w' = w)
    (hC : ∀ blk cap w, Holds enc w blk 0 zs.toArray → blk < w.heap.size → Calls P f #[.slice (some ⟨blk, 0, none⟩) zs.length cap] w fun e w' => e = .returned (.tuple #[]) ∧ ∃ n os, w' = grow (putRow enc (Sort.ahead w n) blk 0 d.toArray) os) :
    SoundH P J JF f (.row e 1 (zs.map el)) [] [] (.row e 1 (d.map el)) := by
  refine ⟨hc, fun w z q v0 vs hj hqf hz hh ha => ?_⟩
  cases vs with
  | cons _ _ => exact ha.elim
  | nil =>
  obtain ⟨hfl, hm, hq, cs, hown, hre⟩ := hh
  have hcs : ∀ (l : List α) (cs : List Value) (L : List Nat), REs w 1 (l.map el) cs L → cs = l.map enc ∧ (L = [] → ∀ x ∈ l, RCs w (el x) [enc x] []) := by
    intro l
    induction l with
    | nil => intro cs L h; exact ⟨h.1, fun _ x mx => by simp at mx⟩
    | cons x l ih =>
      rintro cs L ⟨c1, c2, L1, L2, rfl, rfl, h3, h4⟩
      obtain ⟨i1, i2⟩ := ih _ _ h4
      have e1 := hel _ _ _ _ h3.1
      refine ⟨by rw [e1, i1]; rfl, fun hL y my => ?_⟩
      obtain ⟨l1, l2⟩ := List.append_eq_nil_iff.1 hL
      rcases List.mem_cons.1 my with rfl | my
      · rw [← e1, ← l1]; exact h3.1
      · exact i2 l2 y my
  obtain ⟨e1, e2⟩ := hcs zs cs [] hre
  have e2 := e2 rfl
  subst e1
  have hre' : ∀ (w' : World) (l : List α), (∀ x ∈ l, x ∈ zs) → REs w' 1 (l.map el) (l.map enc) [] := by
    intro w' l
    induction l with
    | nil => intro _; exact ⟨rfl, rfl⟩
    | cons x l ih => intro hl; exact ⟨[enc x], l.map enc, [], [], rfl, rfl, ⟨hmv w w' x (e2 x (hl x (by simp))), rfl⟩, ih fun y my => hl y (by simp [my])⟩
  have hzl : (zs.map el).length = zs.length := by simp
  rw [hzl] at hown
  have done : ∀ w' : World, w'.os = w.os → w'.tape = w.tape → w'.output = w.output → w.heap.size ≤ w'.heap.size → (∀ k, k < w.heap.size → ¬ q = some k → w'.heap[k]? = w.heap[k]?) → w'.ownsRow 0 e 1 v0 d.length (d.map enc) → ∃ v n, Ending.returned (.tuple #[]) = .returned v ∧ ResR w' w.heap.size n [] v ∧ (∀ b, inQ z q b → n b) ∧ HandR w' n q (.row e 1 (d.map el)) v0 ∧ BelQ q w w' :=
    fun w' h1 h2 h3 h4 h5 h6 => ⟨_, inQ z q, rfl, ⟨[], [], ⟨rfl, rfl⟩, Own.nil _ _, rfl⟩, fun _ h => h, ⟨hflat d, by omega, hq, d.map enc, by simpa using h6, hre' w' d hsub⟩, ⟨h1, h2, h3, h4, h5⟩⟩
  rcases Nat.eq_zero_or_pos zs.length with h0 | h0
  · have hz0 : zs = [] := List.eq_nil_of_length_eq_zero h0
    have hd0 : d = [] := List.eq_nil_of_length_eq_zero (hd.trans h0)
    obtain ⟨A, cap, hv⟩ := own_val hown
    rw [h0] at hv
    subst hv
    refine (hN A cap w).mono ?_
    rintro e' w' ⟨rfl, rfl⟩
    exact done w' rfl rfl rfl (Nat.le_refl _) (fun _ _ _ => rfl) (by rw [hd0]; rw [hz0] at hown; exact hown)
  · rcases hown.2 with ⟨h', hl0⟩ | ⟨g, cap, cur, h', hb, hg, hnc, hcm, hcsz, htake⟩
    · omega
    · subst h'
      have hlt : g < w.heap.size := (Array.getElem?_eq_some_iff.1 hg).1
      have hcur : ∀ j, j < zs.length → cur[j]? = some (enc zs[j]!) := fun j hj => by
        have := congrArg (fun l => l[j]?) htake
        simp only [Nat.mul_one, List.getElem?_take, hj, if_true, Array.getElem?_toList, List.getElem?_map] at this
        rw [this]
        simp [List.getElem!_eq_getElem?_getD, hj]
      refine (hC g cap w (fun j hj => ?_) hlt).mono ?_
      · have hj' : j < zs.length := by simpa using hj
        refine ⟨?_, by simp [World.frozen?, hg]⟩
        simp only [World.cell?, hg, Option.isSome_none, Bool.false_eq_true, if_false, Nat.zero_add]
        rw [hcur j hj']
        simp [hj']
      · rintro e' w' ⟨rfl, n, os, rfl⟩
        have hh : (putRow enc (Sort.ahead w n) g 0 d.toArray).heap[g]? = some (.cells (putCells enc 0 d.toArray cur) e (0, 0)) := by
          simp only [putRow, mapBlock, heap_ahead, Array.getElem?_modify, if_true, hg, Option.map_some, onCells]
        refine done _ rfl rfl rfl (by simp) (fun k hk hqk => ?_) ⟨by simp, .inr ⟨g, cap, putCells enc 0 d.toArray cur, by rw [hd], by omega, ?_, by omega, hcm, by simpa [putCells] using hcsz, ?_⟩⟩
        · rw [heap_grow_old _ _ (by simpa using hk)]
          simp only [putRow, mapBlock, heap_ahead, Array.getElem?_modify]
          rw [if_neg (fun e => hqk (by rw [← hq]; simp [Value.ownBlock, e]))]
        · rw [heap_grow_old _ _ (by simpa using hlt)]; exact hh
        · apply List.ext_getElem?
          intro j
          simp only [Nat.mul_one, List.getElem?_take, List.getElem?_map, Array.getElem?_toList, putCells, Array.getElem?_mapIdx, List.size_toArray]
          by_cases hj : j < d.length
          · have hjc : j < cur.size := by omega
            simp [hj, hjc]
          · simp [hj]
end Go.Proofs.Ytfbonanbiblkbaa

namespace Go.Proofs.Ytfbonanbiblkbaa
open Go.RowKit Go.Sort
theorem sortInts_H {J : World → Prop} {JF : Nat → Prop} {l r : List Int} (h : x_sortInts l = some r) : SoundH Try.prog J JF 38 (.row 3 1 (l.map eInt)) [] [] (.row 3 1 (r.map eInt)) := by
  obtain ⟨h1, h2⟩ := chk_K h
  obtain rfl := Option.some.inj h2
  refine sort_hand (Value.int .i64) eInt (fun w x v L h => ?_) (fun w w' x h => h) eInt_flat ⟨Try.f38, Try.func38, by kernel_rfl, by kernel_rfl⟩ (by simp [sortZ]) (fun x hx => by simpa [sortZ] using hx) (fun p cap w => Try.sort_Ints_none p cap w) (fun blk cap w hH hb => Try.sort_Ints blk 0 cap l w hH hb (by omega))
  obtain ⟨u, vs, L1, L2, rfl, rfl, q1, rfl, rfl⟩ := h
  rw [q1.1]
end Go.Proofs.Ytfbonanbiblkbaa

namespace Go.Proofs.Ytfbonanbiblkbaa
theorem x_sortInts_ok {l r : List Int} (h : x_sortInts l = some r) : SoundH Try.prog J0 JF0 38 (.row 3 1 (l.map eInt)) [] [] (.row 3 1 (r.map eInt)) := sortInts_H h
end Go.Proofs.Ytfbonanbiblkbaa

namespace Go.Proofs.Ytfbonanbiblkbaa
open Go.Proofs.Try
set_option linter.unusedSimpArgs false
set_option linter.unusedVariables false
set_option maxRecDepth 1000000
set_option maxHeartbeats 4000000
theorem s_l1Below_ok {c_0 : l1CurD} {n_1 : Int} {r : (Int × l1CurD)} (h : s_l1Below c_0 n_1 = some r) : SoundH Try.prog J0 JF0 39 (.box 75 (el1Cur c_0)) [(false, [.int .i64 n_1])] [(false, [(false, .int .i64 r.1)])] (.box 75 (el1Cur r.2)) := by
  refine fnh Try.func39 (by kernel_rfl) rfl (by kernel_rfl) (by kernel_rfl) ?_
  unfold s_l1Below at h
  simp only [fnH, f39, handSt, handSV, handOb, go_sem, Int.reduceLT, Int.reduceLE, Int.reduceBEq, Int.reduceBNe, Nat.reduceBNe, Nat.reduceAdd, Nat.reduceMul, Nat.reduceEqDiff, Nat.reduceLeDiff, Nat.reduceLT, Nat.reduceBEq, reduceCtorEq, reduceIte]
  refine ite_K h (fun c1 h => ?_) (fun c1 h => ?_)
  · obtain rfl := Option.some.inj h
    try simp only [go_sem, Int.reduceLT, Int.reduceLE, Int.reduceBEq, Int.reduceBNe, Nat.reduceBNe, Nat.reduceAdd, Nat.reduceMul, Nat.reduceEqDiff, Nat.reduceLeDiff, Nat.reduceLT, Nat.reduceBEq, reduceCtorEq, reduceIte, c1]
  · try simp only [go_sem, Int.reduceLT, Int.reduceLE, Int.reduceBEq, Int.reduceBNe, Nat.reduceBNe, Nat.reduceAdd, Nat.reduceMul, Nat.reduceEqDiff, Nat.reduceLeDiff, Nat.reduceLT, Nat.reduceBEq, reduceCtorEq, reduceIte, c1]
    refine ite_K h (fun c2 h => ?_) (fun c2 h => ?_)
    · try simp only [go_sem, Int.reduceLT, Int.reduceLE, Int.reduceBEq, Int.reduceBNe, Nat.reduceBNe, Nat.reduceAdd, Nat.reduceMul, Nat.reduceEqDiff, Nat.reduceLeDiff, Nat.reduceLT, Nat.reduceBEq, reduceCtorEq, reduceIte, c1, c2]
      obtain ⟨v1, e3, h⟩ := bind_K h
      refine hand_K (by first | exact s_l1Byte_ok e3 | simpa only [go_sem, Int.reduceLT, Int.reduceLE, Int.reduceBEq, Int.reduceBNe, Nat.reduceBNe, Nat.reduceAdd, Nat.reduceMul, Nat.reduceEqDiff, Nat.reduceLeDiff, Nat.reduceLT, Nat.reduceBEq, reduceCtorEq, reduceIte, c1, c2] using s_l1Byte_ok e3) ?_
      obtain ⟨p4, h⟩ := chk_K h
      obtain rfl := Option.some.inj h
      try simp only [go_sem, Int.reduceLT, Int.reduceLE, Int.reduceBEq, Int.reduceBNe, Nat.reduceBNe, Nat.reduceAdd, Nat.reduceMul, Nat.reduceEqDiff, Nat.reduceLeDiff, Nat.reduceLT, Nat.reduceBEq, reduceCtorEq, reduceIte, c1, c2, p4]
    · try simp only [go_sem, Int.reduceLT, Int.reduceLE, Int.reduceBEq, Int.reduceBNe, Nat.reduceBNe, Nat.reduceAdd, Nat.reduceMul, Nat.reduceEqDiff, Nat.reduceLeDiff, Nat.reduceLT, Nat.reduceBEq, reduceCtorEq, reduceIte, c1, c2]
      obtain ⟨v2, e5, h⟩ := bind_K h
      refine hand_K (by first | exact s_l1Byte_ok e5 | simpa only [go_sem, Int.reduceLT, Int.reduceLE, Int.reduceBEq, Int.reduceBNe, Nat.reduceBNe, Nat.reduceAdd, Nat.reduceMul, Nat.reduceEqDiff, Nat.reduceLeDiff, Nat.reduceLT, Nat.reduceBEq, reduceCtorEq, reduceIte, c1, c2] using s_l1Byte_ok e5) ?_
      try simp only [go_sem, Int.reduceLT, Int.reduceLE, Int.reduceBEq, Int.reduceBNe, Nat.reduceBNe, Nat.reduceAdd, Nat.reduceMul, Nat.reduceEqDiff, Nat.reduceLeDiff, Nat.reduceLT, Nat.reduceBEq, reduceCtorEq, reduceIte, c1, c2]
      obtain ⟨v3, e6, h⟩ := bind_K h
      refine hand_K (by first | exact s_l1Byte_ok e6 | simpa only [go_sem, Int.reduceLT, Int.reduceLE, Int.reduceBEq, Int.reduceBNe, Nat.reduceBNe, Nat.reduceAdd, Nat.reduceMul, Nat.reduceEqDiff, Nat.reduceLeDiff, Nat.reduceLT, Nat.reduceBEq, reduceCtorEq, reduceIte, c1, c2] using s_l1Byte_ok e6) ?_
      try simp only [go_sem, Int.reduceLT, Int.reduceLE, Int.reduceBEq, Int.reduceBNe, Nat.reduceBNe, Nat.reduceAdd, Nat.reduceMul, Nat.reduceEqDiff, Nat.reduceLeDiff, Nat.reduceLT, Nat.reduceBEq, reduceCtorEq, reduceIte, c1, c2]
      obtain ⟨v4, e7, h⟩ := bind_K h
      refine hand_K (by first | exact s_l1Byte_ok e7 | simpa only [go_sem, Int.reduceLT, Int.reduceLE, Int.reduceBEq, Int.reduceBNe, Nat.reduceBNe, Nat.reduceAdd, Nat.reduceMul, Nat.reduceEqDiff, Nat.reduceLeDiff, Nat.reduceLT, Nat.reduceBEq, reduceCtorEq, reduceIte, c1, c2] using s_l1Byte_ok e7) ?_
      obtain ⟨p8, h⟩ := chk_K h
      obtain rfl := Option.some.inj h
      try simp only [go_sem, Int.reduceLT, Int.reduceLE, Int.reduceBEq, Int.reduceBNe, Nat.reduceBNe, Nat.reduceAdd, Nat.reduceMul, Nat.reduceEqDiff, Nat.reduceLeDiff, Nat.reduceLT, Nat.reduceBEq, reduceCtorEq, reduceIte, c1, c2, p8]
theorem i_LeastSets_ok {l_0 : (List Int)} {r : (List Int)} (h : i_LeastSets l_0 = some r) : Sound Try.prog J0 15 [(false, [.sl 3 1 (List.map eInt l_0)])] [(false, [(false, .sl 3 1 (List.map eInt r))])] := by
  refine fnk Try.func15 (by kernel_rfl) rfl (by kernel_rfl) (by kernel_rfl) ?_
  unfold i_LeastSets at h
  simp only [fnS, f15, argSt, go_sem, Int.reduceLT, Int.reduceLE, Int.reduceBEq, Int.reduceBNe, Nat.reduceBNe, Nat.reduceAdd, Nat.reduceMul, Nat.reduceEqDiff, Nat.reduceLeDiff, Nat.reduceLT, Nat.reduceBEq, reduceCtorEq, reduceIte]
  refine swp_for h (fun i row_33 st => IV [(0, .p false [.c (.sl 3 1 (List.map eInt l_0))]), (3, .p false [.row 0]), (9, .p false [.c (.sl 3 1 (List.map eInt l_0))]), (10, .p false [.c (.int .i64 ((l_0.length : Nat) : Int))]), (11, .p false [.c (.int .i64 ((i : Nat) : Int))])] [.row 3 1 (List.map eInt row_33) 2] st) [(false, 3, 0)] [80] (by decide) ?_ ?_ ?_
  · simp only [go_sem, Int.reduceLT, Int.reduceLE, Int.reduceBEq, Int.reduceBNe, Nat.reduceBNe, Nat.reduceAdd, Nat.reduceMul, Nat.reduceEqDiff, Nat.reduceLeDiff, Nat.reduceLT, Nat.reduceBEq, reduceCtorEq, reduceIte, IV, sts_cons, sts_nil, obs_cons, obs_nil]
  · rintro i54 x55 row_33 ⟨sl, ob, n⟩ y1 hx2 hI3 hW4 h hy1
    simp only [IV, sts_cons, sts_nil, obs_cons, obs_nil, and_true, true_and, Nat.reduceAdd, str_len] at hI3
    obtain ⟨⟨g5_0, g5_3, g5_9, g5_10, g5_11⟩, og5_0, hn⟩ := hI3
    subst hn
    have hlhx2 := WF.slotL hW4 g5_0 (j := 0) rfl
    try simp only [go_sem, Int.reduceLT, Int.reduceLE, Int.reduceBEq, Int.reduceBNe, Nat.reduceBNe, Nat.reduceAdd, Nat.reduceMul, Nat.reduceEqDiff, Nat.reduceLeDiff, Nat.reduceLT, Nat.reduceBEq, reduceCtorEq, reduceIte, hx2, lt_t hx2, lt_p hx2, nat_in (lt_n hx2) hlhx2, g5_0, g5_3, g5_9, g5_10, g5_11, og5_0]
    refine ite_K h (fun c6 h => ?_) (fun c6 h => ?_)
    · try simp only [go_sem, Int.reduceLT, Int.reduceLE, Int.reduceBEq, Int.reduceBNe, Nat.reduceBNe, Nat.reduceAdd, Nat.reduceMul, Nat.reduceEqDiff, Nat.reduceLeDiff, Nat.reduceLT, Nat.reduceBEq, reduceCtorEq, reduceIte, hx2, lt_t hx2, lt_p hx2, nat_in (lt_n hx2) hlhx2, c6, g5_0, g5_3, g5_9, g5_10, g5_11, og5_0]
      obtain ⟨v56, e7, h⟩ := bind_K h
      refine call_K (by first | exact i_hasInt_ok e7 | simpa only [go_sem, Int.reduceLT, Int.reduceLE, Int.reduceBEq, Int.reduceBNe, Nat.reduceBNe, Nat.reduceAdd, Nat.reduceMul, Nat.reduceEqDiff, Nat.reduceLeDiff, Nat.reduceLT, Nat.reduceBEq, reduceCtorEq, reduceIte, hx2, lt_t hx2, lt_p hx2, nat_in (lt_n hx2) hlhx2, c6, g5_0, g5_3, g5_9, g5_10, g5_11, og5_0] using i_hasInt_ok e7) ?_
      try simp only [go_sem, Int.reduceLT, Int.reduceLE, Int.reduceBEq, Int.reduceBNe, Nat.reduceBNe, Nat.reduceAdd, Nat.reduceMul, Nat.reduceEqDiff, Nat.reduceLeDiff, Nat.reduceLT, Nat.reduceBEq, reduceCtorEq, reduceIte, hx2, lt_t hx2, lt_p hx2, nat_in (lt_n hx2) hlhx2, c6, g5_0, g5_3, g5_9, g5_10, g5_11, og5_0]
      refine swp_for h (fun i s st => match s with | (u_59, u_60, least_62) => IV [(0, .p false [.c (.sl 3 1 (List.map eInt l_0))]), (3, .p false [.row 0]), (5, .p false [.c (.int .i64 x55)]), (6, .p false [.c (.bool least_62)]), (9, .p false [.c (.sl 3 1 (List.map eInt l_0))]), (10, .p false [.c (.int .i64 ((l_0.length : Nat) : Int))]), (11, .p false [.c (.int .i64 ((i54 : Nat) : Int))]), (18, .p false [.row 0]), (19, .p false [.c (.int .i64 x55)]), (20, .p false [.c (.bool u_59)]), (21, .p false [.c (.bool u_60)]), (23, .p false [.c (.sl 3 1 (List.map eInt l_0))]), (24, .p false [.c (.int .i64 ((l_0.length : Nat) : Int))]), (25, .p false [.c (.int .i64 ((i : Nat) : Int))])] [.row 3 1 (List.map eInt row_33) 2] st) [] [0] (by decide) ?_ ?_ ?_
      · simp only [go_sem, Int.reduceLT, Int.reduceLE, Int.reduceBEq, Int.reduceBNe, Nat.reduceBNe, Nat.reduceAdd, Nat.reduceMul, Nat.reduceEqDiff, Nat.reduceLeDiff, Nat.reduceLT, Nat.reduceBEq, reduceCtorEq, reduceIte, IV, sts_cons, sts_nil, obs_cons, obs_nil, hx2, lt_t hx2, lt_p hx2, nat_in (lt_n hx2) hlhx2, c6, g5_0, g5_3, g5_9, g5_10, g5_11, og5_0]
      · rintro i65 x66 ⟨u_59, u_60, least_62⟩ ⟨sl, ob, n⟩ y8 hx9 hI10 hW11 h hy8
        simp only [IV, sts_cons, sts_nil, obs_cons, obs_nil, and_true, true_and, Nat.reduceAdd, str_len] at hI10
        obtain ⟨⟨g12_0, g12_3, g12_5, g12_6, g12_9, g12_10, g12_11, g12_18, g12_19, g12_20, g12_21, g12_23, g12_24, g12_25⟩, og12_0, hn⟩ := hI10
        subst hn
        have hlhx9 := WF.slotL hW11 g12_0 (j := 0) rfl
        try simp only [go_sem, Int.reduceLT, Int.reduceLE, Int.reduceBEq, Int.reduceBNe, Nat.reduceBNe, Nat.reduceAdd, Nat.reduceMul, Nat.reduceEqDiff, Nat.reduceLeDiff, Nat.reduceLT, Nat.reduceBEq, reduceCtorEq, reduceIte, hx2, lt_t hx2, lt_p hx2, nat_in (lt_n hx2) hlhx2, c6, hx9, lt_t hx9, lt_p hx9, nat_in (lt_n hx9) hlhx9, g12_0, g12_3, g12_5, g12_6, g12_9, g12_10, g12_11, g12_18, g12_19, g12_20, g12_21, g12_23, g12_24, g12_25, og12_0]
        refine ite_K h (fun c13 h => ?_) (fun c13 h => ?_)
        · try simp only [go_sem, Int.reduceLT, Int.reduceLE, Int.reduceBEq, Int.reduceBNe, Nat.reduceBNe, Nat.reduceAdd, Nat.reduceMul, Nat.reduceEqDiff, Nat.reduceLeDiff, Nat.reduceLT, Nat.reduceBEq, reduceCtorEq, reduceIte, hx2, lt_t hx2, lt_p hx2, nat_in (lt_n hx2) hlhx2, c6, hx9, lt_t hx9, lt_p hx9, nat_in (lt_n hx9) hlhx9, c13, g12_0, g12_3, g12_5, g12_6, g12_9, g12_10, g12_11, g12_18, g12_19, g12_20, g12_21, g12_23, g12_24, g12_25, og12_0]
          refine ite_K h (fun c14 h => ?_) (fun c14 h => ?_)
          · try simp only [go_sem, Int.reduceLT, Int.reduceLE, Int.reduceBEq, Int.reduceBNe, Nat.reduceBNe, Nat.reduceAdd, Nat.reduceMul, Nat.reduceEqDiff, Nat.reduceLeDiff, Nat.reduceLT, Nat.reduceBEq, reduceCtorEq, reduceIte, hx2, lt_t hx2, lt_p hx2, nat_in (lt_n hx2) hlhx2, c6, hx9, lt_t hx9, lt_p hx9, nat_in (lt_n hx9) hlhx9, c13, c14, g12_0, g12_3, g12_5, g12_6, g12_9, g12_10, g12_11, g12_18, g12_19, g12_20, g12_21, g12_23, g12_24, g12_25, og12_0]
            refine ⟨_, [], [0], (Option.some.inj h).symm, by decide, ?_⟩
            try simp only [go_sem, Int.reduceLT, Int.reduceLE, Int.reduceBEq, Int.reduceBNe, Nat.reduceBNe, Nat.reduceAdd, Nat.reduceMul, Nat.reduceEqDiff, Nat.reduceLeDiff, Nat.reduceLT, Nat.reduceBEq, reduceCtorEq, reduceIte, hx2, lt_t hx2, lt_p hx2, nat_in (lt_n hx2) hlhx2, c6, hx9, lt_t hx9, lt_p hx9, nat_in (lt_n hx9) hlhx9, c13, c14, g12_0, g12_3, g12_5, g12_6, g12_9, g12_10, g12_11, g12_18, g12_19, g12_20, g12_21, g12_23, g12_24, g12_25, og12_0, IV, sts_cons, sts_nil, obs_cons, obs_nil]
          · try simp only [go_sem, Int.reduceLT, Int.reduceLE, Int.reduceBEq, Int.reduceBNe, Nat.reduceBNe, Nat.reduceAdd, Nat.reduceMul, Nat.reduceEqDiff, Nat.reduceLeDiff, Nat.reduceLT, Nat.reduceBEq, reduceCtorEq, reduceIte, hx2, lt_t hx2, lt_p hx2, nat_in (lt_n hx2) hlhx2, c6, hx9, lt_t hx9, lt_p hx9, nat_in (lt_n hx9) hlhx9, c13, c14, g12_0, g12_3, g12_5, g12_6, g12_9, g12_10, g12_11, g12_18, g12_19, g12_20, g12_21, g12_23, g12_24, g12_25, og12_0]
            obtain ⟨v67, e15, h⟩ := bind_K h
            refine call_K (by first | exact i_IsPart_ok e15 | simpa only [go_sem, Int.reduceLT, Int.reduceLE, Int.reduceBEq, Int.reduceBNe, Nat.reduceBNe, Nat.reduceAdd, Nat.reduceMul, Nat.reduceEqDiff, Nat.reduceLeDiff, Nat.reduceLT, Nat.reduceBEq, reduceCtorEq, reduceIte, hx2, lt_t hx2, lt_p hx2, nat_in (lt_n hx2) hlhx2, c6, hx9, lt_t hx9, lt_p hx9, nat_in (lt_n hx9) hlhx9, c13, c14, g12_0, g12_3, g12_5, g12_6, g12_9, g12_10, g12_11, g12_18, g12_19, g12_20, g12_21, g12_23, g12_24, g12_25, og12_0] using i_IsPart_ok e15) ?_
            try simp only [go_sem, Int.reduceLT, Int.reduceLE, Int.reduceBEq, Int.reduceBNe, Nat.reduceBNe, Nat.reduceAdd, Nat.reduceMul, Nat.reduceEqDiff, Nat.reduceLeDiff, Nat.reduceLT, Nat.reduceBEq, reduceCtorEq, reduceIte, hx2, lt_t hx2, lt_p hx2, nat_in (lt_n hx2) hlhx2, c6, hx9, lt_t hx9, lt_p hx9, nat_in (lt_n hx9) hlhx9, c13, c14, g12_0, g12_3, g12_5, g12_6, g12_9, g12_10, g12_11, g12_18, g12_19, g12_20, g12_21, g12_23, g12_24, g12_25, og12_0]
            refine ⟨_, [], [0], (Option.some.inj h).symm, by decide, ?_⟩
            try simp only [go_sem, Int.reduceLT, Int.reduceLE, Int.reduceBEq, Int.reduceBNe, Nat.reduceBNe, Nat.reduceAdd, Nat.reduceMul, Nat.reduceEqDiff, Nat.reduceLeDiff, Nat.reduceLT, Nat.reduceBEq, reduceCtorEq, reduceIte, hx2, lt_t hx2, lt_p hx2, nat_in (lt_n hx2) hlhx2, c6, hx9, lt_t hx9, lt_p hx9, nat_in (lt_n hx9) hlhx9, c13, c14, g12_0, g12_3, g12_5, g12_6, g12_9, g12_10, g12_11, g12_18, g12_19, g12_20, g12_21, g12_23, g12_24, g12_25, og12_0, IV, sts_cons, sts_nil, obs_cons, obs_nil]
        · try simp only [go_sem, Int.reduceLT, Int.reduceLE, Int.reduceBEq, Int.reduceBNe, Nat.reduceBNe, Nat.reduceAdd, Nat.reduceMul, Nat.reduceEqDiff, Nat.reduceLeDiff, Nat.reduceLT, Nat.reduceBEq, reduceCtorEq, reduceIte, hx2, lt_t hx2, lt_p hx2, nat_in (lt_n hx2) hlhx2, c6, hx9, lt_t hx9, lt_p hx9, nat_in (lt_n hx9) hlhx9, c13, g12_0, g12_3, g12_5, g12_6, g12_9, g12_10, g12_11, g12_18, g12_19, g12_20, g12_21, g12_23, g12_24, g12_25, og12_0]
          refine ⟨_, [], [0], (Option.some.inj h).symm, by decide, ?_⟩
          try simp only [go_sem, Int.reduceLT, Int.reduceLE, Int.reduceBEq, Int.reduceBNe, Nat.reduceBNe, Nat.reduceAdd, Nat.reduceMul, Nat.reduceEqDiff, Nat.reduceLeDiff, Nat.reduceLT, Nat.reduceBEq, reduceCtorEq, reduceIte, hx2, lt_t hx2, lt_p hx2, nat_in (lt_n hx2) hlhx2, c6, hx9, lt_t hx9, lt_p hx9, nat_in (lt_n hx9) hlhx9, c13, g12_0, g12_3, g12_5, g12_6, g12_9, g12_10, g12_11, g12_18, g12_19, g12_20, g12_21, g12_23, g12_24, g12_25, og12_0, IV, sts_cons, sts_nil, obs_cons, obs_nil]
      · rintro ⟨u_59, u_60, least_62⟩ ⟨sl, ob, n⟩ hI16 hW17 h
        simp only [IV, sts_cons, sts_nil, obs_cons, obs_nil, and_true, true_and, Nat.reduceAdd, str_len] at hI16
        obtain ⟨⟨g18_0, g18_3, g18_5, g18_6, g18_9, g18_10, g18_11, g18_18, g18_19, g18_20, g18_21, g18_23, g18_24, g18_25⟩, og18_0, hn⟩ := hI16
        subst hn
        try simp only [go_sem, Int.reduceLT, Int.reduceLE, Int.reduceBEq, Int.reduceBNe, Nat.reduceBNe, Nat.reduceAdd, Nat.reduceMul, Nat.reduceEqDiff, Nat.reduceLeDiff, Nat.reduceLT, Nat.reduceBEq, reduceCtorEq, reduceIte, hx2, lt_t hx2, lt_p hx2, nat_in (lt_n hx2) hlhx2, c6, lt_f (l_0.length), g18_0, g18_3, g18_5, g18_6, g18_9, g18_10, g18_11, g18_18, g18_19, g18_20, g18_21, g18_23, g18_24, g18_25, og18_0]
        refine ite_K h (fun c19 h => ?_) (fun c19 h => ?_)
        · obtain ⟨p20, h⟩ := chk_K h
          try simp only [Nat.reduceLeDiff] at p20
          try simp only [go_sem, Int.reduceLT, Int.reduceLE, Int.reduceBEq, Int.reduceBNe, Nat.reduceBNe, Nat.reduceAdd, Nat.reduceMul, Nat.reduceEqDiff, Nat.reduceLeDiff, Nat.reduceLT, Nat.reduceBEq, reduceCtorEq, reduceIte, hx2, lt_t hx2, lt_p hx2, nat_in (lt_n hx2) hlhx2, c6, lt_f (l_0.length), c19, p20, g18_0, g18_3, g18_5, g18_6, g18_9, g18_10, g18_11, g18_18, g18_19, g18_20, g18_21, g18_23, g18_24, g18_25, og18_0]
          refine ⟨_, [], [81], (Option.some.inj h).symm, by decide, ?_⟩
          try simp only [go_sem, Int.reduceLT, Int.reduceLE, Int.reduceBEq, Int.reduceBNe, Nat.reduceBNe, Nat.reduceAdd, Nat.reduceMul, Nat.reduceEqDiff, Nat.reduceLeDiff, Nat.reduceLT, Nat.reduceBEq, reduceCtorEq, reduceIte, hx2, lt_t hx2, lt_p hx2, nat_in (lt_n hx2) hlhx2, c6, lt_f (l_0.length), c19, p20, g18_0, g18_3, g18_5, g18_6, g18_9, g18_10, g18_11, g18_18, g18_19, g18_20, g18_21, g18_23, g18_24, g18_25, og18_0, IV, sts_cons, sts_nil, obs_cons, obs_nil]
        · try simp only [go_sem, Int.reduceLT, Int.reduceLE, Int.reduceBEq, Int.reduceBNe, Nat.reduceBNe, Nat.reduceAdd, Nat.reduceMul, Nat.reduceEqDiff, Nat.reduceLeDiff, Nat.reduceLT, Nat.reduceBEq, reduceCtorEq, reduceIte, hx2, lt_t hx2, lt_p hx2, nat_in (lt_n hx2) hlhx2, c6, lt_f (l_0.length), c19, g18_0, g18_3, g18_5, g18_6, g18_9, g18_10, g18_11, g18_18, g18_19, g18_20, g18_21, g18_23, g18_24, g18_25, og18_0]
          refine ⟨_, [], [0], (Option.some.inj h).symm, by decide, ?_⟩
          try simp only [go_sem, Int.reduceLT, Int.reduceLE, Int.reduceBEq, Int.reduceBNe, Nat.reduceBNe, Nat.reduceAdd, Nat.reduceMul, Nat.reduceEqDiff, Nat.reduceLeDiff, Nat.reduceLT, Nat.reduceBEq, reduceCtorEq, reduceIte, hx2, lt_t hx2, lt_p hx2, nat_in (lt_n hx2) hlhx2, c6, lt_f (l_0.length), c19, g18_0, g18_3, g18_5, g18_6, g18_9, g18_10, g18_11, g18_18, g18_19, g18_20, g18_21, g18_23, g18_24, g18_25, og18_0, IV, sts_cons, sts_nil, obs_cons, obs_nil]
    · try simp only [go_sem, Int.reduceLT, Int.reduceLE, Int.reduceBEq, Int.reduceBNe, Nat.reduceBNe, Nat.reduceAdd, Nat.reduceMul, Nat.reduceEqDiff, Nat.reduceLeDiff, Nat.reduceLT, Nat.reduceBEq, reduceCtorEq, reduceIte, hx2, lt_t hx2, lt_p hx2, nat_in (lt_n hx2) hlhx2, c6, g5_0, g5_3, g5_9, g5_10, g5_11, og5_0]
      refine swp_for h (fun i _ st => IV [(0, .p false [.c (.sl 3 1 (List.map eInt l_0))]), (3, .p false [.row 0]), (5, .p false [.c (.int .i64 x55)]), (6, .p false [.c (.bool false)]), (9, .p false [.c (.sl 3 1 (List.map eInt l_0))]), (10, .p false [.c (.int .i64 ((l_0.length : Nat) : Int))]), (11, .p false [.c (.int .i64 ((i54 : Nat) : Int))]), (23, .p false [.c (.sl 3 1 (List.map eInt l_0))]), (24, .p false [.c (.int .i64 ((l_0.length : Nat) : Int))]), (25, .p false [.c (.int .i64 ((i : Nat) : Int))])] [.row 3 1 (List.map eInt row_33) 2] st) [] [0] (by decide) ?_ ?_ ?_
      · simp only [go_sem, Int.reduceLT, Int.reduceLE, Int.reduceBEq, Int.reduceBNe, Nat.reduceBNe, Nat.reduceAdd, Nat.reduceMul, Nat.reduceEqDiff, Nat.reduceLeDiff, Nat.reduceLT, Nat.reduceBEq, reduceCtorEq, reduceIte, IV, sts_cons, sts_nil, obs_cons, obs_nil, hx2, lt_t hx2, lt_p hx2, nat_in (lt_n hx2) hlhx2, c6, g5_0, g5_3, g5_9, g5_10, g5_11, og5_0]
      · rintro i71 x72 ⟨⟩ ⟨sl, ob, n⟩ y21 hx22 hI23 hW24 h hy21
        simp only [IV, sts_cons, sts_nil, obs_cons, obs_nil, and_true, true_and, Nat.reduceAdd, str_len] at hI23
        obtain ⟨⟨g25_0, g25_3, g25_5, g25_6, g25_9, g25_10, g25_11, g25_23, g25_24, g25_25⟩, og25_0, hn⟩ := hI23
        subst hn
        have hlhx22 := WF.slotL hW24 g25_0 (j := 0) rfl
        try simp only [go_sem, Int.reduceLT, Int.reduceLE, Int.reduceBEq, Int.reduceBNe, Nat.reduceBNe, Nat.reduceAdd, Nat.reduceMul, Nat.reduceEqDiff, Nat.reduceLeDiff, Nat.reduceLT, Nat.reduceBEq, reduceCtorEq, reduceIte, hx2, lt_t hx2, lt_p hx2, nat_in (lt_n hx2) hlhx2, c6, hx22, lt_t hx22, lt_p hx22, nat_in (lt_n hx22) hlhx22, g25_0, g25_3, g25_5, g25_6, g25_9, g25_10, g25_11, g25_23, g25_24, g25_25, og25_0]
        refine ⟨_, [], [0], (Option.some.inj h).symm, by decide, ?_⟩
        try simp only [go_sem, Int.reduceLT, Int.reduceLE, Int.reduceBEq, Int.reduceBNe, Nat.reduceBNe, Nat.reduceAdd, Nat.reduceMul, Nat.reduceEqDiff, Nat.reduceLeDiff, Nat.reduceLT, Nat.reduceBEq, reduceCtorEq, reduceIte, hx2, lt_t hx2, lt_p hx2, nat_in (lt_n hx2) hlhx2, c6, hx22, lt_t hx22, lt_p hx22, nat_in (lt_n hx22) hlhx22, g25_0, g25_3, g25_5, g25_6, g25_9, g25_10, g25_11, g25_23, g25_24, g25_25, og25_0, IV, sts_cons, sts_nil, obs_cons, obs_nil]
      · rintro ⟨⟩ ⟨sl, ob, n⟩ hI26 hW27 h
        simp only [IV, sts_cons, sts_nil, obs_cons, obs_nil, and_true, true_and, Nat.reduceAdd, str_len] at hI26
        obtain ⟨⟨g28_0, g28_3, g28_5, g28_6, g28_9, g28_10, g28_11, g28_23, g28_24, g28_25⟩, og28_0, hn⟩ := hI26
        subst hn
        try simp only [go_sem, Int.reduceLT, Int.reduceLE, Int.reduceBEq, Int.reduceBNe, Nat.reduceBNe, Nat.reduceAdd, Nat.reduceMul, Nat.reduceEqDiff, Nat.reduceLeDiff, Nat.reduceLT, Nat.reduceBEq, reduceCtorEq, reduceIte, hx2, lt_t hx2, lt_p hx2, nat_in (lt_n hx2) hlhx2, c6, lt_f (l_0.length), g28_0, g28_3, g28_5, g28_6, g28_9, g28_10, g28_11, g28_23, g28_24, g28_25, og28_0]
        refine ⟨_, [], [0], (Option.some.inj h).symm, by decide, ?_⟩
        try simp only [go_sem, Int.reduceLT, Int.reduceLE, Int.reduceBEq, Int.reduceBNe, Nat.reduceBNe, Nat.reduceAdd, Nat.reduceMul, Nat.reduceEqDiff, Nat.reduceLeDiff, Nat.reduceLT, Nat.reduceBEq, reduceCtorEq, reduceIte, hx2, lt_t hx2, lt_p hx2, nat_in (lt_n hx2) hlhx2, c6, lt_f (l_0.length), g28_0, g28_3, g28_5, g28_6, g28_9, g28_10, g28_11, g28_23, g28_24, g28_25, og28_0, IV, sts_cons, sts_nil, obs_cons, obs_nil]
  · rintro row_33 ⟨sl, ob, n⟩ hI29 hW30 h
    simp only [IV, sts_cons, sts_nil, obs_cons, obs_nil, and_true, true_and, Nat.reduceAdd, str_len] at hI29
    obtain ⟨⟨g31_0, g31_3, g31_9, g31_10, g31_11⟩, og31_0, hn⟩ := hI29
    subst hn
    try simp only [go_sem, Int.reduceLT, Int.reduceLE, Int.reduceBEq, Int.reduceBNe, Nat.reduceBNe, Nat.reduceAdd, Nat.reduceMul, Nat.reduceEqDiff, Nat.reduceLeDiff, Nat.reduceLT, Nat.reduceBEq, reduceCtorEq, reduceIte, lt_f (l_0.length), g31_0, g31_3, g31_9, g31_10, g31_11, og31_0]
    obtain ⟨v73, e32, h⟩ := bind_K h
    refine hand_K (by first | exact x_sortInts_ok e32 | simpa only [go_sem, Int.reduceLT, Int.reduceLE, Int.reduceBEq, Int.reduceBNe, Nat.reduceBNe, Nat.reduceAdd, Nat.reduceMul, Nat.reduceEqDiff, Nat.reduceLeDiff, Nat.reduceLT, Nat.reduceBEq, reduceCtorEq, reduceIte, lt_f (l_0.length), g31_0, g31_3, g31_9, g31_10, g31_11, og31_0] using x_sortInts_ok e32) ?_
    obtain rfl := Option.some.inj h
    try simp only [go_sem, Int.reduceLT, Int.reduceLE, Int.reduceBEq, Int.reduceBNe, Nat.reduceBNe, Nat.reduceAdd, Nat.reduceMul, Nat.reduceEqDiff, Nat.reduceLeDiff, Nat.reduceLT, Nat.reduceBEq, reduceCtorEq, reduceIte, lt_f (l_0.length), g31_0, g31_3, g31_9, g31_10, g31_11, og31_0]
theorem s_LeastSets_ok {l_0 : (List Int)} {r : (List Int)} (h : s_LeastSets l_0 = some r) : Sound Try.prog J0 42 [(false, [.sl 3 1 (List.map eInt l_0)])] [(false, [(false, .sl 3 1 (List.map eInt r))])] := by
  refine fnk Try.func42 (by kernel_rfl) rfl (by kernel_rfl) (by kernel_rfl) ?_
  unfold s_LeastSets at h
  simp only [fnS, f42, argSt, go_sem, Int.reduceLT, Int.reduceLE, Int.reduceBEq, Int.reduceBNe, Nat.reduceBNe, Nat.reduceAdd, Nat.reduceMul, Nat.reduceEqDiff, Nat.reduceLeDiff, Nat.reduceLT, Nat.reduceBEq, reduceCtorEq, reduceIte]
  refine swp_for h (fun i row_12 st => IV [(0, .p false [.c (.sl 3 1 (List.map eInt l_0))]), (3, .p false [.row 0]), (4, .p false [.c (.int .i64 ((i : Nat) : Int))])] [.row 3 1 (List.map eInt row_12) 2] st) [] [16] (by decide) ?_ ?_ ?_
  · simp only [go_sem, Int.reduceLT, Int.reduceLE, Int.reduceBEq, Int.reduceBNe, Nat.reduceBNe, Nat.reduceAdd, Nat.reduceMul, Nat.reduceEqDiff, Nat.reduceLeDiff, Nat.reduceLT, Nat.reduceBEq, reduceCtorEq, reduceIte, IV, sts_cons, sts_nil, obs_cons, obs_nil]
  · rintro i26 x27 row_12 ⟨sl, ob, n⟩ y1 hx2 hI3 hW4 h hy1
    simp only [IV, sts_cons, sts_nil, obs_cons, obs_nil, and_true, true_and, Nat.reduceAdd, str_len] at hI3
    obtain ⟨⟨g5_0, g5_3, g5_4⟩, og5_0, hn⟩ := hI3
    subst hn
    have hlhx2 := WF.slotL hW4 g5_0 (j := 0) rfl
    try simp only [go_sem, Int.reduceLT, Int.reduceLE, Int.reduceBEq, Int.reduceBNe, Nat.reduceBNe, Nat.reduceAdd, Nat.reduceMul, Nat.reduceEqDiff, Nat.reduceLeDiff, Nat.reduceLT, Nat.reduceBEq, reduceCtorEq, reduceIte, hx2, lt_t hx2, lt_p hx2, nat_in (lt_n hx2) hlhx2, g5_0, g5_3, g5_4, og5_0]
    refine swp_for h (fun i least_30 st => IV [(0, .p false [.c (.sl 3 1 (List.map eInt l_0))]), (3, .p false [.row 0]), (4, .p false [.c (.int .i64 ((i26 : Nat) : Int))]), (5, .p false [.c (.bool least_30)]), (6, .p false [.c (.int .i64 ((i : Nat) : Int))])] [.row 3 1 (List.map eInt row_12) 2] st) [] [0] (by decide) ?_ ?_ ?_
    · simp only [go_sem, Int.reduceLT, Int.reduceLE, Int.reduceBEq, Int.reduceBNe, Nat.reduceBNe, Nat.reduceAdd, Nat.reduceMul, Nat.reduceEqDiff, Nat.reduceLeDiff, Nat.reduceLT, Nat.reduceBEq, reduceCtorEq, reduceIte, IV, sts_cons, sts_nil, obs_cons, obs_nil, hx2, lt_t hx2, lt_p hx2, nat_in (lt_n hx2) hlhx2, g5_0, g5_3, g5_4, og5_0]
    · rintro i35 x36 least_30 ⟨sl, ob, n⟩ y6 hx7 hI8 hW9 h hy6
      simp only [IV, sts_cons, sts_nil, obs_cons, obs_nil, and_true, true_and, Nat.reduceAdd, str_len] at hI8
      obtain ⟨⟨g10_0, g10_3, g10_4, g10_5, g10_6⟩, og10_0, hn⟩ := hI8
      subst hn
      have hlhx7 := WF.slotL hW9 g10_0 (j := 0) rfl
      try simp only [go_sem, Int.reduceLT, Int.reduceLE, Int.reduceBEq, Int.reduceBNe, Nat.reduceBNe, Nat.reduceAdd, Nat.reduceMul, Nat.reduceEqDiff, Nat.reduceLeDiff, Nat.reduceLT, Nat.reduceBEq, reduceCtorEq, reduceIte, hx2, lt_t hx2, lt_p hx2, nat_in (lt_n hx2) hlhx2, hx7, lt_t hx7, lt_p hx7, nat_in (lt_n hx7) hlhx7, g10_0, g10_3, g10_4, g10_5, g10_6, og10_0]
      refine ite_K h (fun c11 h => ?_) (fun c11 h => ?_)
      · try simp only [go_sem, Int.reduceLT, Int.reduceLE, Int.reduceBEq, Int.reduceBNe, Nat.reduceBNe, Nat.reduceAdd, Nat.reduceMul, Nat.reduceEqDiff, Nat.reduceLeDiff, Nat.reduceLT, Nat.reduceBEq, reduceCtorEq, reduceIte, hx2, lt_t hx2, lt_p hx2, nat_in (lt_n hx2) hlhx2, hx7, lt_t hx7, lt_p hx7, nat_in (lt_n hx7) hlhx7, c11, g10_0, g10_3, g10_4, g10_5, g10_6, og10_0]
        obtain ⟨v37, e12, h⟩ := bind_K h
        refine call_K (by first | exact s_IsPart_ok e12 | simpa only [go_sem, Int.reduceLT, Int.reduceLE, Int.reduceBEq, Int.reduceBNe, Nat.reduceBNe, Nat.reduceAdd, Nat.reduceMul, Nat.reduceEqDiff, Nat.reduceLeDiff, Nat.reduceLT, Nat.reduceBEq, reduceCtorEq, reduceIte, hx2, lt_t hx2, lt_p hx2, nat_in (lt_n hx2) hlhx2, hx7, lt_t hx7, lt_p hx7, nat_in (lt_n hx7) hlhx7, c11, g10_0, g10_3, g10_4, g10_5, g10_6, og10_0] using s_IsPart_ok e12) ?_
        try simp only [go_sem, Int.reduceLT, Int.reduceLE, Int.reduceBEq, Int.reduceBNe, Nat.reduceBNe, Nat.reduceAdd, Nat.reduceMul, Nat.reduceEqDiff, Nat.reduceLeDiff, Nat.reduceLT, Nat.reduceBEq, reduceCtorEq, reduceIte, hx2, lt_t hx2, lt_p hx2, nat_in (lt_n hx2) hlhx2, hx7, lt_t hx7, lt_p hx7, nat_in (lt_n hx7) hlhx7, c11, g10_0, g10_3, g10_4, g10_5, g10_6, og10_0]
        refine ite_K h (fun c13 h => ?_) (fun c13 h => ?_)
        · try simp only [go_sem, Int.reduceLT, Int.reduceLE, Int.reduceBEq, Int.reduceBNe, Nat.reduceBNe, Nat.reduceAdd, Nat.reduceMul, Nat.reduceEqDiff, Nat.reduceLeDiff, Nat.reduceLT, Nat.reduceBEq, reduceCtorEq, reduceIte, hx2, lt_t hx2, lt_p hx2, nat_in (lt_n hx2) hlhx2, hx7, lt_t hx7, lt_p hx7, nat_in (lt_n hx7) hlhx7, c11, c13, g10_0, g10_3, g10_4, g10_5, g10_6, og10_0]
          refine ⟨_, [], [0], (Option.some.inj h).symm, by decide, ?_⟩
          try simp only [go_sem, Int.reduceLT, Int.reduceLE, Int.reduceBEq, Int.reduceBNe, Nat.reduceBNe, Nat.reduceAdd, Nat.reduceMul, Nat.reduceEqDiff, Nat.reduceLeDiff, Nat.reduceLT, Nat.reduceBEq, reduceCtorEq, reduceIte, hx2, lt_t hx2, lt_p hx2, nat_in (lt_n hx2) hlhx2, hx7, lt_t hx7, lt_p hx7, nat_in (lt_n hx7) hlhx7, c11, c13, g10_0, g10_3, g10_4, g10_5, g10_6, og10_0, IV, sts_cons, sts_nil, obs_cons, obs_nil]
        · try simp only [go_sem, Int.reduceLT, Int.reduceLE, Int.reduceBEq, Int.reduceBNe, Nat.reduceBNe, Nat.reduceAdd, Nat.reduceMul, Nat.reduceEqDiff, Nat.reduceLeDiff, Nat.reduceLT, Nat.reduceBEq, reduceCtorEq, reduceIte, hx2, lt_t hx2, lt_p hx2, nat_in (lt_n hx2) hlhx2, hx7, lt_t hx7, lt_p hx7, nat_in (lt_n hx7) hlhx7, c11, c13, g10_0, g10_3, g10_4, g10_5, g10_6, og10_0]
          refine ⟨_, [], [0], (Option.some.inj h).symm, by decide, ?_⟩
          try simp only [go_sem, Int.reduceLT, Int.reduceLE, Int.reduceBEq, Int.reduceBNe, Nat.reduceBNe, Nat.reduceAdd, Nat.reduceMul, Nat.reduceEqDiff, Nat.reduceLeDiff, Nat.reduceLT, Nat.reduceBEq, reduceCtorEq, reduceIte, hx2, lt_t hx2, lt_p hx2, nat_in (lt_n hx2) hlhx2, hx7, lt_t hx7, lt_p hx7, nat_in (lt_n hx7) hlhx7, c11, c13, g10_0, g10_3, g10_4, g10_5, g10_6, og10_0, IV, sts_cons, sts_nil, obs_cons, obs_nil]
      · try simp only [go_sem, Int.reduceLT, Int.reduceLE, Int.reduceBEq, Int.reduceBNe, Nat.reduceBNe, Nat.reduceAdd, Nat.reduceMul, Nat.reduceEqDiff, Nat.reduceLeDiff, Nat.reduceLT, Nat.reduceBEq, reduceCtorEq, reduceIte, hx2, lt_t hx2, lt_p hx2, nat_in (lt_n hx2) hlhx2, hx7, lt_t hx7, lt_p hx7, nat_in (lt_n hx7) hlhx7, c11, g10_0, g10_3, g10_4, g10_5, g10_6, og10_0]
        refine ⟨_, [], [0], (Option.some.inj h).symm, by decide, ?_⟩
        try simp only [go_sem, Int.reduceLT, Int.reduceLE, Int.reduceBEq, Int.reduceBNe, Nat.reduceBNe, Nat.reduceAdd, Nat.reduceMul, Nat.reduceEqDiff, Nat.reduceLeDiff, Nat.reduceLT, Nat.reduceBEq, reduceCtorEq, reduceIte, hx2, lt_t hx2, lt_p hx2, nat_in (lt_n hx2) hlhx2, hx7, lt_t hx7, lt_p hx7, nat_in (lt_n hx7) hlhx7, c11, g10_0, g10_3, g10_4, g10_5, g10_6, og10_0, IV, sts_cons, sts_nil, obs_cons, obs_nil]
    · rintro least_30 ⟨sl, ob, n⟩ hI14 hW15 h
      simp only [IV, sts_cons, sts_nil, obs_cons, obs_nil, and_true, true_and, Nat.reduceAdd, str_len] at hI14
      obtain ⟨⟨g16_0, g16_3, g16_4, g16_5, g16_6⟩, og16_0, hn⟩ := hI14
      subst hn
      try simp only [go_sem, Int.reduceLT, Int.reduceLE, Int.reduceBEq, Int.reduceBNe, Nat.reduceBNe, Nat.reduceAdd, Nat.reduceMul, Nat.reduceEqDiff, Nat.reduceLeDiff, Nat.reduceLT, Nat.reduceBEq, reduceCtorEq, reduceIte, hx2, lt_t hx2, lt_p hx2, nat_in (lt_n hx2) hlhx2, lt_f (l_0.length), g16_0, g16_3, g16_4, g16_5, g16_6, og16_0]
      refine ite_K h (fun c17 h => ?_) (fun c17 h => ?_)
      · try simp only [go_sem, Int.reduceLT, Int.reduceLE, Int.reduceBEq, Int.reduceBNe, Nat.reduceBNe, Nat.reduceAdd, Nat.reduceMul, Nat.reduceEqDiff, Nat.reduceLeDiff, Nat.reduceLT, Nat.reduceBEq, reduceCtorEq, reduceIte, hx2, lt_t hx2, lt_p hx2, nat_in (lt_n hx2) hlhx2, lt_f (l_0.length), c17, g16_0, g16_3, g16_4, g16_5, g16_6, og16_0]
        obtain ⟨v38, e18, h⟩ := bind_K h
        refine call_K (by first | exact s_l13Put_ok e18 | simpa only [go_sem, Int.reduceLT, Int.reduceLE, Int.reduceBEq, Int.reduceBNe, Nat.reduceBNe, Nat.reduceAdd, Nat.reduceMul, Nat.reduceEqDiff, Nat.reduceLeDiff, Nat.reduceLT, Nat.reduceBEq, reduceCtorEq, reduceIte, hx2, lt_t hx2, lt_p hx2, nat_in (lt_n hx2) hlhx2, lt_f (l_0.length), c17, g16_0, g16_3, g16_4, g16_5, g16_6, og16_0] using s_l13Put_ok e18) ?_
        try simp only [go_sem, Int.reduceLT, Int.reduceLE, Int.reduceBEq, Int.reduceBNe, Nat.reduceBNe, Nat.reduceAdd, Nat.reduceMul, Nat.reduceEqDiff, Nat.reduceLeDiff, Nat.reduceLT, Nat.reduceBEq, reduceCtorEq, reduceIte, hx2, lt_t hx2, lt_p hx2, nat_in (lt_n hx2) hlhx2, lt_f (l_0.length), c17, g16_0, g16_3, g16_4, g16_5, g16_6, og16_0]
        refine ⟨_, [], [161], (Option.some.inj h).symm, by decide, ?_⟩
        try simp only [go_sem, Int.reduceLT, Int.reduceLE, Int.reduceBEq, Int.reduceBNe, Nat.reduceBNe, Nat.reduceAdd, Nat.reduceMul, Nat.reduceEqDiff, Nat.reduceLeDiff, Nat.reduceLT, Nat.reduceBEq, reduceCtorEq, reduceIte, hx2, lt_t hx2, lt_p hx2, nat_in (lt_n hx2) hlhx2, lt_f (l_0.length), c17, g16_0, g16_3, g16_4, g16_5, g16_6, og16_0, IV, sts_cons, sts_nil, obs_cons, obs_nil]
      · try simp only [go_sem, Int.reduceLT, Int.reduceLE, Int.reduceBEq, Int.reduceBNe, Nat.reduceBNe, Nat.reduceAdd, Nat.reduceMul, Nat.reduceEqDiff, Nat.reduceLeDiff, Nat.reduceLT, Nat.reduceBEq, reduceCtorEq, reduceIte, hx2, lt_t hx2, lt_p hx2, nat_in (lt_n hx2) hlhx2, lt_f (l_0.length), c17, g16_0, g16_3, g16_4, g16_5, g16_6, og16_0]
        refine ⟨_, [], [0], (Option.some.inj h).symm, by decide, ?_⟩
        try simp only [go_sem, Int.reduceLT, Int.reduceLE, Int.reduceBEq, Int.reduceBNe, Nat.reduceBNe, Nat.reduceAdd, Nat.reduceMul, Nat.reduceEqDiff, Nat.reduceLeDiff, Nat.reduceLT, Nat.reduceBEq, reduceCtorEq, reduceIte, hx2, lt_t hx2, lt_p hx2, nat_in (lt_n hx2) hlhx2, lt_f (l_0.length), c17, g16_0, g16_3, g16_4, g16_5, g16_6, og16_0, IV, sts_cons, sts_nil, obs_cons, obs_nil]
  · rintro row_12 ⟨sl, ob, n⟩ hI19 hW20 h
    simp only [IV, sts_cons, sts_nil, obs_cons, obs_nil, and_true, true_and, Nat.reduceAdd, str_len] at hI19
    obtain ⟨⟨g21_0, g21_3, g21_4⟩, og21_0, hn⟩ := hI19
    subst hn
    obtain rfl := Option.some.inj h
    try simp only [go_sem, Int.reduceLT, Int.reduceLE, Int.reduceBEq, Int.reduceBNe, Nat.reduceBNe, Nat.reduceAdd, Nat.reduceMul, Nat.reduceEqDiff, Nat.reduceLeDiff, Nat.reduceLT, Nat.reduceBEq, reduceCtorEq, reduceIte, lt_f (l_0.length), g21_0, g21_3, g21_4, og21_0]
end Go.Proofs.Ytfbonanbiblkbaa

namespace Go.Proofs.Ytfbonanbiblkbaa
open Go.Proofs.Try
set_option linter.unusedSimpArgs false
set_option linter.unusedVariables false
set_option maxRecDepth 1000000
set_option maxHeartbeats 4000000
theorem s_l1Once_ok {c_0 : l1CurD} {n_1 : Int} {r : (Bool × l1CurD)} (h : s_l1Once c_0 n_1 = some r) : SoundH Try.prog J0 JF0 66 (.box 75 (el1Cur c_0)) [(false, [.int .i64 n_1])] [(false, [(false, .bool r.1)])] (.box 75 (el1Cur r.2)) := by
  refine fnh Try.func66 (by kernel_rfl) rfl (by kernel_rfl) (by kernel_rfl) ?_
  unfold s_l1Once at h
  simp only [fnH, f66, handSt, handSV, handOb, go_sem, Int.reduceLT, Int.reduceLE, Int.reduceBEq, Int.reduceBNe, Nat.reduceBNe, Nat.reduceAdd, Nat.reduceMul, Nat.reduceEqDiff, Nat.reduceLeDiff, Nat.reduceLT, Nat.reduceBEq, reduceCtorEq, reduceIte]
  obtain ⟨v1, e1, h⟩ := bind_K h
  refine hand_K (by first | exact s_l1Below_ok e1 | simpa only [go_sem, Int.reduceLT, Int.reduceLE, Int.reduceBEq, Int.reduceBNe, Nat.reduceBNe, Nat.reduceAdd, Nat.reduceMul, Nat.reduceEqDiff, Nat.reduceLeDiff, Nat.reduceLT, Nat.reduceBEq, reduceCtorEq, reduceIte] using s_l1Below_ok e1) ?_
  obtain rfl := Option.some.inj h
  try simp only [go_sem, Int.reduceLT, Int.reduceLE, Int.reduceBEq, Int.reduceBNe, Nat.reduceBNe, Nat.reduceAdd, Nat.reduceMul, Nat.reduceEqDiff, Nat.reduceLeDiff, Nat.reduceLT, Nat.reduceBEq, reduceCtorEq, reduceIte]
theorem i_UnionsOf_ok {a_0 : (List Int)} {b_1 : (List Int)} {r : (List Int)} (h : i_UnionsOf a_0 b_1 = some r) : Sound Try.prog J0 14 [(false, [.sl 3 1 (List.map eInt a_0)]), (false, [.sl 3 1 (List.map eInt b_1)])] [(false, [(false, .sl 3 1 (List.map eInt r))])] := by
  refine fnk Try.func14 (by kernel_rfl) rfl (by kernel_rfl) (by kernel_rfl) ?_
  unfold i_UnionsOf at h
  simp only [fnS, f14, argSt, go_sem, Int.reduceLT, Int.reduceLE, Int.reduceBEq, Int.reduceBNe, Nat.reduceBNe, Nat.reduceAdd, Nat.reduceMul, Nat.reduceEqDiff, Nat.reduceLeDiff, Nat.reduceLT, Nat.reduceBEq, reduceCtorEq, reduceIte]
  refine swp_for h (fun i row_16 st => IV [(1, .p false [.c (.sl 3 1 (List.map eInt b_1))]), (5, .p false [.row 0]), (10, .p false [.c (.sl 3 1 (List.map eInt a_0))]), (11, .p false [.c (.int .i64 ((a_0.length : Nat) : Int))]), (12, .p false [.c (.int .i64 ((i : Nat) : Int))])] [.row 3 1 (List.map eInt row_16) 2] st) [(false, 5, 0)] [80] (by decide) ?_ ?_ ?_
  · simp only [go_sem, Int.reduceLT, Int.reduceLE, Int.reduceBEq, Int.reduceBNe, Nat.reduceBNe, Nat.reduceAdd, Nat.reduceMul, Nat.reduceEqDiff, Nat.reduceLeDiff, Nat.reduceLT, Nat.reduceBEq, reduceCtorEq, reduceIte, IV, sts_cons, sts_nil, obs_cons, obs_nil]
  · rintro i26 x27 row_16 ⟨sl, ob, n⟩ y1 hx2 hI3 hW4 h hy1
    simp only [IV, sts_cons, sts_nil, obs_cons, obs_nil, and_true, true_and, Nat.reduceAdd, str_len] at hI3
    obtain ⟨⟨g5_1, g5_5, g5_10, g5_11, g5_12⟩, og5_0, hn⟩ := hI3
    subst hn
    have hlhx2 := WF.slotL hW4 g5_10 (j := 0) rfl
    try simp only [go_sem, Int.reduceLT, Int.reduceLE, Int.reduceBEq, Int.reduceBNe, Nat.reduceBNe, Nat.reduceAdd, Nat.reduceMul, Nat.reduceEqDiff, Nat.reduceLeDiff, Nat.reduceLT, Nat.reduceBEq, reduceCtorEq, reduceIte, hx2, lt_t hx2, lt_p hx2, nat_in (lt_n hx2) hlhx2, g5_1, g5_5, g5_10, g5_11, g5_12, og5_0]
    refine swp_for h (fun i row_29 st => IV [(1, .p false [.c (.sl 3 1 (List.map eInt b_1))]), (5, .p false [.row 0]), (7, .p false [.c (.int .i64 x27)]), (10, .p false [.c (.sl 3 1 (List.map eInt a_0))]), (11, .p false [.c (.int .i64 ((a_0.length : Nat) : Int))]), (12, .p false [.c (.int .i64 ((i26 : Nat) : Int))]), (16, .p false [.c (.sl 3 1 (List.map eInt b_1))]), (17, .p false [.c (.int .i64 ((b_1.length : Nat) : Int))]), (18, .p false [.c (.int .i64 ((i : Nat) : Int))])] [.row 3 1 (List.map eInt row_29) 2] st) [] [0] (by decide) ?_ ?_ ?_
    · simp only [go_sem, Int.reduceLT, Int.reduceLE, Int.reduceBEq, Int.reduceBNe, Nat.reduceBNe, Nat.reduceAdd, Nat.reduceMul, Nat.reduceEqDiff, Nat.reduceLeDiff, Nat.reduceLT, Nat.reduceBEq, reduceCtorEq, reduceIte, IV, sts_cons, sts_nil, obs_cons, obs_nil, hx2, lt_t hx2, lt_p hx2, nat_in (lt_n hx2) hlhx2, g5_1, g5_5, g5_10, g5_11, g5_12, og5_0]
    · rintro i32 x33 row_29 ⟨sl, ob, n⟩ y6 hx7 hI8 hW9 h hy6
      simp only [IV, sts_cons, sts_nil, obs_cons, obs_nil, and_true, true_and, Nat.reduceAdd, str_len] at hI8
      obtain ⟨⟨g10_1, g10_5, g10_7, g10_10, g10_11, g10_12, g10_16, g10_17, g10_18⟩, og10_0, hn⟩ := hI8
      subst hn
      have hlhx7 := WF.slotL hW9 g10_1 (j := 0) rfl
      try simp only [go_sem, Int.reduceLT, Int.reduceLE, Int.reduceBEq, Int.reduceBNe, Nat.reduceBNe, Nat.reduceAdd, Nat.reduceMul, Nat.reduceEqDiff, Nat.reduceLeDiff, Nat.reduceLT, Nat.reduceBEq, reduceCtorEq, reduceIte, hx2, lt_t hx2, lt_p hx2, nat_in (lt_n hx2) hlhx2, hx7, lt_t hx7, lt_p hx7, nat_in (lt_n hx7) hlhx7, g10_1, g10_5, g10_7, g10_10, g10_11, g10_12, g10_16, g10_17, g10_18, og10_0]
      refine ite_K h (fun c11 h => ?_) (fun c11 h => ?_)
      · try simp only [go_sem, Int.reduceLT, Int.reduceLE, Int.reduceBEq, Int.reduceBNe, Nat.reduceBNe, Nat.reduceAdd, Nat.reduceMul, Nat.reduceEqDiff, Nat.reduceLeDiff, Nat.reduceLT, Nat.reduceBEq, reduceCtorEq, reduceIte, hx2, lt_t hx2, lt_p hx2, nat_in (lt_n hx2) hlhx2, hx7, lt_t hx7, lt_p hx7, nat_in (lt_n hx7) hlhx7, c11, g10_1, g10_5, g10_7, g10_10, g10_11, g10_12, g10_16, g10_17, g10_18, og10_0]
        refine ite_K h (fun c12 h => ?_) (fun c12 h => ?_)
        · obtain ⟨p13, h⟩ := chk_K h
          try simp only [Nat.reduceLeDiff] at p13
          try simp only [go_sem, Int.reduceLT, Int.reduceLE, Int.reduceBEq, Int.reduceBNe, Nat.reduceBNe, Nat.reduceAdd, Nat.reduceMul, Nat.reduceEqDiff, Nat.reduceLeDiff, Nat.reduceLT, Nat.reduceBEq, reduceCtorEq, reduceIte, hx2, lt_t hx2, lt_p hx2, nat_in (lt_n hx2) hlhx2, hx7, lt_t hx7, lt_p hx7, nat_in (lt_n hx7) hlhx7, c11, c12, p13, g10_1, g10_5, g10_7, g10_10, g10_11, g10_12, g10_16, g10_17, g10_18, og10_0]
          refine ⟨_, [], [241], (Option.some.inj h).symm, by decide, ?_⟩
          try simp only [go_sem, Int.reduceLT, Int.reduceLE, Int.reduceBEq, Int.reduceBNe, Nat.reduceBNe, Nat.reduceAdd, Nat.reduceMul, Nat.reduceEqDiff, Nat.reduceLeDiff, Nat.reduceLT, Nat.reduceBEq, reduceCtorEq, reduceIte, hx2, lt_t hx2, lt_p hx2, nat_in (lt_n hx2) hlhx2, hx7, lt_t hx7, lt_p hx7, nat_in (lt_n hx7) hlhx7, c11, c12, p13, g10_1, g10_5, g10_7, g10_10, g10_11, g10_12, g10_16, g10_17, g10_18, og10_0, IV, sts_cons, sts_nil, obs_cons, obs_nil]
        · try simp only [go_sem, Int.reduceLT, Int.reduceLE, Int.reduceBEq, Int.reduceBNe, Nat.reduceBNe, Nat.reduceAdd, Nat.reduceMul, Nat.reduceEqDiff, Nat.reduceLeDiff, Nat.reduceLT, Nat.reduceBEq, reduceCtorEq, reduceIte, hx2, lt_t hx2, lt_p hx2, nat_in (lt_n hx2) hlhx2, hx7, lt_t hx7, lt_p hx7, nat_in (lt_n hx7) hlhx7, c11, c12, g10_1, g10_5, g10_7, g10_10, g10_11, g10_12, g10_16, g10_17, g10_18, og10_0]
          refine ⟨_, [], [0], (Option.some.inj h).symm, by decide, ?_⟩
          try simp only [go_sem, Int.reduceLT, Int.reduceLE, Int.reduceBEq, Int.reduceBNe, Nat.reduceBNe, Nat.reduceAdd, Nat.reduceMul, Nat.reduceEqDiff, Nat.reduceLeDiff, Nat.reduceLT, Nat.reduceBEq, reduceCtorEq, reduceIte, hx2, lt_t hx2, lt_p hx2, nat_in (lt_n hx2) hlhx2, hx7, lt_t hx7, lt_p hx7, nat_in (lt_n hx7) hlhx7, c11, c12, g10_1, g10_5, g10_7, g10_10, g10_11, g10_12, g10_16, g10_17, g10_18, og10_0, IV, sts_cons, sts_nil, obs_cons, obs_nil]
      · try simp only [go_sem, Int.reduceLT, Int.reduceLE, Int.reduceBEq, Int.reduceBNe, Nat.reduceBNe, Nat.reduceAdd, Nat.reduceMul, Nat.reduceEqDiff, Nat.reduceLeDiff, Nat.reduceLT, Nat.reduceBEq, reduceCtorEq, reduceIte, hx2, lt_t hx2, lt_p hx2, nat_in (lt_n hx2) hlhx2, hx7, lt_t hx7, lt_p hx7, nat_in (lt_n hx7) hlhx7, c11, g10_1, g10_5, g10_7, g10_10, g10_11, g10_12, g10_16, g10_17, g10_18, og10_0]
        refine ⟨_, [], [0], (Option.some.inj h).symm, by decide, ?_⟩
        try simp only [go_sem, Int.reduceLT, Int.reduceLE, Int.reduceBEq, Int.reduceBNe, Nat.reduceBNe, Nat.reduceAdd, Nat.reduceMul, Nat.reduceEqDiff, Nat.reduceLeDiff, Nat.reduceLT, Nat.reduceBEq, reduceCtorEq, reduceIte, hx2, lt_t hx2, lt_p hx2, nat_in (lt_n hx2) hlhx2, hx7, lt_t hx7, lt_p hx7, nat_in (lt_n hx7) hlhx7, c11, g10_1, g10_5, g10_7, g10_10, g10_11, g10_12, g10_16, g10_17, g10_18, og10_0, IV, sts_cons, sts_nil, obs_cons, obs_nil]
    · rintro row_29 ⟨sl, ob, n⟩ hI14 hW15 h
      simp only [IV, sts_cons, sts_nil, obs_cons, obs_nil, and_true, true_and, Nat.reduceAdd, str_len] at hI14
      obtain ⟨⟨g16_1, g16_5, g16_7, g16_10, g16_11, g16_12, g16_16, g16_17, g16_18⟩, og16_0, hn⟩ := hI14
      subst hn
      try simp only [go_sem, Int.reduceLT, Int.reduceLE, Int.reduceBEq, Int.reduceBNe, Nat.reduceBNe, Nat.reduceAdd, Nat.reduceMul, Nat.reduceEqDiff, Nat.reduceLeDiff, Nat.reduceLT, Nat.reduceBEq, reduceCtorEq, reduceIte, hx2, lt_t hx2, lt_p hx2, nat_in (lt_n hx2) hlhx2, lt_f (b_1.length), g16_1, g16_5, g16_7, g16_10, g16_11, g16_12, g16_16, g16_17, g16_18, og16_0]
      refine ⟨_, [], [0], (Option.some.inj h).symm, by decide, ?_⟩
      try simp only [go_sem, Int.reduceLT, Int.reduceLE, Int.reduceBEq, Int.reduceBNe, Nat.reduceBNe, Nat.reduceAdd, Nat.reduceMul, Nat.reduceEqDiff, Nat.reduceLeDiff, Nat.reduceLT, Nat.reduceBEq, reduceCtorEq, reduceIte, hx2, lt_t hx2, lt_p hx2, nat_in (lt_n hx2) hlhx2, lt_f (b_1.length), g16_1, g16_5, g16_7, g16_10, g16_11, g16_12, g16_16, g16_17, g16_18, og16_0, IV, sts_cons, sts_nil, obs_cons, obs_nil]
  · rintro row_16 ⟨sl, ob, n⟩ hI17 hW18 h
    simp only [IV, sts_cons, sts_nil, obs_cons, obs_nil, and_true, true_and, Nat.reduceAdd, str_len] at hI17
    obtain ⟨⟨g19_1, g19_5, g19_10, g19_11, g19_12⟩, og19_0, hn⟩ := hI17
    subst hn
    try simp only [go_sem, Int.reduceLT, Int.reduceLE, Int.reduceBEq, Int.reduceBNe, Nat.reduceBNe, Nat.reduceAdd, Nat.reduceMul, Nat.reduceEqDiff, Nat.reduceLeDiff, Nat.reduceLT, Nat.reduceBEq, reduceCtorEq, reduceIte, lt_f (a_0.length), g19_1, g19_5, g19_10, g19_11, g19_12, og19_0]
    obtain ⟨v34, e20, h⟩ := bind_K h
    refine call_K (by first | exact i_LeastSets_ok e20 | simpa only [go_sem, Int.reduceLT, Int.reduceLE, Int.reduceBEq, Int.reduceBNe, Nat.reduceBNe, Nat.reduceAdd, Nat.reduceMul, Nat.reduceEqDiff, Nat.reduceLeDiff, Nat.reduceLT, Nat.reduceBEq, reduceCtorEq, reduceIte, lt_f (a_0.length), g19_1, g19_5, g19_10, g19_11, g19_12, og19_0] using i_LeastSets_ok e20) ?_
    obtain rfl := Option.some.inj h
    try simp only [go_sem, Int.reduceLT, Int.reduceLE, Int.reduceBEq, Int.reduceBNe, Nat.reduceBNe, Nat.reduceAdd, Nat.reduceMul, Nat.reduceEqDiff, Nat.reduceLeDiff, Nat.reduceLT, Nat.reduceBEq, reduceCtorEq, reduceIte, lt_f (a_0.length), g19_1, g19_5, g19_10, g19_11, g19_12, og19_0]
end Go.Proofs.Ytfbonanbiblkbaa

namespace Go.Proofs.Ytfbonanbiblkbaa
open Go.Proofs.Try
set_option linter.unusedSimpArgs false
set_option linter.unusedVariables false
set_option maxRecDepth 1000000
set_option maxHeartbeats 4000000
theorem i_IsBeliefs_ok {b_0 : BeliefsD} {r : Bool} (h : i_IsBeliefs b_0 = some r) : Sound Try.prog J0 50 [(true, eBeliefs b_0)] [(false, [(false, .bool r)])] := by
  refine fnk Try.func50 (by kernel_rfl) rfl (by kernel_rfl) (by kernel_rfl) ?_
  unfold i_IsBeliefs at h
  simp only [fnS, f50, argSt, go_sem, Int.reduceLT, Int.reduceLE, Int.reduceBEq, Int.reduceBNe, Nat.reduceBNe, Nat.reduceAdd, Nat.reduceMul, Nat.reduceEqDiff, Nat.reduceLeDiff, Nat.reduceLT, Nat.reduceBEq, reduceCtorEq, reduceIte]
  refine ite_K h (fun c1 h => ?_) (fun c1 h => ?_)
  · obtain rfl := Option.some.inj h
    try simp only [go_sem, Int.reduceLT, Int.reduceLE, Int.reduceBEq, Int.reduceBNe, Nat.reduceBNe, Nat.reduceAdd, Nat.reduceMul, Nat.reduceEqDiff, Nat.reduceLeDiff, Nat.reduceLT, Nat.reduceBEq, reduceCtorEq, reduceIte, c1]
  · try simp only [go_sem, Int.reduceLT, Int.reduceLE, Int.reduceBEq, Int.reduceBNe, Nat.reduceBNe, Nat.reduceAdd, Nat.reduceMul, Nat.reduceEqDiff, Nat.reduceLeDiff, Nat.reduceLT, Nat.reduceBEq, reduceCtorEq, reduceIte, c1]
    refine ite_K h (fun c2 h => ?_) (fun c2 h => ?_)
    · obtain rfl := Option.some.inj h
      try simp only [go_sem, Int.reduceLT, Int.reduceLE, Int.reduceBEq, Int.reduceBNe, Nat.reduceBNe, Nat.reduceAdd, Nat.reduceMul, Nat.reduceEqDiff, Nat.reduceLeDiff, Nat.reduceLT, Nat.reduceBEq, reduceCtorEq, reduceIte, c1, c2]
    · try simp only [go_sem, Int.reduceLT, Int.reduceLE, Int.reduceBEq, Int.reduceBNe, Nat.reduceBNe, Nat.reduceAdd, Nat.reduceMul, Nat.reduceEqDiff, Nat.reduceLeDiff, Nat.reduceLT, Nat.reduceBEq, reduceCtorEq, reduceIte, c1, c2]
      refine ite_K h (fun c3 h => ?_) (fun c3 h => ?_)
      · obtain rfl := Option.some.inj h
        try simp only [go_sem, Int.reduceLT, Int.reduceLE, Int.reduceBEq, Int.reduceBNe, Nat.reduceBNe, Nat.reduceAdd, Nat.reduceMul, Nat.reduceEqDiff, Nat.reduceLeDiff, Nat.reduceLT, Nat.reduceBEq, reduceCtorEq, reduceIte, c1, c2, c3]
      · try simp only [go_sem, Int.reduceLT, Int.reduceLE, Int.reduceBEq, Int.reduceBNe, Nat.reduceBNe, Nat.reduceAdd, Nat.reduceMul, Nat.reduceEqDiff, Nat.reduceLeDiff, Nat.reduceLT, Nat.reduceBEq, reduceCtorEq, reduceIte, c1, c2, c3]
        refine swp_for h (fun i _ st => IV [(1, .bp 0 0), (20, .p false [.c (.sl 49 3 (List.map eReason b_0.reasons))]), (21, .p false [.c (.int .i64 ((b_0.reasons.length : Nat) : Int))]), (22, .p false [.c (.int .i64 ((i : Nat) : Int))])] [.box 37 [.c (.int .i64 b_0.nodes), .c (.sl 49 3 (List.map eReason b_0.reasons))]] st) [] [0] (by decide) ?_ ?_ ?_
        · simp only [go_sem, Int.reduceLT, Int.reduceLE, Int.reduceBEq, Int.reduceBNe, Nat.reduceBNe, Nat.reduceAdd, Nat.reduceMul, Nat.reduceEqDiff, Nat.reduceLeDiff, Nat.reduceLT, Nat.reduceBEq, reduceCtorEq, reduceIte, IV, sts_cons, sts_nil, obs_cons, obs_nil, c1, c2, c3]
        · rintro i8 x9 ⟨⟩ ⟨sl, ob, n⟩ y4 hx5 hI6 hW7 h hy4
          simp only [IV, sts_cons, sts_nil, obs_cons, obs_nil, and_true, true_and, Nat.reduceAdd, str_len] at hI6
          obtain ⟨⟨g8_1, g8_20, g8_21, g8_22⟩, og8_0, hn⟩ := hI6
          subst hn
          have hlhx5 := WF.slotL hW7 g8_20 (j := 0) rfl
          try simp only [go_sem, Int.reduceLT, Int.reduceLE, Int.reduceBEq, Int.reduceBNe, Nat.reduceBNe, Nat.reduceAdd, Nat.reduceMul, Nat.reduceEqDiff, Nat.reduceLeDiff, Nat.reduceLT, Nat.reduceBEq, reduceCtorEq, reduceIte, c1, c2, c3, hx5, lt_t hx5, lt_p hx5, nat_in (lt_n hx5) hlhx5, g8_1, g8_20, g8_21, g8_22, og8_0]
          refine ite_K h (fun c9 h => ?_) (fun c9 h => ?_)
          · replace h := inr_K h hy4
            obtain rfl := Option.some.inj h
            try simp only [go_sem, Int.reduceLT, Int.reduceLE, Int.reduceBEq, Int.reduceBNe, Nat.reduceBNe, Nat.reduceAdd, Nat.reduceMul, Nat.reduceEqDiff, Nat.reduceLeDiff, Nat.reduceLT, Nat.reduceBEq, reduceCtorEq, reduceIte, c1, c2, c3, hx5, lt_t hx5, lt_p hx5, nat_in (lt_n hx5) hlhx5, c9, g8_1, g8_20, g8_21, g8_22, og8_0]
          · try simp only [go_sem, Int.reduceLT, Int.reduceLE, Int.reduceBEq, Int.reduceBNe, Nat.reduceBNe, Nat.reduceAdd, Nat.reduceMul, Nat.reduceEqDiff, Nat.reduceLeDiff, Nat.reduceLT, Nat.reduceBEq, reduceCtorEq, reduceIte, c1, c2, c3, hx5, lt_t hx5, lt_p hx5, nat_in (lt_n hx5) hlhx5, c9, g8_1, g8_20, g8_21, g8_22, og8_0]
            refine ite_K h (fun c10 h => ?_) (fun c10 h => ?_)
            · replace h := inr_K h hy4
              obtain rfl := Option.some.inj h
              try simp only [go_sem, Int.reduceLT, Int.reduceLE, Int.reduceBEq, Int.reduceBNe, Nat.reduceBNe, Nat.reduceAdd, Nat.reduceMul, Nat.reduceEqDiff, Nat.reduceLeDiff, Nat.reduceLT, Nat.reduceBEq, reduceCtorEq, reduceIte, c1, c2, c3, hx5, lt_t hx5, lt_p hx5, nat_in (lt_n hx5) hlhx5, c9, c10, g8_1, g8_20, g8_21, g8_22, og8_0]
            · try simp only [go_sem, Int.reduceLT, Int.reduceLE, Int.reduceBEq, Int.reduceBNe, Nat.reduceBNe, Nat.reduceAdd, Nat.reduceMul, Nat.reduceEqDiff, Nat.reduceLeDiff, Nat.reduceLT, Nat.reduceBEq, reduceCtorEq, reduceIte, c1, c2, c3, hx5, lt_t hx5, lt_p hx5, nat_in (lt_n hx5) hlhx5, c9, c10, g8_1, g8_20, g8_21, g8_22, og8_0]
              obtain ⟨v10, e11, h⟩ := bind_K h
              refine call_K (by first | exact i_ascendingNodes_ok e11 | simpa only [go_sem, Int.reduceLT, Int.reduceLE, Int.reduceBEq, Int.reduceBNe, Nat.reduceBNe, Nat.reduceAdd, Nat.reduceMul, Nat.reduceEqDiff, Nat.reduceLeDiff, Nat.reduceLT, Nat.reduceBEq, reduceCtorEq, reduceIte, c1, c2, c3, hx5, lt_t hx5, lt_p hx5, nat_in (lt_n hx5) hlhx5, c9, c10, g8_1, g8_20, g8_21, g8_22, og8_0] using i_ascendingNodes_ok e11) ?_
              try simp only [go_sem, Int.reduceLT, Int.reduceLE, Int.reduceBEq, Int.reduceBNe, Nat.reduceBNe, Nat.reduceAdd, Nat.reduceMul, Nat.reduceEqDiff, Nat.reduceLeDiff, Nat.reduceLT, Nat.reduceBEq, reduceCtorEq, reduceIte, c1, c2, c3, hx5, lt_t hx5, lt_p hx5, nat_in (lt_n hx5) hlhx5, c9, c10, g8_1, g8_20, g8_21, g8_22, og8_0]
              refine ite_K h (fun c12 h => ?_) (fun c12 h => ?_)
              · try simp only [go_sem, Int.reduceLT, Int.reduceLE, Int.reduceBEq, Int.reduceBNe, Nat.reduceBNe, Nat.reduceAdd, Nat.reduceMul, Nat.reduceEqDiff, Nat.reduceLeDiff, Nat.reduceLT, Nat.reduceBEq, reduceCtorEq, reduceIte, c1, c2, c3, hx5, lt_t hx5, lt_p hx5, nat_in (lt_n hx5) hlhx5, c9, c10, c12, g8_1, g8_20, g8_21, g8_22, og8_0]
                obtain ⟨v11, e13, h⟩ := bind_K h
                refine call_K (by first | exact i_ascendingNodes_ok e13 | simpa only [go_sem, Int.reduceLT, Int.reduceLE, Int.reduceBEq, Int.reduceBNe, Nat.reduceBNe, Nat.reduceAdd, Nat.reduceMul, Nat.reduceEqDiff, Nat.reduceLeDiff, Nat.reduceLT, Nat.reduceBEq, reduceCtorEq, reduceIte, c1, c2, c3, hx5, lt_t hx5, lt_p hx5, nat_in (lt_n hx5) hlhx5, c9, c10, c12, g8_1, g8_20, g8_21, g8_22, og8_0] using i_ascendingNodes_ok e13) ?_
                try simp only [go_sem, Int.reduceLT, Int.reduceLE, Int.reduceBEq, Int.reduceBNe, Nat.reduceBNe, Nat.reduceAdd, Nat.reduceMul, Nat.reduceEqDiff, Nat.reduceLeDiff, Nat.reduceLT, Nat.reduceBEq, reduceCtorEq, reduceIte, c1, c2, c3, hx5, lt_t hx5, lt_p hx5, nat_in (lt_n hx5) hlhx5, c9, c10, c12, g8_1, g8_20, g8_21, g8_22, og8_0]
                refine ite_K h (fun c14 h => ?_) (fun c14 h => ?_)
                · try simp only [go_sem, Int.reduceLT, Int.reduceLE, Int.reduceBEq, Int.reduceBNe, Nat.reduceBNe, Nat.reduceAdd, Nat.reduceMul, Nat.reduceEqDiff, Nat.reduceLeDiff, Nat.reduceLT, Nat.reduceBEq, reduceCtorEq, reduceIte, c1, c2, c3, hx5, lt_t hx5, lt_p hx5, nat_in (lt_n hx5) hlhx5, c9, c10, c12, c14, g8_1, g8_20, g8_21, g8_22, og8_0]
                  refine ⟨_, [], [0], (Option.some.inj h).symm, by decide, ?_⟩
                  try simp only [go_sem, Int.reduceLT, Int.reduceLE, Int.reduceBEq, Int.reduceBNe, Nat.reduceBNe, Nat.reduceAdd, Nat.reduceMul, Nat.reduceEqDiff, Nat.reduceLeDiff, Nat.reduceLT, Nat.reduceBEq, reduceCtorEq, reduceIte, c1, c2, c3, hx5, lt_t hx5, lt_p hx5, nat_in (lt_n hx5) hlhx5, c9, c10, c12, c14, g8_1, g8_20, g8_21, g8_22, og8_0, IV, sts_cons, sts_nil, obs_cons, obs_nil]
                · replace h := inr_K h hy4
                  obtain rfl := Option.some.inj h
                  try simp only [go_sem, Int.reduceLT, Int.reduceLE, Int.reduceBEq, Int.reduceBNe, Nat.reduceBNe, Nat.reduceAdd, Nat.reduceMul, Nat.reduceEqDiff, Nat.reduceLeDiff, Nat.reduceLT, Nat.reduceBEq, reduceCtorEq, reduceIte, c1, c2, c3, hx5, lt_t hx5, lt_p hx5, nat_in (lt_n hx5) hlhx5, c9, c10, c12, c14, g8_1, g8_20, g8_21, g8_22, og8_0]
              · replace h := inr_K h hy4
                obtain rfl := Option.some.inj h
                try simp only [go_sem, Int.reduceLT, Int.reduceLE, Int.reduceBEq, Int.reduceBNe, Nat.reduceBNe, Nat.reduceAdd, Nat.reduceMul, Nat.reduceEqDiff, Nat.reduceLeDiff, Nat.reduceLT, Nat.reduceBEq, reduceCtorEq, reduceIte, c1, c2, c3, hx5, lt_t hx5, lt_p hx5, nat_in (lt_n hx5) hlhx5, c9, c10, c12, g8_1, g8_20, g8_21, g8_22, og8_0]
        · rintro ⟨⟩ ⟨sl, ob, n⟩ hI15 hW16 h
          simp only [IV, sts_cons, sts_nil, obs_cons, obs_nil, and_true, true_and, Nat.reduceAdd, str_len] at hI15
          obtain ⟨⟨g17_1, g17_20, g17_21, g17_22⟩, og17_0, hn⟩ := hI15
          subst hn
          obtain rfl := Option.some.inj h
          try simp only [go_sem, Int.reduceLT, Int.reduceLE, Int.reduceBEq, Int.reduceBNe, Nat.reduceBNe, Nat.reduceAdd, Nat.reduceMul, Nat.reduceEqDiff, Nat.reduceLeDiff, Nat.reduceLT, Nat.reduceBEq, reduceCtorEq, reduceIte, c1, c2, c3, lt_f (b_0.reasons.length), g17_1, g17_20, g17_21, g17_22, og17_0]
theorem i_copyReason_ok {r_0 : ReasonD} {r : ReasonD} (h : i_copyReason r_0 = some r) : Sound Try.prog J0 77 [(true, eReason r_0)] [(true, [(false, .int .i64 r.for_), (false, .sl 3 1 (List.map eInt r.inn)), (false, .sl 3 1 (List.map eInt r.outs))])] := by
  refine fnk Try.func77 (by kernel_rfl) rfl (by kernel_rfl) (by kernel_rfl) ?_
  unfold i_copyReason at h
  simp only [fnS, f77, argSt, go_sem, Int.reduceLT, Int.reduceLE, Int.reduceBEq, Int.reduceBNe, Nat.reduceBNe, Nat.reduceAdd, Nat.reduceMul, Nat.reduceEqDiff, Nat.reduceLeDiff, Nat.reduceLT, Nat.reduceBEq, reduceCtorEq, reduceIte]
  obtain ⟨v1, e1, h⟩ := bind_K h
  refine call_K (by first | exact i_copyInts_ok e1 | simpa only [go_sem, Int.reduceLT, Int.reduceLE, Int.reduceBEq, Int.reduceBNe, Nat.reduceBNe, Nat.reduceAdd, Nat.reduceMul, Nat.reduceEqDiff, Nat.reduceLeDiff, Nat.reduceLT, Nat.reduceBEq, reduceCtorEq, reduceIte] using i_copyInts_ok e1) ?_
  try simp only [go_sem, Int.reduceLT, Int.reduceLE, Int.reduceBEq, Int.reduceBNe, Nat.reduceBNe, Nat.reduceAdd, Nat.reduceMul, Nat.reduceEqDiff, Nat.reduceLeDiff, Nat.reduceLT, Nat.reduceBEq, reduceCtorEq, reduceIte]
  obtain ⟨v2, e2, h⟩ := bind_K h
  refine call_K (by first | exact i_copyInts_ok e2 | simpa only [go_sem, Int.reduceLT, Int.reduceLE, Int.reduceBEq, Int.reduceBNe, Nat.reduceBNe, Nat.reduceAdd, Nat.reduceMul, Nat.reduceEqDiff, Nat.reduceLeDiff, Nat.reduceLT, Nat.reduceBEq, reduceCtorEq, reduceIte] using i_copyInts_ok e2) ?_
  obtain rfl := Option.some.inj h
  try simp only [go_sem, Int.reduceLT, Int.reduceLE, Int.reduceBEq, Int.reduceBNe, Nat.reduceBNe, Nat.reduceAdd, Nat.reduceMul, Nat.reduceEqDiff, Nat.reduceLeDiff, Nat.reduceLT, Nat.reduceBEq, reduceCtorEq, reduceIte]
theorem i_rounds_ok {append_0 : BeliefsD} {r : (List Int)} (h : i_rounds append_0 = some r) : Sound Try.prog J0 84 [(true, eBeliefs append_0)] [(false, [(false, .sl 3 1 (List.map eInt r))])] := by
  refine fnk Try.func84 (by kernel_rfl) rfl (by kernel_rfl) (by kernel_rfl) ?_
  unfold i_rounds at h
  simp only [fnS, f84, argSt, go_sem, Int.reduceLT, Int.reduceLE, Int.reduceBEq, Int.reduceBNe, Nat.reduceBNe, Nat.reduceAdd, Nat.reduceMul, Nat.reduceEqDiff, Nat.reduceLeDiff, Nat.reduceLT, Nat.reduceBEq, reduceCtorEq, reduceIte]
  obtain ⟨v1, e1, h⟩ := bind_K h
  refine call_K (by first | exact i_strata_ok e1 | simpa only [go_sem, Int.reduceLT, Int.reduceLE, Int.reduceBEq, Int.reduceBNe, Nat.reduceBNe, Nat.reduceAdd, Nat.reduceMul, Nat.reduceEqDiff, Nat.reduceLeDiff, Nat.reduceLT, Nat.reduceBEq, reduceCtorEq, reduceIte] using i_strata_ok e1) ?_
  obtain ⟨p2, h⟩ := chk_K h
  try simp only [go_sem, Int.reduceLT, Int.reduceLE, Int.reduceBEq, Int.reduceBNe, Nat.reduceBNe, Nat.reduceAdd, Nat.reduceMul, Nat.reduceEqDiff, Nat.reduceLeDiff, Nat.reduceLT, Nat.reduceBEq, reduceCtorEq, reduceIte, p2.1, p2.2]
  refine swp_iter h (fun s st => match s with | (row_4, u_5, u_6) => IV [(1, .bp 0 0), (3, .p false [.row 1]), (4, .p false [.row 2]), (5, .p false [.c (.int .i64 u_6)]), (20, .p false [.c (.int .i64 ((Int.toNat append_0.nodes : Nat) : Int))]), (21, .p false [.c (.int .i64 u_5)])] [.box 37 [.c (.int .i64 append_0.nodes), .c (.sl 49 3 (List.map eReason append_0.reasons))], .row 3 1 (List.map eInt v1) 2, .row 3 1 (List.map eInt row_4) 2] st) [] [0, 48, 112] (by decide) ?_ ?_
  · simp only [go_sem, Int.reduceLT, Int.reduceLE, Int.reduceBEq, Int.reduceBNe, Nat.reduceBNe, Nat.reduceAdd, Nat.reduceMul, Nat.reduceEqDiff, Nat.reduceLeDiff, Nat.reduceLT, Nat.reduceBEq, reduceCtorEq, reduceIte, IV, sts_cons, sts_nil, obs_cons, obs_nil, p2.1, p2.2]
  · rintro ⟨row_4, u_5, u_6⟩ ⟨sl, ob, n⟩ y3 hI4 hW5 h hy3
    simp only [IV, sts_cons, sts_nil, obs_cons, obs_nil, and_true, true_and, Nat.reduceAdd, str_len] at hI4
    obtain ⟨⟨g6_1, g6_3, g6_4, g6_5, g6_20, g6_21⟩, og6_0, og6_1, og6_2, hn⟩ := hI4
    subst hn
    try simp only [go_sem, Int.reduceLT, Int.reduceLE, Int.reduceBEq, Int.reduceBNe, Nat.reduceBNe, Nat.reduceAdd, Nat.reduceMul, Nat.reduceEqDiff, Nat.reduceLeDiff, Nat.reduceLT, Nat.reduceBEq, reduceCtorEq, reduceIte, p2.1, p2.2, g6_1, g6_3, g6_4, g6_5, g6_20, g6_21, og6_0, og6_1, og6_2]
    refine ite_K h (fun c7 h => ?_) (fun c7 h => ?_)
    · obtain ⟨p8, h⟩ := chk_K h
      obtain ⟨x7, e9, h⟩ := bind_K h
      obtain ⟨p10, h⟩ := chk_K h
      obtain ⟨x8, e11, h⟩ := bind_K h
      try simp only [go_sem, Int.reduceLT, Int.reduceLE, Int.reduceBEq, Int.reduceBNe, Nat.reduceBNe, Nat.reduceAdd, Nat.reduceMul, Nat.reduceEqDiff, Nat.reduceLeDiff, Nat.reduceLT, Nat.reduceBEq, reduceCtorEq, reduceIte, p2.1, p2.2, c7, p8.1, p8.2, e9, p10, e11, g6_1, g6_3, g6_4, g6_5, g6_20, g6_21, og6_0, og6_1, og6_2]
      refine ⟨_, [], [0, 1, 2], (Option.some.inj h).symm, by decide, ?_⟩
      try simp only [go_sem, Int.reduceLT, Int.reduceLE, Int.reduceBEq, Int.reduceBNe, Nat.reduceBNe, Nat.reduceAdd, Nat.reduceMul, Nat.reduceEqDiff, Nat.reduceLeDiff, Nat.reduceLT, Nat.reduceBEq, reduceCtorEq, reduceIte, p2.1, p2.2, c7, p8.1, p8.2, e9, p10, e11, g6_1, g6_3, g6_4, g6_5, g6_20, g6_21, og6_0, og6_1, og6_2, IV, sts_cons, sts_nil, obs_cons, obs_nil]
    · try simp only [go_sem, Int.reduceLT, Int.reduceLE, Int.reduceBEq, Int.reduceBNe, Nat.reduceBNe, Nat.reduceAdd, Nat.reduceMul, Nat.reduceEqDiff, Nat.reduceLeDiff, Nat.reduceLT, Nat.reduceBEq, reduceCtorEq, reduceIte, p2.1, p2.2, c7, g6_1, g6_3, g6_4, g6_5, g6_20, g6_21, og6_0, og6_1, og6_2]
      refine swp_iter h (fun s st => match s with | (row_84, u_85, u_46) => IV [(1, .bp 0 0), (3, .p false [.row 1]), (4, .p false [.row 2]), (5, .p false [.c (.int .i64 u_6)]), (7, .p false [.c (.int .i64 u_85)]), (8, .p false [.c (.int .i64 u_46)])] [.box 37 [.c (.int .i64 append_0.nodes), .c (.sl 49 3 (List.map eReason append_0.reasons))], .row 3 1 (List.map eInt v1) 2, .row 3 1 (List.map eInt row_84) 2] st) [] [0, 1, 2] (by decide) ?_ ?_
      · simp only [go_sem, Int.reduceLT, Int.reduceLE, Int.reduceBEq, Int.reduceBNe, Nat.reduceBNe, Nat.reduceAdd, Nat.reduceMul, Nat.reduceEqDiff, Nat.reduceLeDiff, Nat.reduceLT, Nat.reduceBEq, reduceCtorEq, reduceIte, IV, sts_cons, sts_nil, obs_cons, obs_nil, p2.1, p2.2, c7, g6_1, g6_3, g6_4, g6_5, g6_20, g6_21, og6_0, og6_1, og6_2]
      · rintro ⟨row_84, u_85, u_46⟩ ⟨sl, ob, n⟩ y12 hI13 hW14 h hy12
        simp only [IV, sts_cons, sts_nil, obs_cons, obs_nil, and_true, true_and, Nat.reduceAdd, str_len] at hI13
        obtain ⟨⟨g15_1, g15_3, g15_4, g15_5, g15_7, g15_8⟩, og15_0, og15_1, og15_2, hn⟩ := hI13
        subst hn
        try simp only [go_sem, Int.reduceLT, Int.reduceLE, Int.reduceBEq, Int.reduceBNe, Nat.reduceBNe, Nat.reduceAdd, Nat.reduceMul, Nat.reduceEqDiff, Nat.reduceLeDiff, Nat.reduceLT, Nat.reduceBEq, reduceCtorEq, reduceIte, p2.1, p2.2, c7, g15_1, g15_3, g15_4, g15_5, g15_7, g15_8, og15_0, og15_1, og15_2]
        refine ite_K h (fun c16 h => ?_) (fun c16 h => ?_)
        · try simp only [go_sem, Int.reduceLT, Int.reduceLE, Int.reduceBEq, Int.reduceBNe, Nat.reduceBNe, Nat.reduceAdd, Nat.reduceMul, Nat.reduceEqDiff, Nat.reduceLeDiff, Nat.reduceLT, Nat.reduceBEq, reduceCtorEq, reduceIte, p2.1, p2.2, c7, c16, g15_1, g15_3, g15_4, g15_5, g15_7, g15_8, og15_0, og15_1, og15_2]
          refine swp_for h (fun i row_94 st => IV [(1, .bp 0 0), (3, .p false [.row 1]), (4, .p false [.row 2]), (5, .p false [.c (.int .i64 u_6)]), (7, .p false [.c (.int .i64 u_85)]), (8, .p false [.c (.int .i64 u_46)]), (9, .p false [.row 3]), (38, .p false [.c (.sl 49 3 (List.map eReason append_0.reasons))]), (39, .p false [.c (.int .i64 ((append_0.reasons.length : Nat) : Int))]), (40, .p false [.c (.int .i64 ((i : Nat) : Int))])] [.box 37 [.c (.int .i64 append_0.nodes), .c (.sl 49 3 (List.map eReason append_0.reasons))], .row 3 1 (List.map eInt v1) 2, .row 3 1 (List.map eInt row_84) 2, .row 3 1 (List.map eInt row_94) 2] st) [(false, 9, 0)] [0, 1, 2, 131] (by decide) ?_ ?_ ?_
          · simp only [go_sem, Int.reduceLT, Int.reduceLE, Int.reduceBEq, Int.reduceBNe, Nat.reduceBNe, Nat.reduceAdd, Nat.reduceMul, Nat.reduceEqDiff, Nat.reduceLeDiff, Nat.reduceLT, Nat.reduceBEq, reduceCtorEq, reduceIte, IV, sts_cons, sts_nil, obs_cons, obs_nil, p2.1, p2.2, c7, c16, g15_1, g15_3, g15_4, g15_5, g15_7, g15_8, og15_0, og15_1, og15_2]
          · rintro i109 x110 row_94 ⟨sl, ob, n⟩ y17 hx18 hI19 hW20 h hy17
            simp only [IV, sts_cons, sts_nil, obs_cons, obs_nil, and_true, true_and, Nat.reduceAdd, str_len] at hI19
            obtain ⟨⟨g21_1, g21_3, g21_4, g21_5, g21_7, g21_8, g21_9, g21_38, g21_39, g21_40⟩, og21_0, og21_1, og21_2, og21_3, hn⟩ := hI19
            subst hn
            have hlhx18 := WF.slotL hW20 g21_38 (j := 0) rfl
            obtain ⟨p22, h⟩ := chk_K h
            obtain ⟨x111, e23, h⟩ := bind_K h
            try simp only [go_sem, Int.reduceLT, Int.reduceLE, Int.reduceBEq, Int.reduceBNe, Nat.reduceBNe, Nat.reduceAdd, Nat.reduceMul, Nat.reduceEqDiff, Nat.reduceLeDiff, Nat.reduceLT, Nat.reduceBEq, reduceCtorEq, reduceIte, p2.1, p2.2, c7, c16, hx18, lt_t hx18, lt_p hx18, nat_in (lt_n hx18) hlhx18, p22.1, p22.2, e23, g21_1, g21_3, g21_4, g21_5, g21_7, g21_8, g21_9, g21_38, g21_39, g21_40, og21_0, og21_1, og21_2, og21_3]
            refine ite_K h (fun c24 h => ?_) (fun c24 h => ?_)
            · obtain ⟨p25, h⟩ := chk_K h
              obtain ⟨x112, e26, h⟩ := bind_K h
              try simp only [go_sem, Int.reduceLT, Int.reduceLE, Int.reduceBEq, Int.reduceBNe, Nat.reduceBNe, Nat.reduceAdd, Nat.reduceMul, Nat.reduceEqDiff, Nat.reduceLeDiff, Nat.reduceLT, Nat.reduceBEq, reduceCtorEq, reduceIte, p2.1, p2.2, c7, c16, hx18, lt_t hx18, lt_p hx18, nat_in (lt_n hx18) hlhx18, p22.1, p22.2, e23, c24, p25, e26, g21_1, g21_3, g21_4, g21_5, g21_7, g21_8, g21_9, g21_38, g21_39, g21_40, og21_0, og21_1, og21_2, og21_3]
              refine ite_K h (fun c27 h => ?_) (fun c27 h => ?_)
              · try simp only [go_sem, Int.reduceLT, Int.reduceLE, Int.reduceBEq, Int.reduceBNe, Nat.reduceBNe, Nat.reduceAdd, Nat.reduceMul, Nat.reduceEqDiff, Nat.reduceLeDiff, Nat.reduceLT, Nat.reduceBEq, reduceCtorEq, reduceIte, p2.1, p2.2, c7, c16, hx18, lt_t hx18, lt_p hx18, nat_in (lt_n hx18) hlhx18, p22.1, p22.2, e23, c24, p25, e26, c27, g21_1, g21_3, g21_4, g21_5, g21_7, g21_8, g21_9, g21_38, g21_39, g21_40, og21_0, og21_1, og21_2, og21_3]
                obtain ⟨v113, e28, h⟩ := bind_K h
                refine call_K (by first | exact i_supported_ok e28 | simpa only [go_sem, Int.reduceLT, Int.reduceLE, Int.reduceBEq, Int.reduceBNe, Nat.reduceBNe, Nat.reduceAdd, Nat.reduceMul, Nat.reduceEqDiff, Nat.reduceLeDiff, Nat.reduceLT, Nat.reduceBEq, reduceCtorEq, reduceIte, p2.1, p2.2, c7, c16, hx18, lt_t hx18, lt_p hx18, nat_in (lt_n hx18) hlhx18, p22.1, p22.2, e23, c24, p25, e26, c27, g21_1, g21_3, g21_4, g21_5, g21_7, g21_8, g21_9, g21_38, g21_39, g21_40, og21_0, og21_1, og21_2, og21_3] using i_supported_ok e28) ?_
                try simp only [go_sem, Int.reduceLT, Int.reduceLE, Int.reduceBEq, Int.reduceBNe, Nat.reduceBNe, Nat.reduceAdd, Nat.reduceMul, Nat.reduceEqDiff, Nat.reduceLeDiff, Nat.reduceLT, Nat.reduceBEq, reduceCtorEq, reduceIte, p2.1, p2.2, c7, c16, hx18, lt_t hx18, lt_p hx18, nat_in (lt_n hx18) hlhx18, p22.1, p22.2, e23, c24, p25, e26, c27, g21_1, g21_3, g21_4, g21_5, g21_7, g21_8, g21_9, g21_38, g21_39, g21_40, og21_0, og21_1, og21_2, og21_3]
                refine ite_K h (fun c29 h => ?_) (fun c29 h => ?_)
                · obtain ⟨p30, h⟩ := chk_K h
                  try simp only [Nat.reduceLeDiff] at p30
                  try simp only [go_sem, Int.reduceLT, Int.reduceLE, Int.reduceBEq, Int.reduceBNe, Nat.reduceBNe, Nat.reduceAdd, Nat.reduceMul, Nat.reduceEqDiff, Nat.reduceLeDiff, Nat.reduceLT, Nat.reduceBEq, reduceCtorEq, reduceIte, p2.1, p2.2, c7, c16, hx18, lt_t hx18, lt_p hx18, nat_in (lt_n hx18) hlhx18, p22.1, p22.2, e23, c24, p25, e26, c27, c29, p30, g21_1, g21_3, g21_4, g21_5, g21_7, g21_8, g21_9, g21_38, g21_39, g21_40, og21_0, og21_1, og21_2, og21_3]
                  refine ⟨_, [], [0, 1, 2, 484], (Option.some.inj h).symm, by decide, ?_⟩
                  try simp only [go_sem, Int.reduceLT, Int.reduceLE, Int.reduceBEq, Int.reduceBNe, Nat.reduceBNe, Nat.reduceAdd, Nat.reduceMul, Nat.reduceEqDiff, Nat.reduceLeDiff, Nat.reduceLT, Nat.reduceBEq, reduceCtorEq, reduceIte, p2.1, p2.2, c7, c16, hx18, lt_t hx18, lt_p hx18, nat_in (lt_n hx18) hlhx18, p22.1, p22.2, e23, c24, p25, e26, c27, c29, p30, g21_1, g21_3, g21_4, g21_5, g21_7, g21_8, g21_9, g21_38, g21_39, g21_40, og21_0, og21_1, og21_2, og21_3, IV, sts_cons, sts_nil, obs_cons, obs_nil]
                · try simp only [go_sem, Int.reduceLT, Int.reduceLE, Int.reduceBEq, Int.reduceBNe, Nat.reduceBNe, Nat.reduceAdd, Nat.reduceMul, Nat.reduceEqDiff, Nat.reduceLeDiff, Nat.reduceLT, Nat.reduceBEq, reduceCtorEq, reduceIte, p2.1, p2.2, c7, c16, hx18, lt_t hx18, lt_p hx18, nat_in (lt_n hx18) hlhx18, p22.1, p22.2, e23, c24, p25, e26, c27, c29, g21_1, g21_3, g21_4, g21_5, g21_7, g21_8, g21_9, g21_38, g21_39, g21_40, og21_0, og21_1, og21_2, og21_3]
                  refine ⟨_, [], [0, 1, 2, 3], (Option.some.inj h).symm, by decide, ?_⟩
                  try simp only [go_sem, Int.reduceLT, Int.reduceLE, Int.reduceBEq, Int.reduceBNe, Nat.reduceBNe, Nat.reduceAdd, Nat.reduceMul, Nat.reduceEqDiff, Nat.reduceLeDiff, Nat.reduceLT, Nat.reduceBEq, reduceCtorEq, reduceIte, p2.1, p2.2, c7, c16, hx18, lt_t hx18, lt_p hx18, nat_in (lt_n hx18) hlhx18, p22.1, p22.2, e23, c24, p25, e26, c27, c29, g21_1, g21_3, g21_4, g21_5, g21_7, g21_8, g21_9, g21_38, g21_39, g21_40, og21_0, og21_1, og21_2, og21_3, IV, sts_cons, sts_nil, obs_cons, obs_nil]
              · try simp only [go_sem, Int.reduceLT, Int.reduceLE, Int.reduceBEq, Int.reduceBNe, Nat.reduceBNe, Nat.reduceAdd, Nat.reduceMul, Nat.reduceEqDiff, Nat.reduceLeDiff, Nat.reduceLT, Nat.reduceBEq, reduceCtorEq, reduceIte, p2.1, p2.2, c7, c16, hx18, lt_t hx18, lt_p hx18, nat_in (lt_n hx18) hlhx18, p22.1, p22.2, e23, c24, p25, e26, c27, g21_1, g21_3, g21_4, g21_5, g21_7, g21_8, g21_9, g21_38, g21_39, g21_40, og21_0, og21_1, og21_2, og21_3]
                refine ⟨_, [], [0, 1, 2, 3], (Option.some.inj h).symm, by decide, ?_⟩
                try simp only [go_sem, Int.reduceLT, Int.reduceLE, Int.reduceBEq, Int.reduceBNe, Nat.reduceBNe, Nat.reduceAdd, Nat.reduceMul, Nat.reduceEqDiff, Nat.reduceLeDiff, Nat.reduceLT, Nat.reduceBEq, reduceCtorEq, reduceIte, p2.1, p2.2, c7, c16, hx18, lt_t hx18, lt_p hx18, nat_in (lt_n hx18) hlhx18, p22.1, p22.2, e23, c24, p25, e26, c27, g21_1, g21_3, g21_4, g21_5, g21_7, g21_8, g21_9, g21_38, g21_39, g21_40, og21_0, og21_1, og21_2, og21_3, IV, sts_cons, sts_nil, obs_cons, obs_nil]
            · try simp only [go_sem, Int.reduceLT, Int.reduceLE, Int.reduceBEq, Int.reduceBNe, Nat.reduceBNe, Nat.reduceAdd, Nat.reduceMul, Nat.reduceEqDiff, Nat.reduceLeDiff, Nat.reduceLT, Nat.reduceBEq, reduceCtorEq, reduceIte, p2.1, p2.2, c7, c16, hx18, lt_t hx18, lt_p hx18, nat_in (lt_n hx18) hlhx18, p22.1, p22.2, e23, c24, g21_1, g21_3, g21_4, g21_5, g21_7, g21_8, g21_9, g21_38, g21_39, g21_40, og21_0, og21_1, og21_2, og21_3]
              refine ⟨_, [], [0, 1, 2, 3], (Option.some.inj h).symm, by decide, ?_⟩
              try simp only [go_sem, Int.reduceLT, Int.reduceLE, Int.reduceBEq, Int.reduceBNe, Nat.reduceBNe, Nat.reduceAdd, Nat.reduceMul, Nat.reduceEqDiff, Nat.reduceLeDiff, Nat.reduceLT, Nat.reduceBEq, reduceCtorEq, reduceIte, p2.1, p2.2, c7, c16, hx18, lt_t hx18, lt_p hx18, nat_in (lt_n hx18) hlhx18, p22.1, p22.2, e23, c24, g21_1, g21_3, g21_4, g21_5, g21_7, g21_8, g21_9, g21_38, g21_39, g21_40, og21_0, og21_1, og21_2, og21_3, IV, sts_cons, sts_nil, obs_cons, obs_nil]
          · rintro row_94 ⟨sl, ob, n⟩ hI31 hW32 h
            simp only [IV, sts_cons, sts_nil, obs_cons, obs_nil, and_true, true_and, Nat.reduceAdd, str_len] at hI31
            obtain ⟨⟨g33_1, g33_3, g33_4, g33_5, g33_7, g33_8, g33_9, g33_38, g33_39, g33_40⟩, og33_0, og33_1, og33_2, og33_3, hn⟩ := hI31
            subst hn
            try simp only [go_sem, Int.reduceLT, Int.reduceLE, Int.reduceBEq, Int.reduceBNe, Nat.reduceBNe, Nat.reduceAdd, Nat.reduceMul, Nat.reduceEqDiff, Nat.reduceLeDiff, Nat.reduceLT, Nat.reduceBEq, reduceCtorEq, reduceIte, p2.1, p2.2, c7, c16, lt_f (append_0.reasons.length), g33_1, g33_3, g33_4, g33_5, g33_7, g33_8, g33_9, g33_38, g33_39, g33_40, og33_0, og33_1, og33_2, og33_3]
            refine ite_K h (fun c34 h => ?_) (fun c34 h => ?_)
            · try simp only [go_sem, Int.reduceLT, Int.reduceLE, Int.reduceBEq, Int.reduceBNe, Nat.reduceBNe, Nat.reduceAdd, Nat.reduceMul, Nat.reduceEqDiff, Nat.reduceLeDiff, Nat.reduceLT, Nat.reduceBEq, reduceCtorEq, reduceIte, p2.1, p2.2, c7, c16, lt_f (append_0.reasons.length), c34, g33_1, g33_3, g33_4, g33_5, g33_7, g33_8, g33_9, g33_38, g33_39, g33_40, og33_0, og33_1, og33_2, og33_3]
              refine ⟨_, [], [0, 1, 2], (Option.some.inj h).symm, by decide, ?_⟩
              try simp only [go_sem, Int.reduceLT, Int.reduceLE, Int.reduceBEq, Int.reduceBNe, Nat.reduceBNe, Nat.reduceAdd, Nat.reduceMul, Nat.reduceEqDiff, Nat.reduceLeDiff, Nat.reduceLT, Nat.reduceBEq, reduceCtorEq, reduceIte, p2.1, p2.2, c7, c16, lt_f (append_0.reasons.length), c34, g33_1, g33_3, g33_4, g33_5, g33_7, g33_8, g33_9, g33_38, g33_39, g33_40, og33_0, og33_1, og33_2, og33_3, IV, sts_cons, sts_nil, obs_cons, obs_nil]
            · try simp only [go_sem, Int.reduceLT, Int.reduceLE, Int.reduceBEq, Int.reduceBNe, Nat.reduceBNe, Nat.reduceAdd, Nat.reduceMul, Nat.reduceEqDiff, Nat.reduceLeDiff, Nat.reduceLT, Nat.reduceBEq, reduceCtorEq, reduceIte, p2.1, p2.2, c7, c16, lt_f (append_0.reasons.length), c34, g33_1, g33_3, g33_4, g33_5, g33_7, g33_8, g33_9, g33_38, g33_39, g33_40, og33_0, og33_1, og33_2, og33_3]
              refine swp_for h (fun i row_116 st => IV [(1, .bp 0 0), (3, .p false [.row 1]), (4, .p false [.row 2]), (5, .p false [.c (.int .i64 u_6)]), (7, .p false [.c (.int .i64 u_85)]), (8, .p false [.c (.int .i64 u_46)]), (76, .p false [.row 3]), (77, .p false [.c (.int .i64 ((row_94.length : Nat) : Int))]), (78, .p false [.c (.int .i64 ((i : Nat) : Int))])] [.box 37 [.c (.int .i64 append_0.nodes), .c (.sl 49 3 (List.map eReason append_0.reasons))], .row 3 1 (List.map eInt v1) 2, .row 3 1 (List.map eInt row_116) 2, .row 3 1 (List.map eInt row_94) 2] st) [] [0, 1, 2, 3] (by decide) ?_ ?_ ?_
              · simp only [go_sem, Int.reduceLT, Int.reduceLE, Int.reduceBEq, Int.reduceBNe, Nat.reduceBNe, Nat.reduceAdd, Nat.reduceMul, Nat.reduceEqDiff, Nat.reduceLeDiff, Nat.reduceLT, Nat.reduceBEq, reduceCtorEq, reduceIte, IV, sts_cons, sts_nil, obs_cons, obs_nil, p2.1, p2.2, c7, c16, lt_f (append_0.reasons.length), c34, g33_1, g33_3, g33_4, g33_5, g33_7, g33_8, g33_9, g33_38, g33_39, g33_40, og33_0, og33_1, og33_2, og33_3]
              · rintro i120 x121 row_116 ⟨sl, ob, n⟩ y35 hx36 hI37 hW38 h hy35
                simp only [IV, sts_cons, sts_nil, obs_cons, obs_nil, and_true, true_and, Nat.reduceAdd, str_len] at hI37
                obtain ⟨⟨g39_1, g39_3, g39_4, g39_5, g39_7, g39_8, g39_76, g39_77, g39_78⟩, og39_0, og39_1, og39_2, og39_3, hn⟩ := hI37
                subst hn
                have hlhx36 := WF.rowL hW38 og39_3
                obtain ⟨p40, h⟩ := chk_K h
                obtain ⟨x122, e41, h⟩ := bind_K h
                try simp only [go_sem, Int.reduceLT, Int.reduceLE, Int.reduceBEq, Int.reduceBNe, Nat.reduceBNe, Nat.reduceAdd, Nat.reduceMul, Nat.reduceEqDiff, Nat.reduceLeDiff, Nat.reduceLT, Nat.reduceBEq, reduceCtorEq, reduceIte, p2.1, p2.2, c7, c16, lt_f (append_0.reasons.length), c34, hx36, lt_t hx36, lt_p hx36, nat_in (lt_n hx36) hlhx36, p40.1, p40.2, e41, g39_1, g39_3, g39_4, g39_5, g39_7, g39_8, g39_76, g39_77, g39_78, og39_0, og39_1, og39_2, og39_3]
                refine ⟨_, [], [0, 1, 2, 3], (Option.some.inj h).symm, by decide, ?_⟩
                try simp only [go_sem, Int.reduceLT, Int.reduceLE, Int.reduceBEq, Int.reduceBNe, Nat.reduceBNe, Nat.reduceAdd, Nat.reduceMul, Nat.reduceEqDiff, Nat.reduceLeDiff, Nat.reduceLT, Nat.reduceBEq, reduceCtorEq, reduceIte, p2.1, p2.2, c7, c16, lt_f (append_0.reasons.length), c34, hx36, lt_t hx36, lt_p hx36, nat_in (lt_n hx36) hlhx36, p40.1, p40.2, e41, g39_1, g39_3, g39_4, g39_5, g39_7, g39_8, g39_76, g39_77, g39_78, og39_0, og39_1, og39_2, og39_3, IV, sts_cons, sts_nil, obs_cons, obs_nil]
              · rintro row_116 ⟨sl, ob, n⟩ hI42 hW43 h
                simp only [IV, sts_cons, sts_nil, obs_cons, obs_nil, and_true, true_and, Nat.reduceAdd, str_len] at hI42
                obtain ⟨⟨g44_1, g44_3, g44_4, g44_5, g44_7, g44_8, g44_76, g44_77, g44_78⟩, og44_0, og44_1, og44_2, og44_3, hn⟩ := hI42
                subst hn
                try simp only [go_sem, Int.reduceLT, Int.reduceLE, Int.reduceBEq, Int.reduceBNe, Nat.reduceBNe, Nat.reduceAdd, Nat.reduceMul, Nat.reduceEqDiff, Nat.reduceLeDiff, Nat.reduceLT, Nat.reduceBEq, reduceCtorEq, reduceIte, p2.1, p2.2, c7, c16, lt_f (append_0.reasons.length), c34, lt_f (row_94.length), g44_1, g44_3, g44_4, g44_5, g44_7, g44_8, g44_76, g44_77, g44_78, og44_0, og44_1, og44_2, og44_3]
                refine ⟨_, [], [0, 1, 2], (Option.some.inj h).symm, by decide, ?_⟩
                try simp only [go_sem, Int.reduceLT, Int.reduceLE, Int.reduceBEq, Int.reduceBNe, Nat.reduceBNe, Nat.reduceAdd, Nat.reduceMul, Nat.reduceEqDiff, Nat.reduceLeDiff, Nat.reduceLT, Nat.reduceBEq, reduceCtorEq, reduceIte, p2.1, p2.2, c7, c16, lt_f (append_0.reasons.length), c34, lt_f (row_94.length), g44_1, g44_3, g44_4, g44_5, g44_7, g44_8, g44_76, g44_77, g44_78, og44_0, og44_1, og44_2, og44_3, IV, sts_cons, sts_nil, obs_cons, obs_nil]
        · replace h := inr_K h hy12
          replace h := inr_K h hy3
          obtain rfl := Option.some.inj h
          try simp only [go_sem, Int.reduceLT, Int.reduceLE, Int.reduceBEq, Int.reduceBNe, Nat.reduceBNe, Nat.reduceAdd, Nat.reduceMul, Nat.reduceEqDiff, Nat.reduceLeDiff, Nat.reduceLT, Nat.reduceBEq, reduceCtorEq, reduceIte, p2.1, p2.2, c7, c16, g15_1, g15_3, g15_4, g15_5, g15_7, g15_8, og15_0, og15_1, og15_2]
theorem s_l11List_ok {l_0 : (List Int)} {n_1 : Int} {r : Bool} (h : s_l11List l_0 n_1 = some r) : Sound Try.prog J0 88 [(false, [.sl 3 1 (List.map eInt l_0)]), (false, [.int .i64 n_1])] [(false, [(false, .bool r)])] := by
  refine fnk Try.func88 (by kernel_rfl) rfl (by kernel_rfl) (by kernel_rfl) ?_
  unfold s_l11List at h
  simp only [fnS, f88, argSt, go_sem, Int.reduceLT, Int.reduceLE, Int.reduceBEq, Int.reduceBNe, Nat.reduceBNe, Nat.reduceAdd, Nat.reduceMul, Nat.reduceEqDiff, Nat.reduceLeDiff, Nat.reduceLT, Nat.reduceBEq, reduceCtorEq, reduceIte]
  refine swp_for h (fun i _ st => IV [(0, .p false [.c (.sl 3 1 (List.map eInt l_0))]), (1, .p false [.c (.int .i64 n_1)]), (5, .p false [.c (.int .i64 ((i : Nat) : Int))])] [] st) [] [] (by decide) ?_ ?_ ?_
  · simp only [go_sem, Int.reduceLT, Int.reduceLE, Int.reduceBEq, Int.reduceBNe, Nat.reduceBNe, Nat.reduceAdd, Nat.reduceMul, Nat.reduceEqDiff, Nat.reduceLeDiff, Nat.reduceLT, Nat.reduceBEq, reduceCtorEq, reduceIte, IV, sts_cons, sts_nil, obs_cons, obs_nil]
  · rintro i7 x8 ⟨⟩ ⟨sl, ob, n⟩ y1 hx2 hI3 hW4 h hy1
    simp only [IV, sts_cons, sts_nil, obs_cons, obs_nil, and_true, true_and, Nat.reduceAdd, str_len] at hI3
    obtain ⟨⟨g5_0, g5_1, g5_5⟩, hn⟩ := hI3
    subst hn
    have hlhx2 := WF.slotL hW4 g5_0 (j := 0) rfl
    try simp only [go_sem, Int.reduceLT, Int.reduceLE, Int.reduceBEq, Int.reduceBNe, Nat.reduceBNe, Nat.reduceAdd, Nat.reduceMul, Nat.reduceEqDiff, Nat.reduceLeDiff, Nat.reduceLT, Nat.reduceBEq, reduceCtorEq, reduceIte, hx2, lt_t hx2, lt_p hx2, nat_in (lt_n hx2) hlhx2, g5_0, g5_1, g5_5]
    obtain ⟨v9, e6, h⟩ := bind_K h
    refine call_K (by first | exact s_l1In_ok e6 | simpa only [go_sem, Int.reduceLT, Int.reduceLE, Int.reduceBEq, Int.reduceBNe, Nat.reduceBNe, Nat.reduceAdd, Nat.reduceMul, Nat.reduceEqDiff, Nat.reduceLeDiff, Nat.reduceLT, Nat.reduceBEq, reduceCtorEq, reduceIte, hx2, lt_t hx2, lt_p hx2, nat_in (lt_n hx2) hlhx2, g5_0, g5_1, g5_5] using s_l1In_ok e6) ?_
    try simp only [go_sem, Int.reduceLT, Int.reduceLE, Int.reduceBEq, Int.reduceBNe, Nat.reduceBNe, Nat.reduceAdd, Nat.reduceMul, Nat.reduceEqDiff, Nat.reduceLeDiff, Nat.reduceLT, Nat.reduceBEq, reduceCtorEq, reduceIte, hx2, lt_t hx2, lt_p hx2, nat_in (lt_n hx2) hlhx2, g5_0, g5_1, g5_5]
    refine ite_K h (fun c7 h => ?_) (fun c7 h => ?_)
    · try simp only [go_sem, Int.reduceLT, Int.reduceLE, Int.reduceBEq, Int.reduceBNe, Nat.reduceBNe, Nat.reduceAdd, Nat.reduceMul, Nat.reduceEqDiff, Nat.reduceLeDiff, Nat.reduceLT, Nat.reduceBEq, reduceCtorEq, reduceIte, hx2, lt_t hx2, lt_p hx2, nat_in (lt_n hx2) hlhx2, c7, g5_0, g5_1, g5_5]
      refine ite_K h (fun c8 h => ?_) (fun c8 h => ?_)
      · obtain ⟨x10, a9, a10, e11, h⟩ := at_K h
        try simp only [go_sem, Int.reduceLT, Int.reduceLE, Int.reduceBEq, Int.reduceBNe, Nat.reduceBNe, Nat.reduceAdd, Nat.reduceMul, Nat.reduceEqDiff, Nat.reduceLeDiff, Nat.reduceLT, Nat.reduceBEq, reduceCtorEq, reduceIte, hx2, lt_t hx2, lt_p hx2, nat_in (lt_n hx2) hlhx2, c7, c8, a9, a10, e11, g5_0, g5_1, g5_5]
        refine ite_K h (fun c12 h => ?_) (fun c12 h => ?_)
        · replace h := inr_K h hy1
          obtain rfl := Option.some.inj h
          try simp only [go_sem, Int.reduceLT, Int.reduceLE, Int.reduceBEq, Int.reduceBNe, Nat.reduceBNe, Nat.reduceAdd, Nat.reduceMul, Nat.reduceEqDiff, Nat.reduceLeDiff, Nat.reduceLT, Nat.reduceBEq, reduceCtorEq, reduceIte, hx2, lt_t hx2, lt_p hx2, nat_in (lt_n hx2) hlhx2, c7, c8, a9, a10, e11, c12, g5_0, g5_1, g5_5]
        · try simp only [go_sem, Int.reduceLT, Int.reduceLE, Int.reduceBEq, Int.reduceBNe, Nat.reduceBNe, Nat.reduceAdd, Nat.reduceMul, Nat.reduceEqDiff, Nat.reduceLeDiff, Nat.reduceLT, Nat.reduceBEq, reduceCtorEq, reduceIte, hx2, lt_t hx2, lt_p hx2, nat_in (lt_n hx2) hlhx2, c7, c8, a9, a10, e11, c12, g5_0, g5_1, g5_5]
          refine ⟨_, [], [], (Option.some.inj h).symm, by decide, ?_⟩
          try simp only [go_sem, Int.reduceLT, Int.reduceLE, Int.reduceBEq, Int.reduceBNe, Nat.reduceBNe, Nat.reduceAdd, Nat.reduceMul, Nat.reduceEqDiff, Nat.reduceLeDiff, Nat.reduceLT, Nat.reduceBEq, reduceCtorEq, reduceIte, hx2, lt_t hx2, lt_p hx2, nat_in (lt_n hx2) hlhx2, c7, c8, a9, a10, e11, c12, g5_0, g5_1, g5_5, IV, sts_cons, sts_nil, obs_cons, obs_nil]
      · try simp only [go_sem, Int.reduceLT, Int.reduceLE, Int.reduceBEq, Int.reduceBNe, Nat.reduceBNe, Nat.reduceAdd, Nat.reduceMul, Nat.reduceEqDiff, Nat.reduceLeDiff, Nat.reduceLT, Nat.reduceBEq, reduceCtorEq, reduceIte, hx2, lt_t hx2, lt_p hx2, nat_in (lt_n hx2) hlhx2, c7, c8, g5_0, g5_1, g5_5]
        refine ⟨_, [], [], (Option.some.inj h).symm, by decide, ?_⟩
        try simp only [go_sem, Int.reduceLT, Int.reduceLE, Int.reduceBEq, Int.reduceBNe, Nat.reduceBNe, Nat.reduceAdd, Nat.reduceMul, Nat.reduceEqDiff, Nat.reduceLeDiff, Nat.reduceLT, Nat.reduceBEq, reduceCtorEq, reduceIte, hx2, lt_t hx2, lt_p hx2, nat_in (lt_n hx2) hlhx2, c7, c8, g5_0, g5_1, g5_5, IV, sts_cons, sts_nil, obs_cons, obs_nil]
    · replace h := inr_K h hy1
      obtain rfl := Option.some.inj h
      try simp only [go_sem, Int.reduceLT, Int.reduceLE, Int.reduceBEq, Int.reduceBNe, Nat.reduceBNe, Nat.reduceAdd, Nat.reduceMul, Nat.reduceEqDiff, Nat.reduceLeDiff, Nat.reduceLT, Nat.reduceBEq, reduceCtorEq, reduceIte, hx2, lt_t hx2, lt_p hx2, nat_in (lt_n hx2) hlhx2, c7, g5_0, g5_1, g5_5]
  · rintro ⟨⟩ ⟨sl, ob, n⟩ hI13 hW14 h
    simp only [IV, sts_cons, sts_nil, obs_cons, obs_nil, and_true, true_and, Nat.reduceAdd, str_len] at hI13
    obtain ⟨⟨g15_0, g15_1, g15_5⟩, hn⟩ := hI13
    subst hn
    obtain rfl := Option.some.inj h
    try simp only [go_sem, Int.reduceLT, Int.reduceLE, Int.reduceBEq, Int.reduceBNe, Nat.reduceBNe, Nat.reduceAdd, Nat.reduceMul, Nat.reduceEqDiff, Nat.reduceLeDiff, Nat.reduceLT, Nat.reduceBEq, reduceCtorEq, reduceIte, lt_f (l_0.length), g15_0, g15_1, g15_5]
end Go.Proofs.Ytfbonanbiblkbaa

namespace Go.Proofs.Ytfbonanbiblkbaa
open Go.Proofs.Try
set_option linter.unusedSimpArgs false
set_option linter.unusedVariables false
set_option maxRecDepth 1000000
set_option maxHeartbeats 4000000
theorem i_IsFrame_ok {f_0 : FrameD} {r : Bool} (h : i_IsFrame f_0 = some r) : Sound Try.prog J0 26 [(true, eFrame f_0)] [(false, [(false, .bool r)])] := by
  refine fnk Try.func26 (by kernel_rfl) rfl (by kernel_rfl) (by kernel_rfl) ?_
  unfold i_IsFrame at h
  simp only [fnS, f26, argSt, go_sem, Int.reduceLT, Int.reduceLE, Int.reduceBEq, Int.reduceBNe, Nat.reduceBNe, Nat.reduceAdd, Nat.reduceMul, Nat.reduceEqDiff, Nat.reduceLeDiff, Nat.reduceLT, Nat.reduceBEq, reduceCtorEq, reduceIte]
  obtain ⟨v1, e1, h⟩ := bind_K h
  refine call_K (by first | exact i_IsBeliefs_ok e1 | simpa only [go_sem, Int.reduceLT, Int.reduceLE, Int.reduceBEq, Int.reduceBNe, Nat.reduceBNe, Nat.reduceAdd, Nat.reduceMul, Nat.reduceEqDiff, Nat.reduceLeDiff, Nat.reduceLT, Nat.reduceBEq, reduceCtorEq, reduceIte] using i_IsBeliefs_ok e1) ?_
  try simp only [go_sem, Int.reduceLT, Int.reduceLE, Int.reduceBEq, Int.reduceBNe, Nat.reduceBNe, Nat.reduceAdd, Nat.reduceMul, Nat.reduceEqDiff, Nat.reduceLeDiff, Nat.reduceLT, Nat.reduceBEq, reduceCtorEq, reduceIte]
  refine ite_K h (fun c2 h => ?_) (fun c2 h => ?_)
  · try simp only [go_sem, Int.reduceLT, Int.reduceLE, Int.reduceBEq, Int.reduceBNe, Nat.reduceBNe, Nat.reduceAdd, Nat.reduceMul, Nat.reduceEqDiff, Nat.reduceLeDiff, Nat.reduceLT, Nat.reduceBEq, reduceCtorEq, reduceIte, c2]
    refine ite_K h (fun c3 h => ?_) (fun c3 h => ?_)
    · obtain rfl := Option.some.inj h
      try simp only [go_sem, Int.reduceLT, Int.reduceLE, Int.reduceBEq, Int.reduceBNe, Nat.reduceBNe, Nat.reduceAdd, Nat.reduceMul, Nat.reduceEqDiff, Nat.reduceLeDiff, Nat.reduceLT, Nat.reduceBEq, reduceCtorEq, reduceIte, c2, c3]
    · try simp only [go_sem, Int.reduceLT, Int.reduceLE, Int.reduceBEq, Int.reduceBNe, Nat.reduceBNe, Nat.reduceAdd, Nat.reduceMul, Nat.reduceEqDiff, Nat.reduceLeDiff, Nat.reduceLT, Nat.reduceBEq, reduceCtorEq, reduceIte, c2, c3]
      obtain ⟨v2, e4, h⟩ := bind_K h
      refine call_K (by first | exact i_ascendingNodes_ok e4 | simpa only [go_sem, Int.reduceLT, Int.reduceLE, Int.reduceBEq, Int.reduceBNe, Nat.reduceBNe, Nat.reduceAdd, Nat.reduceMul, Nat.reduceEqDiff, Nat.reduceLeDiff, Nat.reduceLT, Nat.reduceBEq, reduceCtorEq, reduceIte, c2, c3] using i_ascendingNodes_ok e4) ?_
      try simp only [go_sem, Int.reduceLT, Int.reduceLE, Int.reduceBEq, Int.reduceBNe, Nat.reduceBNe, Nat.reduceAdd, Nat.reduceMul, Nat.reduceEqDiff, Nat.reduceLeDiff, Nat.reduceLT, Nat.reduceBEq, reduceCtorEq, reduceIte, c2, c3]
      refine ite_K h (fun c5 h => ?_) (fun c5 h => ?_)
      · try simp only [go_sem, Int.reduceLT, Int.reduceLE, Int.reduceBEq, Int.reduceBNe, Nat.reduceBNe, Nat.reduceAdd, Nat.reduceMul, Nat.reduceEqDiff, Nat.reduceLeDiff, Nat.reduceLT, Nat.reduceBEq, reduceCtorEq, reduceIte, c2, c3, c5]
        obtain ⟨v3, e6, h⟩ := bind_K h
        refine call_K (by first | exact i_ascendingNodes_ok e6 | simpa only [go_sem, Int.reduceLT, Int.reduceLE, Int.reduceBEq, Int.reduceBNe, Nat.reduceBNe, Nat.reduceAdd, Nat.reduceMul, Nat.reduceEqDiff, Nat.reduceLeDiff, Nat.reduceLT, Nat.reduceBEq, reduceCtorEq, reduceIte, c2, c3, c5] using i_ascendingNodes_ok e6) ?_
        try simp only [go_sem, Int.reduceLT, Int.reduceLE, Int.reduceBEq, Int.reduceBNe, Nat.reduceBNe, Nat.reduceAdd, Nat.reduceMul, Nat.reduceEqDiff, Nat.reduceLeDiff, Nat.reduceLT, Nat.reduceBEq, reduceCtorEq, reduceIte, c2, c3, c5]
        refine ite_K h (fun c7 h => ?_) (fun c7 h => ?_)
        · try simp only [go_sem, Int.reduceLT, Int.reduceLE, Int.reduceBEq, Int.reduceBNe, Nat.reduceBNe, Nat.reduceAdd, Nat.reduceMul, Nat.reduceEqDiff, Nat.reduceLeDiff, Nat.reduceLT, Nat.reduceBEq, reduceCtorEq, reduceIte, c2, c3, c5, c7]
          refine swp_for h (fun i _ st => IV [(35, .p false [.c (.sl 49 3 (List.map eReason f_0.beliefs.reasons))]), (36, .p false [.c (.int .i64 ((f_0.beliefs.reasons.length : Nat) : Int))]), (37, .p false [.c (.int .i64 ((i : Nat) : Int))])] [] st) [] [] (by decide) ?_ ?_ ?_
          · simp only [go_sem, Int.reduceLT, Int.reduceLE, Int.reduceBEq, Int.reduceBNe, Nat.reduceBNe, Nat.reduceAdd, Nat.reduceMul, Nat.reduceEqDiff, Nat.reduceLeDiff, Nat.reduceLT, Nat.reduceBEq, reduceCtorEq, reduceIte, IV, sts_cons, sts_nil, obs_cons, obs_nil, c2, c3, c5, c7]
          · rintro i7 x8 ⟨⟩ ⟨sl, ob, n⟩ y8 hx9 hI10 hW11 h hy8
            simp only [IV, sts_cons, sts_nil, obs_cons, obs_nil, and_true, true_and, Nat.reduceAdd, str_len] at hI10
            obtain ⟨⟨g12_35, g12_36, g12_37⟩, hn⟩ := hI10
            subst hn
            have hlhx9 := WF.slotL hW11 g12_35 (j := 0) rfl
            try simp only [go_sem, Int.reduceLT, Int.reduceLE, Int.reduceBEq, Int.reduceBNe, Nat.reduceBNe, Nat.reduceAdd, Nat.reduceMul, Nat.reduceEqDiff, Nat.reduceLeDiff, Nat.reduceLT, Nat.reduceBEq, reduceCtorEq, reduceIte, c2, c3, c5, c7, hx9, lt_t hx9, lt_p hx9, nat_in (lt_n hx9) hlhx9, g12_35, g12_36, g12_37]
            refine ite_K h (fun c13 h => ?_) (fun c13 h => ?_)
            · replace h := inr_K h hy8
              obtain rfl := Option.some.inj h
              try simp only [go_sem, Int.reduceLT, Int.reduceLE, Int.reduceBEq, Int.reduceBNe, Nat.reduceBNe, Nat.reduceAdd, Nat.reduceMul, Nat.reduceEqDiff, Nat.reduceLeDiff, Nat.reduceLT, Nat.reduceBEq, reduceCtorEq, reduceIte, c2, c3, c5, c7, hx9, lt_t hx9, lt_p hx9, nat_in (lt_n hx9) hlhx9, c13, g12_35, g12_36, g12_37]
            · try simp only [go_sem, Int.reduceLT, Int.reduceLE, Int.reduceBEq, Int.reduceBNe, Nat.reduceBNe, Nat.reduceAdd, Nat.reduceMul, Nat.reduceEqDiff, Nat.reduceLeDiff, Nat.reduceLT, Nat.reduceBEq, reduceCtorEq, reduceIte, c2, c3, c5, c7, hx9, lt_t hx9, lt_p hx9, nat_in (lt_n hx9) hlhx9, c13, g12_35, g12_36, g12_37]
              refine ⟨_, [], [], (Option.some.inj h).symm, by decide, ?_⟩
              try simp only [go_sem, Int.reduceLT, Int.reduceLE, Int.reduceBEq, Int.reduceBNe, Nat.reduceBNe, Nat.reduceAdd, Nat.reduceMul, Nat.reduceEqDiff, Nat.reduceLeDiff, Nat.reduceLT, Nat.reduceBEq, reduceCtorEq, reduceIte, c2, c3, c5, c7, hx9, lt_t hx9, lt_p hx9, nat_in (lt_n hx9) hlhx9, c13, g12_35, g12_36, g12_37, IV, sts_cons, sts_nil, obs_cons, obs_nil]
          · rintro ⟨⟩ ⟨sl, ob, n⟩ hI14 hW15 h
            simp only [IV, sts_cons, sts_nil, obs_cons, obs_nil, and_true, true_and, Nat.reduceAdd, str_len] at hI14
            obtain ⟨⟨g16_35, g16_36, g16_37⟩, hn⟩ := hI14
            subst hn
            obtain rfl := Option.some.inj h
            try simp only [go_sem, Int.reduceLT, Int.reduceLE, Int.reduceBEq, Int.reduceBNe, Nat.reduceBNe, Nat.reduceAdd, Nat.reduceMul, Nat.reduceEqDiff, Nat.reduceLeDiff, Nat.reduceLT, Nat.reduceBEq, reduceCtorEq, reduceIte, c2, c3, c5, c7, lt_f (f_0.beliefs.reasons.length), g16_35, g16_36, g16_37]
        · obtain rfl := Option.some.inj h
          try simp only [go_sem, Int.reduceLT, Int.reduceLE, Int.reduceBEq, Int.reduceBNe, Nat.reduceBNe, Nat.reduceAdd, Nat.reduceMul, Nat.reduceEqDiff, Nat.reduceLeDiff, Nat.reduceLT, Nat.reduceBEq, reduceCtorEq, reduceIte, c2, c3, c5, c7]
      · obtain rfl := Option.some.inj h
        try simp only [go_sem, Int.reduceLT, Int.reduceLE, Int.reduceBEq, Int.reduceBNe, Nat.reduceBNe, Nat.reduceAdd, Nat.reduceMul, Nat.reduceEqDiff, Nat.reduceLeDiff, Nat.reduceLT, Nat.reduceBEq, reduceCtorEq, reduceIte, c2, c3, c5]
  · obtain rfl := Option.some.inj h
    try simp only [go_sem, Int.reduceLT, Int.reduceLE, Int.reduceBEq, Int.reduceBNe, Nat.reduceBNe, Nat.reduceAdd, Nat.reduceMul, Nat.reduceEqDiff, Nat.reduceLeDiff, Nat.reduceLT, Nat.reduceBEq, reduceCtorEq, reduceIte, c2]
theorem i_copyBeliefs_ok {b_0 : BeliefsD} {r : BeliefsD} (h : i_copyBeliefs b_0 = some r) : Sound Try.prog J0 57 [(true, eBeliefs b_0)] [(true, [(false, .int .i64 r.nodes), (false, .sl 49 3 (List.map eReason r.reasons))])] := by
  refine fnk Try.func57 (by kernel_rfl) rfl (by kernel_rfl) (by kernel_rfl) ?_
  unfold i_copyBeliefs at h
  simp only [fnS, f57, argSt, go_sem, Int.reduceLT, Int.reduceLE, Int.reduceBEq, Int.reduceBNe, Nat.reduceBNe, Nat.reduceAdd, Nat.reduceMul, Nat.reduceEqDiff, Nat.reduceLeDiff, Nat.reduceLT, Nat.reduceBEq, reduceCtorEq, reduceIte]
  refine swp_for h (fun i row_5 st => IV [(2, .bp 0 0), (3, .bp 1 0), (10, .p false [.c (.sl 49 3 (List.map eReason b_0.reasons))]), (11, .p false [.c (.int .i64 ((b_0.reasons.length : Nat) : Int))]), (12, .p false [.c (.int .i64 ((i : Nat) : Int))])] [.box 37 [.c (.int .i64 0), .nil 49 3], .box 37 [.c (.int .i64 b_0.nodes), .row 2], .row 49 3 (List.map eReason row_5) 2] st) [(true, 80, 1)] [16, 80, 176] (by decide) ?_ ?_ ?_
  · simp only [go_sem, Int.reduceLT, Int.reduceLE, Int.reduceBEq, Int.reduceBNe, Nat.reduceBNe, Nat.reduceAdd, Nat.reduceMul, Nat.reduceEqDiff, Nat.reduceLeDiff, Nat.reduceLT, Nat.reduceBEq, reduceCtorEq, reduceIte, IV, sts_cons, sts_nil, obs_cons, obs_nil]
  · rintro i9 x10 row_5 ⟨sl, ob, n⟩ y1 hx2 hI3 hW4 h hy1
    simp only [IV, sts_cons, sts_nil, obs_cons, obs_nil, and_true, true_and, Nat.reduceAdd, str_len] at hI3
    obtain ⟨⟨g5_2, g5_3, g5_10, g5_11, g5_12⟩, og5_0, og5_1, og5_2, hn⟩ := hI3
    subst hn
    have hlhx2 := WF.slotL hW4 g5_10 (j := 0) rfl
    try simp only [go_sem, Int.reduceLT, Int.reduceLE, Int.reduceBEq, Int.reduceBNe, Nat.reduceBNe, Nat.reduceAdd, Nat.reduceMul, Nat.reduceEqDiff, Nat.reduceLeDiff, Nat.reduceLT, Nat.reduceBEq, reduceCtorEq, reduceIte, hx2, lt_t hx2, lt_p hx2, nat_in (lt_n hx2) hlhx2, g5_2, g5_3, g5_10, g5_11, g5_12, og5_0, og5_1, og5_2]
    obtain ⟨v11, e6, h⟩ := bind_K h
    refine call_K (by first | exact i_copyReason_ok e6 | simpa only [go_sem, Int.reduceLT, Int.reduceLE, Int.reduceBEq, Int.reduceBNe, Nat.reduceBNe, Nat.reduceAdd, Nat.reduceMul, Nat.reduceEqDiff, Nat.reduceLeDiff, Nat.reduceLT, Nat.reduceBEq, reduceCtorEq, reduceIte, hx2, lt_t hx2, lt_p hx2, nat_in (lt_n hx2) hlhx2, g5_2, g5_3, g5_10, g5_11, g5_12, og5_0, og5_1, og5_2] using i_copyReason_ok e6) ?_
    obtain ⟨p7, h⟩ := chk_K h
    try simp only [Nat.reduceLeDiff] at p7
    try simp only [go_sem, Int.reduceLT, Int.reduceLE, Int.reduceBEq, Int.reduceBNe, Nat.reduceBNe, Nat.reduceAdd, Nat.reduceMul, Nat.reduceEqDiff, Nat.reduceLeDiff, Nat.reduceLT, Nat.reduceBEq, reduceCtorEq, reduceIte, hx2, lt_t hx2, lt_p hx2, nat_in (lt_n hx2) hlhx2, p7, g5_2, g5_3, g5_10, g5_11, g5_12, og5_0, og5_1, og5_2]
    refine ⟨_, [], [0, 1, 163], (Option.some.inj h).symm, by decide, ?_⟩
    try simp only [go_sem, Int.reduceLT, Int.reduceLE, Int.reduceBEq, Int.reduceBNe, Nat.reduceBNe, Nat.reduceAdd, Nat.reduceMul, Nat.reduceEqDiff, Nat.reduceLeDiff, Nat.reduceLT, Nat.reduceBEq, reduceCtorEq, reduceIte, hx2, lt_t hx2, lt_p hx2, nat_in (lt_n hx2) hlhx2, p7, g5_2, g5_3, g5_10, g5_11, g5_12, og5_0, og5_1, og5_2, IV, sts_cons, sts_nil, obs_cons, obs_nil]
  · rintro row_5 ⟨sl, ob, n⟩ hI8 hW9 h
    simp only [IV, sts_cons, sts_nil, obs_cons, obs_nil, and_true, true_and, Nat.reduceAdd, str_len] at hI8
    obtain ⟨⟨g10_2, g10_3, g10_10, g10_11, g10_12⟩, og10_0, og10_1, og10_2, hn⟩ := hI8
    subst hn
    obtain rfl := Option.some.inj h
    try simp only [go_sem, Int.reduceLT, Int.reduceLE, Int.reduceBEq, Int.reduceBNe, Nat.reduceBNe, Nat.reduceAdd, Nat.reduceMul, Nat.reduceEqDiff, Nat.reduceLeDiff, Nat.reduceLT, Nat.reduceBEq, reduceCtorEq, reduceIte, lt_f (b_0.reasons.length), g10_2, g10_3, g10_10, g10_11, g10_12, og10_0, og10_1, og10_2]
theorem i_labels_ok {b_0 : BeliefsD} {r : (List Bool)} (h : i_labels b_0 = some r) : Sound Try.prog J0 65 [(true, eBeliefs b_0)] [(false, [(false, .sl 4 1 (List.map eBool r))])] := by
  refine fnk Try.func65 (by kernel_rfl) rfl (by kernel_rfl) (by kernel_rfl) ?_
  unfold i_labels at h
  simp only [fnS, f65, argSt, go_sem, Int.reduceLT, Int.reduceLE, Int.reduceBEq, Int.reduceBNe, Nat.reduceBNe, Nat.reduceAdd, Nat.reduceMul, Nat.reduceEqDiff, Nat.reduceLeDiff, Nat.reduceLT, Nat.reduceBEq, reduceCtorEq, reduceIte]
  obtain ⟨v1, e1, h⟩ := bind_K h
  refine call_K (by first | exact i_rounds_ok e1 | simpa only [go_sem, Int.reduceLT, Int.reduceLE, Int.reduceBEq, Int.reduceBNe, Nat.reduceBNe, Nat.reduceAdd, Nat.reduceMul, Nat.reduceEqDiff, Nat.reduceLeDiff, Nat.reduceLT, Nat.reduceBEq, reduceCtorEq, reduceIte] using i_rounds_ok e1) ?_
  try simp only [go_sem, Int.reduceLT, Int.reduceLE, Int.reduceBEq, Int.reduceBNe, Nat.reduceBNe, Nat.reduceAdd, Nat.reduceMul, Nat.reduceEqDiff, Nat.reduceLeDiff, Nat.reduceLT, Nat.reduceBEq, reduceCtorEq, reduceIte]
  refine swp_for h (fun i row_4 st => IV [(3, .p false [.row 0]), (7, .p false [.row 1]), (8, .p false [.c (.int .i64 ((v1.length : Nat) : Int))]), (9, .p false [.c (.int .i64 ((i : Nat) : Int))])] [.row 4 1 (List.map eBool row_4) 2, .row 3 1 (List.map eInt v1) 2] st) [(false, 3, 0)] [112, 64] (by decide) ?_ ?_ ?_
  · simp only [go_sem, Int.reduceLT, Int.reduceLE, Int.reduceBEq, Int.reduceBNe, Nat.reduceBNe, Nat.reduceAdd, Nat.reduceMul, Nat.reduceEqDiff, Nat.reduceLeDiff, Nat.reduceLT, Nat.reduceBEq, reduceCtorEq, reduceIte, IV, sts_cons, sts_nil, obs_cons, obs_nil]
  · rintro i7 x8 row_4 ⟨sl, ob, n⟩ y2 hx3 hI4 hW5 h hy2
    simp only [IV, sts_cons, sts_nil, obs_cons, obs_nil, and_true, true_and, Nat.reduceAdd, str_len] at hI4
    obtain ⟨⟨g6_3, g6_7, g6_8, g6_9⟩, og6_0, og6_1, hn⟩ := hI4
    subst hn
    have hlhx3 := WF.rowL hW5 og6_1
    obtain ⟨p7, h⟩ := chk_K h
    try simp only [Nat.reduceLeDiff] at p7
    try simp only [go_sem, Int.reduceLT, Int.reduceLE, Int.reduceBEq, Int.reduceBNe, Nat.reduceBNe, Nat.reduceAdd, Nat.reduceMul, Nat.reduceEqDiff, Nat.reduceLeDiff, Nat.reduceLT, Nat.reduceBEq, reduceCtorEq, reduceIte, hx3, lt_t hx3, lt_p hx3, nat_in (lt_n hx3) hlhx3, p7, g6_3, g6_7, g6_8, g6_9, og6_0, og6_1]
    refine ⟨_, [], [130, 1], (Option.some.inj h).symm, by decide, ?_⟩
    try simp only [go_sem, Int.reduceLT, Int.reduceLE, Int.reduceBEq, Int.reduceBNe, Nat.reduceBNe, Nat.reduceAdd, Nat.reduceMul, Nat.reduceEqDiff, Nat.reduceLeDiff, Nat.reduceLT, Nat.reduceBEq, reduceCtorEq, reduceIte, hx3, lt_t hx3, lt_p hx3, nat_in (lt_n hx3) hlhx3, p7, g6_3, g6_7, g6_8, g6_9, og6_0, og6_1, IV, sts_cons, sts_nil, obs_cons, obs_nil]
  · rintro row_4 ⟨sl, ob, n⟩ hI8 hW9 h
    simp only [IV, sts_cons, sts_nil, obs_cons, obs_nil, and_true, true_and, Nat.reduceAdd, str_len] at hI8
    obtain ⟨⟨g10_3, g10_7, g10_8, g10_9⟩, og10_0, og10_1, hn⟩ := hI8
    subst hn
    obtain rfl := Option.some.inj h
    try simp only [go_sem, Int.reduceLT, Int.reduceLE, Int.reduceBEq, Int.reduceBNe, Nat.reduceBNe, Nat.reduceAdd, Nat.reduceMul, Nat.reduceEqDiff, Nat.reduceLeDiff, Nat.reduceLT, Nat.reduceBEq, reduceCtorEq, reduceIte, lt_f (v1.length), g10_3, g10_7, g10_8, g10_9, og10_0, og10_1]
theorem s_IsBeliefs_ok {b_0 : BeliefsD} {r : Bool} (h : s_IsBeliefs b_0 = some r) : Sound Try.prog J0 87 [(true, eBeliefs b_0)] [(false, [(false, .bool r)])] := by
  refine fnk Try.func87 (by kernel_rfl) rfl (by kernel_rfl) (by kernel_rfl) ?_
  unfold s_IsBeliefs at h
  simp only [fnS, f87, argSt, go_sem, Int.reduceLT, Int.reduceLE, Int.reduceBEq, Int.reduceBNe, Nat.reduceBNe, Nat.reduceAdd, Nat.reduceMul, Nat.reduceEqDiff, Nat.reduceLeDiff, Nat.reduceLT, Nat.reduceBEq, reduceCtorEq, reduceIte]
  refine swp_for h (fun i _ st => IV [(1, .bp 0 0), (3, .p false [.c (.int .i64 ((i : Nat) : Int))])] [.box 37 [.c (.int .i64 b_0.nodes), .c (.sl 49 3 (List.map eReason b_0.reasons))]] st) [] [0] (by decide) ?_ ?_ ?_
  · simp only [go_sem, Int.reduceLT, Int.reduceLE, Int.reduceBEq, Int.reduceBNe, Nat.reduceBNe, Nat.reduceAdd, Nat.reduceMul, Nat.reduceEqDiff, Nat.reduceLeDiff, Nat.reduceLT, Nat.reduceBEq, reduceCtorEq, reduceIte, IV, sts_cons, sts_nil, obs_cons, obs_nil]
  · rintro i11 x12 ⟨⟩ ⟨sl, ob, n⟩ y1 hx2 hI3 hW4 h hy1
    simp only [IV, sts_cons, sts_nil, obs_cons, obs_nil, and_true, true_and, Nat.reduceAdd, str_len] at hI3
    obtain ⟨⟨g5_1, g5_3⟩, og5_0, hn⟩ := hI3
    subst hn
    have hlhx2 := WF.boxL hW4 og5_0 (j := 1) rfl
    try simp only [go_sem, Int.reduceLT, Int.reduceLE, Int.reduceBEq, Int.reduceBNe, Nat.reduceBNe, Nat.reduceAdd, Nat.reduceMul, Nat.reduceEqDiff, Nat.reduceLeDiff, Nat.reduceLT, Nat.reduceBEq, reduceCtorEq, reduceIte, hx2, lt_t hx2, lt_p hx2, nat_in (lt_n hx2) hlhx2, g5_1, g5_3, og5_0]
    obtain ⟨v13, e6, h⟩ := bind_K h
    refine call_K (by first | exact s_l1In_ok e6 | simpa only [go_sem, Int.reduceLT, Int.reduceLE, Int.reduceBEq, Int.reduceBNe, Nat.reduceBNe, Nat.reduceAdd, Nat.reduceMul, Nat.reduceEqDiff, Nat.reduceLeDiff, Nat.reduceLT, Nat.reduceBEq, reduceCtorEq, reduceIte, hx2, lt_t hx2, lt_p hx2, nat_in (lt_n hx2) hlhx2, g5_1, g5_3, og5_0] using s_l1In_ok e6) ?_
    try simp only [go_sem, Int.reduceLT, Int.reduceLE, Int.reduceBEq, Int.reduceBNe, Nat.reduceBNe, Nat.reduceAdd, Nat.reduceMul, Nat.reduceEqDiff, Nat.reduceLeDiff, Nat.reduceLT, Nat.reduceBEq, reduceCtorEq, reduceIte, hx2, lt_t hx2, lt_p hx2, nat_in (lt_n hx2) hlhx2, g5_1, g5_3, og5_0]
    refine ite_K h (fun c7 h => ?_) (fun c7 h => ?_)
    · try simp only [go_sem, Int.reduceLT, Int.reduceLE, Int.reduceBEq, Int.reduceBNe, Nat.reduceBNe, Nat.reduceAdd, Nat.reduceMul, Nat.reduceEqDiff, Nat.reduceLeDiff, Nat.reduceLT, Nat.reduceBEq, reduceCtorEq, reduceIte, hx2, lt_t hx2, lt_p hx2, nat_in (lt_n hx2) hlhx2, c7, g5_1, g5_3, og5_0]
      obtain ⟨v14, e8, h⟩ := bind_K h
      refine call_K (by first | exact s_l11List_ok e8 | simpa only [go_sem, Int.reduceLT, Int.reduceLE, Int.reduceBEq, Int.reduceBNe, Nat.reduceBNe, Nat.reduceAdd, Nat.reduceMul, Nat.reduceEqDiff, Nat.reduceLeDiff, Nat.reduceLT, Nat.reduceBEq, reduceCtorEq, reduceIte, hx2, lt_t hx2, lt_p hx2, nat_in (lt_n hx2) hlhx2, c7, g5_1, g5_3, og5_0] using s_l11List_ok e8) ?_
      try simp only [go_sem, Int.reduceLT, Int.reduceLE, Int.reduceBEq, Int.reduceBNe, Nat.reduceBNe, Nat.reduceAdd, Nat.reduceMul, Nat.reduceEqDiff, Nat.reduceLeDiff, Nat.reduceLT, Nat.reduceBEq, reduceCtorEq, reduceIte, hx2, lt_t hx2, lt_p hx2, nat_in (lt_n hx2) hlhx2, c7, g5_1, g5_3, og5_0]
      refine ite_K h (fun c9 h => ?_) (fun c9 h => ?_)
      · try simp only [go_sem, Int.reduceLT, Int.reduceLE, Int.reduceBEq, Int.reduceBNe, Nat.reduceBNe, Nat.reduceAdd, Nat.reduceMul, Nat.reduceEqDiff, Nat.reduceLeDiff, Nat.reduceLT, Nat.reduceBEq, reduceCtorEq, reduceIte, hx2, lt_t hx2, lt_p hx2, nat_in (lt_n hx2) hlhx2, c7, c9, g5_1, g5_3, og5_0]
        obtain ⟨v15, e10, h⟩ := bind_K h
        refine call_K (by first | exact s_l11List_ok e10 | simpa only [go_sem, Int.reduceLT, Int.reduceLE, Int.reduceBEq, Int.reduceBNe, Nat.reduceBNe, Nat.reduceAdd, Nat.reduceMul, Nat.reduceEqDiff, Nat.reduceLeDiff, Nat.reduceLT, Nat.reduceBEq, reduceCtorEq, reduceIte, hx2, lt_t hx2, lt_p hx2, nat_in (lt_n hx2) hlhx2, c7, c9, g5_1, g5_3, og5_0] using s_l11List_ok e10) ?_
        try simp only [go_sem, Int.reduceLT, Int.reduceLE, Int.reduceBEq, Int.reduceBNe, Nat.reduceBNe, Nat.reduceAdd, Nat.reduceMul, Nat.reduceEqDiff, Nat.reduceLeDiff, Nat.reduceLT, Nat.reduceBEq, reduceCtorEq, reduceIte, hx2, lt_t hx2, lt_p hx2, nat_in (lt_n hx2) hlhx2, c7, c9, g5_1, g5_3, og5_0]
        refine ite_K h (fun c11 h => ?_) (fun c11 h => ?_)
        · try simp only [go_sem, Int.reduceLT, Int.reduceLE, Int.reduceBEq, Int.reduceBNe, Nat.reduceBNe, Nat.reduceAdd, Nat.reduceMul, Nat.reduceEqDiff, Nat.reduceLeDiff, Nat.reduceLT, Nat.reduceBEq, reduceCtorEq, reduceIte, hx2, lt_t hx2, lt_p hx2, nat_in (lt_n hx2) hlhx2, c7, c9, c11, g5_1, g5_3, og5_0]
          refine ⟨_, [], [0], (Option.some.inj h).symm, by decide, ?_⟩
          try simp only [go_sem, Int.reduceLT, Int.reduceLE, Int.reduceBEq, Int.reduceBNe, Nat.reduceBNe, Nat.reduceAdd, Nat.reduceMul, Nat.reduceEqDiff, Nat.reduceLeDiff, Nat.reduceLT, Nat.reduceBEq, reduceCtorEq, reduceIte, hx2, lt_t hx2, lt_p hx2, nat_in (lt_n hx2) hlhx2, c7, c9, c11, g5_1, g5_3, og5_0, IV, sts_cons, sts_nil, obs_cons, obs_nil]
        · replace h := inr_K h hy1
          obtain rfl := Option.some.inj h
          try simp only [go_sem, Int.reduceLT, Int.reduceLE, Int.reduceBEq, Int.reduceBNe, Nat.reduceBNe, Nat.reduceAdd, Nat.reduceMul, Nat.reduceEqDiff, Nat.reduceLeDiff, Nat.reduceLT, Nat.reduceBEq, reduceCtorEq, reduceIte, hx2, lt_t hx2, lt_p hx2, nat_in (lt_n hx2) hlhx2, c7, c9, c11, g5_1, g5_3, og5_0]
      · replace h := inr_K h hy1
        obtain rfl := Option.some.inj h
        try simp only [go_sem, Int.reduceLT, Int.reduceLE, Int.reduceBEq, Int.reduceBNe, Nat.reduceBNe, Nat.reduceAdd, Nat.reduceMul, Nat.reduceEqDiff, Nat.reduceLeDiff, Nat.reduceLT, Nat.reduceBEq, reduceCtorEq, reduceIte, hx2, lt_t hx2, lt_p hx2, nat_in (lt_n hx2) hlhx2, c7, c9, g5_1, g5_3, og5_0]
    · replace h := inr_K h hy1
      obtain rfl := Option.some.inj h
      try simp only [go_sem, Int.reduceLT, Int.reduceLE, Int.reduceBEq, Int.reduceBNe, Nat.reduceBNe, Nat.reduceAdd, Nat.reduceMul, Nat.reduceEqDiff, Nat.reduceLeDiff, Nat.reduceLT, Nat.reduceBEq, reduceCtorEq, reduceIte, hx2, lt_t hx2, lt_p hx2, nat_in (lt_n hx2) hlhx2, c7, g5_1, g5_3, og5_0]
  · rintro ⟨⟩ ⟨sl, ob, n⟩ hI12 hW13 h
    simp only [IV, sts_cons, sts_nil, obs_cons, obs_nil, and_true, true_and, Nat.reduceAdd, str_len] at hI12
    obtain ⟨⟨g14_1, g14_3⟩, og14_0, hn⟩ := hI12
    subst hn
    try simp only [go_sem, Int.reduceLT, Int.reduceLE, Int.reduceBEq, Int.reduceBNe, Nat.reduceBNe, Nat.reduceAdd, Nat.reduceMul, Nat.reduceEqDiff, Nat.reduceLeDiff, Nat.reduceLT, Nat.reduceBEq, reduceCtorEq, reduceIte, lt_f (b_0.reasons.length), g14_1, g14_3, og14_0]
    obtain ⟨v16, e15, h⟩ := bind_K h
    refine call_K (by first | exact s_l1In_ok e15 | simpa only [go_sem, Int.reduceLT, Int.reduceLE, Int.reduceBEq, Int.reduceBNe, Nat.reduceBNe, Nat.reduceAdd, Nat.reduceMul, Nat.reduceEqDiff, Nat.reduceLeDiff, Nat.reduceLT, Nat.reduceBEq, reduceCtorEq, reduceIte, lt_f (b_0.reasons.length), g14_1, g14_3, og14_0] using s_l1In_ok e15) ?_
    try simp only [go_sem, Int.reduceLT, Int.reduceLE, Int.reduceBEq, Int.reduceBNe, Nat.reduceBNe, Nat.reduceAdd, Nat.reduceMul, Nat.reduceEqDiff, Nat.reduceLeDiff, Nat.reduceLT, Nat.reduceBEq, reduceCtorEq, reduceIte, lt_f (b_0.reasons.length), g14_1, g14_3, og14_0]
    refine ite_K h (fun c16 h => ?_) (fun c16 h => ?_)
    · obtain rfl := Option.some.inj h
      try simp only [go_sem, Int.reduceLT, Int.reduceLE, Int.reduceBEq, Int.reduceBNe, Nat.reduceBNe, Nat.reduceAdd, Nat.reduceMul, Nat.reduceEqDiff, Nat.reduceLeDiff, Nat.reduceLT, Nat.reduceBEq, reduceCtorEq, reduceIte, lt_f (b_0.reasons.length), c16, g14_1, g14_3, og14_0]
    · obtain rfl := Option.some.inj h
      try simp only [go_sem, Int.reduceLT, Int.reduceLE, Int.reduceBEq, Int.reduceBNe, Nat.reduceBNe, Nat.reduceAdd, Nat.reduceMul, Nat.reduceEqDiff, Nat.reduceLeDiff, Nat.reduceLT, Nat.reduceBEq, reduceCtorEq, reduceIte, lt_f (b_0.reasons.length), c16, g14_1, g14_3, og14_0]
end Go.Proofs.Ytfbonanbiblkbaa

namespace Go.Proofs.Ytfbonanbiblkbaa
open Go.Proofs.Try
set_option linter.unusedSimpArgs false
set_option linter.unusedVariables false
set_option maxRecDepth 1000000
set_option maxHeartbeats 4000000
theorem s_l11Nodes_ok {c_0 : l1CurD} {n_1 : Int} {most_2 : Int} {r : ((List Int) × l1CurD)} (h : s_l11Nodes c_0 n_1 most_2 = some r) : SoundH Try.prog J0 JF0 72 (.box 75 (el1Cur c_0)) [(false, [.int .i64 n_1]), (false, [.int .i64 most_2])] [(false, [(false, .sl 3 1 (List.map eInt r.1))])] (.box 75 (el1Cur r.2)) := by
  refine fnh Try.func72 (by kernel_rfl) rfl (by kernel_rfl) (by kernel_rfl) ?_
  unfold s_l11Nodes at h
  simp only [fnH, f72, handSt, handSV, handOb, go_sem, Int.reduceLT, Int.reduceLE, Int.reduceBEq, Int.reduceBNe, Nat.reduceBNe, Nat.reduceAdd, Nat.reduceMul, Nat.reduceEqDiff, Nat.reduceLeDiff, Nat.reduceLT, Nat.reduceBEq, reduceCtorEq, reduceIte]
  refine swp_iter h (fun s st => match s with | (f_2, f_3, f_4, row_5, i_6) => IV [(0, .bp 0 0), (1, .p false [.c (.int .i64 n_1)]), (2, .p false [.c (.int .i64 most_2)]), (7, .p false [.row 1]), (8, .p false [.c (.int .i64 i_6)])] [.box 75 [.c (.sl 5 1 (List.map eByte f_2)), .c (.int .i64 f_3), .c (.int .i64 f_4)], .row 3 1 (List.map eInt row_5) 2] st) [] [0, 17] (by decide) ?_ ?_
  · simp only [go_sem, Int.reduceLT, Int.reduceLE, Int.reduceBEq, Int.reduceBNe, Nat.reduceBNe, Nat.reduceAdd, Nat.reduceMul, Nat.reduceEqDiff, Nat.reduceLeDiff, Nat.reduceLT, Nat.reduceBEq, reduceCtorEq, reduceIte, IV, sts_cons, sts_nil, obs_cons, obs_nil]
  · rintro ⟨f_2, f_3, f_4, row_5, i_6⟩ ⟨sl, ob, n⟩ y1 hI2 hW3 h hy1
    simp only [IV, sts_cons, sts_nil, obs_cons, obs_nil, and_true, true_and, Nat.reduceAdd, str_len] at hI2
    obtain ⟨⟨g4_0, g4_1, g4_2, g4_7, g4_8⟩, og4_0, og4_1, hn⟩ := hI2
    subst hn
    try simp only [go_sem, Int.reduceLT, Int.reduceLE, Int.reduceBEq, Int.reduceBNe, Nat.reduceBNe, Nat.reduceAdd, Nat.reduceMul, Nat.reduceEqDiff, Nat.reduceLeDiff, Nat.reduceLT, Nat.reduceBEq, reduceCtorEq, reduceIte, g4_0, g4_1, g4_2, g4_7, g4_8, og4_0, og4_1]
    refine ite_K h (fun c5 h => ?_) (fun c5 h => ?_)
    · try simp only [go_sem, Int.reduceLT, Int.reduceLE, Int.reduceBEq, Int.reduceBNe, Nat.reduceBNe, Nat.reduceAdd, Nat.reduceMul, Nat.reduceEqDiff, Nat.reduceLeDiff, Nat.reduceLT, Nat.reduceBEq, reduceCtorEq, reduceIte, c5, g4_0, g4_1, g4_2, g4_7, g4_8, og4_0, og4_1]
      refine ite_K h (fun c6 h => ?_) (fun c6 h => ?_)
      · try simp only [go_sem, Int.reduceLT, Int.reduceLE, Int.reduceBEq, Int.reduceBNe, Nat.reduceBNe, Nat.reduceAdd, Nat.reduceMul, Nat.reduceEqDiff, Nat.reduceLeDiff, Nat.reduceLT, Nat.reduceBEq, reduceCtorEq, reduceIte, c5, c6, g4_0, g4_1, g4_2, g4_7, g4_8, og4_0, og4_1]
        obtain ⟨v7, e7, h⟩ := bind_K h
        refine hand_K (by first | exact s_l1Once_ok e7 | simpa only [go_sem, Int.reduceLT, Int.reduceLE, Int.reduceBEq, Int.reduceBNe, Nat.reduceBNe, Nat.reduceAdd, Nat.reduceMul, Nat.reduceEqDiff, Nat.reduceLeDiff, Nat.reduceLT, Nat.reduceBEq, reduceCtorEq, reduceIte, c5, c6, g4_0, g4_1, g4_2, g4_7, g4_8, og4_0, og4_1] using s_l1Once_ok e7) ?_
        try simp only [go_sem, Int.reduceLT, Int.reduceLE, Int.reduceBEq, Int.reduceBNe, Nat.reduceBNe, Nat.reduceAdd, Nat.reduceMul, Nat.reduceEqDiff, Nat.reduceLeDiff, Nat.reduceLT, Nat.reduceBEq, reduceCtorEq, reduceIte, c5, c6, g4_0, g4_1, g4_2, g4_7, g4_8, og4_0, og4_1]
        refine ite_K h (fun c8 h => ?_) (fun c8 h => ?_)
        · obtain ⟨p9, h⟩ := chk_K h
          try simp only [Nat.reduceLeDiff] at p9
          try simp only [go_sem, Int.reduceLT, Int.reduceLE, Int.reduceBEq, Int.reduceBNe, Nat.reduceBNe, Nat.reduceAdd, Nat.reduceMul, Nat.reduceEqDiff, Nat.reduceLeDiff, Nat.reduceLT, Nat.reduceBEq, reduceCtorEq, reduceIte, c5, c6, c8, p9, g4_0, g4_1, g4_2, g4_7, g4_8, og4_0, og4_1]
          refine ⟨_, [], [0, 226], (Option.some.inj h).symm, by decide, ?_⟩
          try simp only [go_sem, Int.reduceLT, Int.reduceLE, Int.reduceBEq, Int.reduceBNe, Nat.reduceBNe, Nat.reduceAdd, Nat.reduceMul, Nat.reduceEqDiff, Nat.reduceLeDiff, Nat.reduceLT, Nat.reduceBEq, reduceCtorEq, reduceIte, c5, c6, c8, p9, g4_0, g4_1, g4_2, g4_7, g4_8, og4_0, og4_1, IV, sts_cons, sts_nil, obs_cons, obs_nil]
        · try simp only [go_sem, Int.reduceLT, Int.reduceLE, Int.reduceBEq, Int.reduceBNe, Nat.reduceBNe, Nat.reduceAdd, Nat.reduceMul, Nat.reduceEqDiff, Nat.reduceLeDiff, Nat.reduceLT, Nat.reduceBEq, reduceCtorEq, reduceIte, c5, c6, c8, g4_0, g4_1, g4_2, g4_7, g4_8, og4_0, og4_1]
          refine ⟨_, [], [0, 1], (Option.some.inj h).symm, by decide, ?_⟩
          try simp only [go_sem, Int.reduceLT, Int.reduceLE, Int.reduceBEq, Int.reduceBNe, Nat.reduceBNe, Nat.reduceAdd, Nat.reduceMul, Nat.reduceEqDiff, Nat.reduceLeDiff, Nat.reduceLT, Nat.reduceBEq, reduceCtorEq, reduceIte, c5, c6, c8, g4_0, g4_1, g4_2, g4_7, g4_8, og4_0, og4_1, IV, sts_cons, sts_nil, obs_cons, obs_nil]
      · replace h := inr_K h hy1
        obtain rfl := Option.some.inj h
        try simp only [go_sem, Int.reduceLT, Int.reduceLE, Int.reduceBEq, Int.reduceBNe, Nat.reduceBNe, Nat.reduceAdd, Nat.reduceMul, Nat.reduceEqDiff, Nat.reduceLeDiff, Nat.reduceLT, Nat.reduceBEq, reduceCtorEq, reduceIte, c5, c6, g4_0, g4_1, g4_2, g4_7, g4_8, og4_0, og4_1]
    · replace h := inr_K h hy1
      obtain rfl := Option.some.inj h
      try simp only [go_sem, Int.reduceLT, Int.reduceLE, Int.reduceBEq, Int.reduceBNe, Nat.reduceBNe, Nat.reduceAdd, Nat.reduceMul, Nat.reduceEqDiff, Nat.reduceLeDiff, Nat.reduceLT, Nat.reduceBEq, reduceCtorEq, reduceIte, c5, g4_0, g4_1, g4_2, g4_7, g4_8, og4_0, og4_1]
theorem i_under_ok {f_0 : FrameD} {set_1 : Int} {r : (List Bool)} (h : i_under f_0 set_1 = some r) : Sound Try.prog J0 47 [(true, eFrame f_0), (false, [.int .i64 set_1])] [(false, [(false, .sl 4 1 (List.map eBool r))])] := by
  refine fnk Try.func47 (by kernel_rfl) rfl (by kernel_rfl) (by kernel_rfl) ?_
  unfold i_under at h
  simp only [fnS, f47, argSt, go_sem, Int.reduceLT, Int.reduceLE, Int.reduceBEq, Int.reduceBNe, Nat.reduceBNe, Nat.reduceAdd, Nat.reduceMul, Nat.reduceEqDiff, Nat.reduceLeDiff, Nat.reduceLT, Nat.reduceBEq, reduceCtorEq, reduceIte]
  obtain ⟨v1, e1, h⟩ := bind_K h
  refine call_K (by first | exact i_copyBeliefs_ok e1 | simpa only [go_sem, Int.reduceLT, Int.reduceLE, Int.reduceBEq, Int.reduceBNe, Nat.reduceBNe, Nat.reduceAdd, Nat.reduceMul, Nat.reduceEqDiff, Nat.reduceLeDiff, Nat.reduceLT, Nat.reduceBEq, reduceCtorEq, reduceIte] using i_copyBeliefs_ok e1) ?_
  try simp only [go_sem, Int.reduceLT, Int.reduceLE, Int.reduceBEq, Int.reduceBNe, Nat.reduceBNe, Nat.reduceAdd, Nat.reduceMul, Nat.reduceEqDiff, Nat.reduceLeDiff, Nat.reduceLT, Nat.reduceBEq, reduceCtorEq, reduceIte]
  obtain ⟨v2, e2, h⟩ := bind_K h
  refine call_K (by first | exact i_chosen_ok e2 | simpa only [go_sem, Int.reduceLT, Int.reduceLE, Int.reduceBEq, Int.reduceBNe, Nat.reduceBNe, Nat.reduceAdd, Nat.reduceMul, Nat.reduceEqDiff, Nat.reduceLeDiff, Nat.reduceLT, Nat.reduceBEq, reduceCtorEq, reduceIte] using i_chosen_ok e2) ?_
  try simp only [go_sem, Int.reduceLT, Int.reduceLE, Int.reduceBEq, Int.reduceBNe, Nat.reduceBNe, Nat.reduceAdd, Nat.reduceMul, Nat.reduceEqDiff, Nat.reduceLeDiff, Nat.reduceLT, Nat.reduceBEq, reduceCtorEq, reduceIte]
  refine swp_for h (fun i row_4 st => IV [(5, .bp 0 0), (14, .p false [.row 2]), (15, .p false [.c (.int .i64 ((v2.length : Nat) : Int))]), (16, .p false [.c (.int .i64 ((i : Nat) : Int))])] [.box 37 [.c (.int .i64 v1.nodes), .row 1], .row 49 3 (List.map eReason row_4) 2, .row 3 1 (List.map eInt v2) 2] st) [] [80, 64, 160] (by decide) ?_ ?_ ?_
  · simp only [go_sem, Int.reduceLT, Int.reduceLE, Int.reduceBEq, Int.reduceBNe, Nat.reduceBNe, Nat.reduceAdd, Nat.reduceMul, Nat.reduceEqDiff, Nat.reduceLeDiff, Nat.reduceLT, Nat.reduceBEq, reduceCtorEq, reduceIte, IV, sts_cons, sts_nil, obs_cons, obs_nil]
  · rintro i8 x9 row_4 ⟨sl, ob, n⟩ y3 hx4 hI5 hW6 h hy3
    simp only [IV, sts_cons, sts_nil, obs_cons, obs_nil, and_true, true_and, Nat.reduceAdd, str_len] at hI5
    obtain ⟨⟨g7_5, g7_14, g7_15, g7_16⟩, og7_0, og7_1, og7_2, hn⟩ := hI5
    subst hn
    have hlhx4 := WF.rowL hW6 og7_2
    obtain ⟨p8, h⟩ := chk_K h
    try simp only [Nat.reduceLeDiff] at p8
    try simp only [go_sem, Int.reduceLT, Int.reduceLE, Int.reduceBEq, Int.reduceBNe, Nat.reduceBNe, Nat.reduceAdd, Nat.reduceMul, Nat.reduceEqDiff, Nat.reduceLeDiff, Nat.reduceLT, Nat.reduceBEq, reduceCtorEq, reduceIte, hx4, lt_t hx4, lt_p hx4, nat_in (lt_n hx4) hlhx4, p8, g7_5, g7_14, g7_15, g7_16, og7_0, og7_1, og7_2]
    refine ⟨_, [], [0, 147, 2], (Option.some.inj h).symm, by decide, ?_⟩
    try simp only [go_sem, Int.reduceLT, Int.reduceLE, Int.reduceBEq, Int.reduceBNe, Nat.reduceBNe, Nat.reduceAdd, Nat.reduceMul, Nat.reduceEqDiff, Nat.reduceLeDiff, Nat.reduceLT, Nat.reduceBEq, reduceCtorEq, reduceIte, hx4, lt_t hx4, lt_p hx4, nat_in (lt_n hx4) hlhx4, p8, g7_5, g7_14, g7_15, g7_16, og7_0, og7_1, og7_2, IV, sts_cons, sts_nil, obs_cons, obs_nil]
  · rintro row_4 ⟨sl, ob, n⟩ hI9 hW10 h
    simp only [IV, sts_cons, sts_nil, obs_cons, obs_nil, and_true, true_and, Nat.reduceAdd, str_len] at hI9
    obtain ⟨⟨g11_5, g11_14, g11_15, g11_16⟩, og11_0, og11_1, og11_2, hn⟩ := hI9
    subst hn
    try simp only [go_sem, Int.reduceLT, Int.reduceLE, Int.reduceBEq, Int.reduceBNe, Nat.reduceBNe, Nat.reduceAdd, Nat.reduceMul, Nat.reduceEqDiff, Nat.reduceLeDiff, Nat.reduceLT, Nat.reduceBEq, reduceCtorEq, reduceIte, lt_f (v2.length), g11_5, g11_14, g11_15, g11_16, og11_0, og11_1, og11_2]
    obtain ⟨v10, e12, h⟩ := bind_K h
    refine call_K (by first | exact i_labels_ok e12 | simpa only [go_sem, Int.reduceLT, Int.reduceLE, Int.reduceBEq, Int.reduceBNe, Nat.reduceBNe, Nat.reduceAdd, Nat.reduceMul, Nat.reduceEqDiff, Nat.reduceLeDiff, Nat.reduceLT, Nat.reduceBEq, reduceCtorEq, reduceIte, lt_f (v2.length), g11_5, g11_14, g11_15, g11_16, og11_0, og11_1, og11_2] using i_labels_ok e12) ?_
    obtain rfl := Option.some.inj h
    try simp only [go_sem, Int.reduceLT, Int.reduceLE, Int.reduceBEq, Int.reduceBNe, Nat.reduceBNe, Nat.reduceAdd, Nat.reduceMul, Nat.reduceEqDiff, Nat.reduceLeDiff, Nat.reduceLT, Nat.reduceBEq, reduceCtorEq, reduceIte, lt_f (v2.length), g11_5, g11_14, g11_15, g11_16, og11_0, og11_1, og11_2]
theorem s_IsFrame_ok {f_0 : FrameD} {r : Bool} (h : s_IsFrame f_0 = some r) : Sound Try.prog J0 73 [(true, eFrame f_0)] [(false, [(false, .bool r)])] := by
  refine fnk Try.func73 (by kernel_rfl) rfl (by kernel_rfl) (by kernel_rfl) ?_
  unfold s_IsFrame at h
  simp only [fnS, f73, argSt, go_sem, Int.reduceLT, Int.reduceLE, Int.reduceBEq, Int.reduceBNe, Nat.reduceBNe, Nat.reduceAdd, Nat.reduceMul, Nat.reduceEqDiff, Nat.reduceLeDiff, Nat.reduceLT, Nat.reduceBEq, reduceCtorEq, reduceIte]
  refine swp_for h (fun i _ st => IV [(1, .bp 0 0), (3, .p false [.c (.int .i64 ((i : Nat) : Int))])] [.box 39 [.c (.int .i64 f_0.beliefs.nodes), .c (.sl 49 3 (List.map eReason f_0.beliefs.reasons)), .c (.sl 3 1 (List.map eInt f_0.assumed)), .c (.sl 3 1 (List.map eInt f_0.bad))]] st) [] [0] (by decide) ?_ ?_ ?_
  · simp only [go_sem, Int.reduceLT, Int.reduceLE, Int.reduceBEq, Int.reduceBNe, Nat.reduceBNe, Nat.reduceAdd, Nat.reduceMul, Nat.reduceEqDiff, Nat.reduceLeDiff, Nat.reduceLT, Nat.reduceBEq, reduceCtorEq, reduceIte, IV, sts_cons, sts_nil, obs_cons, obs_nil]
  · rintro i7 x8 ⟨⟩ ⟨sl, ob, n⟩ y1 hx2 hI3 hW4 h hy1
    simp only [IV, sts_cons, sts_nil, obs_cons, obs_nil, and_true, true_and, Nat.reduceAdd, str_len] at hI3
    obtain ⟨⟨g5_1, g5_3⟩, og5_0, hn⟩ := hI3
    subst hn
    have hlhx2 := WF.boxL hW4 og5_0 (j := 1) rfl
    try simp only [go_sem, Int.reduceLT, Int.reduceLE, Int.reduceBEq, Int.reduceBNe, Nat.reduceBNe, Nat.reduceAdd, Nat.reduceMul, Nat.reduceEqDiff, Nat.reduceLeDiff, Nat.reduceLT, Nat.reduceBEq, reduceCtorEq, reduceIte, hx2, lt_t hx2, lt_p hx2, nat_in (lt_n hx2) hlhx2, g5_1, g5_3, og5_0]
    refine ite_K h (fun c6 h => ?_) (fun c6 h => ?_)
    · replace h := inr_K h hy1
      obtain rfl := Option.some.inj h
      try simp only [go_sem, Int.reduceLT, Int.reduceLE, Int.reduceBEq, Int.reduceBNe, Nat.reduceBNe, Nat.reduceAdd, Nat.reduceMul, Nat.reduceEqDiff, Nat.reduceLeDiff, Nat.reduceLT, Nat.reduceBEq, reduceCtorEq, reduceIte, hx2, lt_t hx2, lt_p hx2, nat_in (lt_n hx2) hlhx2, c6, g5_1, g5_3, og5_0]
    · try simp only [go_sem, Int.reduceLT, Int.reduceLE, Int.reduceBEq, Int.reduceBNe, Nat.reduceBNe, Nat.reduceAdd, Nat.reduceMul, Nat.reduceEqDiff, Nat.reduceLeDiff, Nat.reduceLT, Nat.reduceBEq, reduceCtorEq, reduceIte, hx2, lt_t hx2, lt_p hx2, nat_in (lt_n hx2) hlhx2, c6, g5_1, g5_3, og5_0]
      refine ⟨_, [], [0], (Option.some.inj h).symm, by decide, ?_⟩
      try simp only [go_sem, Int.reduceLT, Int.reduceLE, Int.reduceBEq, Int.reduceBNe, Nat.reduceBNe, Nat.reduceAdd, Nat.reduceMul, Nat.reduceEqDiff, Nat.reduceLeDiff, Nat.reduceLT, Nat.reduceBEq, reduceCtorEq, reduceIte, hx2, lt_t hx2, lt_p hx2, nat_in (lt_n hx2) hlhx2, c6, g5_1, g5_3, og5_0, IV, sts_cons, sts_nil, obs_cons, obs_nil]
  · rintro ⟨⟩ ⟨sl, ob, n⟩ hI7 hW8 h
    simp only [IV, sts_cons, sts_nil, obs_cons, obs_nil, and_true, true_and, Nat.reduceAdd, str_len] at hI7
    obtain ⟨⟨g9_1, g9_3⟩, og9_0, hn⟩ := hI7
    subst hn
    try simp only [go_sem, Int.reduceLT, Int.reduceLE, Int.reduceBEq, Int.reduceBNe, Nat.reduceBNe, Nat.reduceAdd, Nat.reduceMul, Nat.reduceEqDiff, Nat.reduceLeDiff, Nat.reduceLT, Nat.reduceBEq, reduceCtorEq, reduceIte, lt_f (f_0.beliefs.reasons.length), g9_1, g9_3, og9_0]
    obtain ⟨v9, e10, h⟩ := bind_K h
    refine call_K (by first | exact s_IsBeliefs_ok e10 | simpa only [go_sem, Int.reduceLT, Int.reduceLE, Int.reduceBEq, Int.reduceBNe, Nat.reduceBNe, Nat.reduceAdd, Nat.reduceMul, Nat.reduceEqDiff, Nat.reduceLeDiff, Nat.reduceLT, Nat.reduceBEq, reduceCtorEq, reduceIte, lt_f (f_0.beliefs.reasons.length), g9_1, g9_3, og9_0] using s_IsBeliefs_ok e10) ?_
    try simp only [go_sem, Int.reduceLT, Int.reduceLE, Int.reduceBEq, Int.reduceBNe, Nat.reduceBNe, Nat.reduceAdd, Nat.reduceMul, Nat.reduceEqDiff, Nat.reduceLeDiff, Nat.reduceLT, Nat.reduceBEq, reduceCtorEq, reduceIte, lt_f (f_0.beliefs.reasons.length), g9_1, g9_3, og9_0]
    refine ite_K h (fun c11 h => ?_) (fun c11 h => ?_)
    · try simp only [go_sem, Int.reduceLT, Int.reduceLE, Int.reduceBEq, Int.reduceBNe, Nat.reduceBNe, Nat.reduceAdd, Nat.reduceMul, Nat.reduceEqDiff, Nat.reduceLeDiff, Nat.reduceLT, Nat.reduceBEq, reduceCtorEq, reduceIte, lt_f (f_0.beliefs.reasons.length), c11, g9_1, g9_3, og9_0]
      obtain ⟨v10, e12, h⟩ := bind_K h
      refine call_K (by first | exact s_l11List_ok e12 | simpa only [go_sem, Int.reduceLT, Int.reduceLE, Int.reduceBEq, Int.reduceBNe, Nat.reduceBNe, Nat.reduceAdd, Nat.reduceMul, Nat.reduceEqDiff, Nat.reduceLeDiff, Nat.reduceLT, Nat.reduceBEq, reduceCtorEq, reduceIte, lt_f (f_0.beliefs.reasons.length), c11, g9_1, g9_3, og9_0] using s_l11List_ok e12) ?_
      try simp only [go_sem, Int.reduceLT, Int.reduceLE, Int.reduceBEq, Int.reduceBNe, Nat.reduceBNe, Nat.reduceAdd, Nat.reduceMul, Nat.reduceEqDiff, Nat.reduceLeDiff, Nat.reduceLT, Nat.reduceBEq, reduceCtorEq, reduceIte, lt_f (f_0.beliefs.reasons.length), c11, g9_1, g9_3, og9_0]
      refine ite_K h (fun c13 h => ?_) (fun c13 h => ?_)
      · try simp only [go_sem, Int.reduceLT, Int.reduceLE, Int.reduceBEq, Int.reduceBNe, Nat.reduceBNe, Nat.reduceAdd, Nat.reduceMul, Nat.reduceEqDiff, Nat.reduceLeDiff, Nat.reduceLT, Nat.reduceBEq, reduceCtorEq, reduceIte, lt_f (f_0.beliefs.reasons.length), c11, c13, g9_1, g9_3, og9_0]
        refine ite_K h (fun c14 h => ?_) (fun c14 h => ?_)
        · try simp only [go_sem, Int.reduceLT, Int.reduceLE, Int.reduceBEq, Int.reduceBNe, Nat.reduceBNe, Nat.reduceAdd, Nat.reduceMul, Nat.reduceEqDiff, Nat.reduceLeDiff, Nat.reduceLT, Nat.reduceBEq, reduceCtorEq, reduceIte, lt_f (f_0.beliefs.reasons.length), c11, c13, c14, g9_1, g9_3, og9_0]
          obtain ⟨v11, e15, h⟩ := bind_K h
          refine call_K (by first | exact s_l11List_ok e15 | simpa only [go_sem, Int.reduceLT, Int.reduceLE, Int.reduceBEq, Int.reduceBNe, Nat.reduceBNe, Nat.reduceAdd, Nat.reduceMul, Nat.reduceEqDiff, Nat.reduceLeDiff, Nat.reduceLT, Nat.reduceBEq, reduceCtorEq, reduceIte, lt_f (f_0.beliefs.reasons.length), c11, c13, c14, g9_1, g9_3, og9_0] using s_l11List_ok e15) ?_
          obtain rfl := Option.some.inj h
          try simp only [go_sem, Int.reduceLT, Int.reduceLE, Int.reduceBEq, Int.reduceBNe, Nat.reduceBNe, Nat.reduceAdd, Nat.reduceMul, Nat.reduceEqDiff, Nat.reduceLeDiff, Nat.reduceLT, Nat.reduceBEq, reduceCtorEq, reduceIte, lt_f (f_0.beliefs.reasons.length), c11, c13, c14, g9_1, g9_3, og9_0]
        · obtain rfl := Option.some.inj h
          try simp only [go_sem, Int.reduceLT, Int.reduceLE, Int.reduceBEq, Int.reduceBNe, Nat.reduceBNe, Nat.reduceAdd, Nat.reduceMul, Nat.reduceEqDiff, Nat.reduceLeDiff, Nat.reduceLT, Nat.reduceBEq, reduceCtorEq, reduceIte, lt_f (f_0.beliefs.reasons.length), c11, c13, c14, g9_1, g9_3, og9_0]
      · obtain rfl := Option.some.inj h
        try simp only [go_sem, Int.reduceLT, Int.reduceLE, Int.reduceBEq, Int.reduceBNe, Nat.reduceBNe, Nat.reduceAdd, Nat.reduceMul, Nat.reduceEqDiff, Nat.reduceLeDiff, Nat.reduceLT, Nat.reduceBEq, reduceCtorEq, reduceIte, lt_f (f_0.beliefs.reasons.length), c11, c13, g9_1, g9_3, og9_0]
    · obtain rfl := Option.some.inj h
      try simp only [go_sem, Int.reduceLT, Int.reduceLE, Int.reduceBEq, Int.reduceBNe, Nat.reduceBNe, Nat.reduceAdd, Nat.reduceMul, Nat.reduceEqDiff, Nat.reduceLeDiff, Nat.reduceLT, Nat.reduceBEq, reduceCtorEq, reduceIte, lt_f (f_0.beliefs.reasons.length), c11, g9_1, g9_3, og9_0]
end Go.Proofs.Ytfbonanbiblkbaa

namespace Go.Proofs.Ytfbonanbiblkbaa
open Go.Proofs.Try
set_option linter.unusedSimpArgs false
set_option linter.unusedVariables false
set_option maxRecDepth 1000000
set_option maxHeartbeats 4000000
theorem s_l11Draw_ok {append_0 : l1CurD} {String_1 : Int} {a_2 : Bool} {r : (BeliefsD × l1CurD)} (h : s_l11Draw append_0 String_1 a_2 = some r) : SoundH Try.prog J0 JF0 71 (.box 75 (el1Cur append_0)) [(false, [.int .i64 String_1]), (false, [.bool a_2])] [(true, [(false, .int .i64 r.1.nodes), (false, .sl 49 3 (List.map eReason r.1.reasons))])] (.box 75 (el1Cur r.2)) := by
  refine fnh Try.func71 (by kernel_rfl) rfl (by kernel_rfl) (by kernel_rfl) ?_
  unfold s_l11Draw at h
  have kz0 : ¬ ((2 : Int) = 0) := by decide
  simp only [fnH, f71, handSt, handSV, handOb, go_sem, Int.reduceLT, Int.reduceLE, Int.reduceBEq, Int.reduceBNe, Nat.reduceBNe, Nat.reduceAdd, Nat.reduceMul, Nat.reduceEqDiff, Nat.reduceLeDiff, Nat.reduceLT, Nat.reduceBEq, reduceCtorEq, reduceIte, kz0]
  obtain ⟨v1, e1, h⟩ := bind_K h
  refine hand_K (by first | exact s_l1Below_ok e1 | simpa only [go_sem, Int.reduceLT, Int.reduceLE, Int.reduceBEq, Int.reduceBNe, Nat.reduceBNe, Nat.reduceAdd, Nat.reduceMul, Nat.reduceEqDiff, Nat.reduceLeDiff, Nat.reduceLT, Nat.reduceBEq, reduceCtorEq, reduceIte, kz0] using s_l1Below_ok e1) ?_
  try simp only [go_sem, Int.reduceLT, Int.reduceLE, Int.reduceBEq, Int.reduceBNe, Nat.reduceBNe, Nat.reduceAdd, Nat.reduceMul, Nat.reduceEqDiff, Nat.reduceLeDiff, Nat.reduceLT, Nat.reduceBEq, reduceCtorEq, reduceIte, kz0]
  obtain ⟨v2, e2, h⟩ := bind_K h
  refine hand_K (by first | exact s_l1Below_ok e2 | simpa only [go_sem, Int.reduceLT, Int.reduceLE, Int.reduceBEq, Int.reduceBNe, Nat.reduceBNe, Nat.reduceAdd, Nat.reduceMul, Nat.reduceEqDiff, Nat.reduceLeDiff, Nat.reduceLT, Nat.reduceBEq, reduceCtorEq, reduceIte, kz0] using s_l1Below_ok e2) ?_
  try simp only [go_sem, Int.reduceLT, Int.reduceLE, Int.reduceBEq, Int.reduceBNe, Nat.reduceBNe, Nat.reduceAdd, Nat.reduceMul, Nat.reduceEqDiff, Nat.reduceLeDiff, Nat.reduceLT, Nat.reduceBEq, reduceCtorEq, reduceIte, kz0]
  refine swp_iter h (fun s st => match s with | (f_29, f_30, f_31, row_32, u_33, u_34) => IV [(0, .bp 0 0), (2, .p false [.c (.bool u_33)]), (6, .bp 1 0), (7, .bp 2 0), (8, .p false [.c (.int .i64 u_34)])] [.box 75 [.c (.sl 5 1 (List.map eByte f_29)), .c (.int .i64 f_30), .c (.int .i64 f_31)], .box 37 [.c (.int .i64 0), .nil 49 3], .box 37 [.c (.int .i64 (IntKind.i64.wrap (1 + v1.1))), .row 3], .row 49 3 (List.map eReason row_32) 2] st) [(true, 97, 1)] [0, 1, 97, 209] (by decide) ?_ ?_
  · simp only [go_sem, Int.reduceLT, Int.reduceLE, Int.reduceBEq, Int.reduceBNe, Nat.reduceBNe, Nat.reduceAdd, Nat.reduceMul, Nat.reduceEqDiff, Nat.reduceLeDiff, Nat.reduceLT, Nat.reduceBEq, reduceCtorEq, reduceIte, IV, sts_cons, sts_nil, obs_cons, obs_nil, kz0]
  · rintro ⟨f_29, f_30, f_31, row_32, u_33, u_34⟩ ⟨sl, ob, n⟩ y3 hI4 hW5 h hy3
    simp only [IV, sts_cons, sts_nil, obs_cons, obs_nil, and_true, true_and, Nat.reduceAdd, str_len] at hI4
    obtain ⟨⟨g6_0, g6_2, g6_6, g6_7, g6_8⟩, og6_0, og6_1, og6_2, og6_3, hn⟩ := hI4
    subst hn
    try simp only [go_sem, Int.reduceLT, Int.reduceLE, Int.reduceBEq, Int.reduceBNe, Nat.reduceBNe, Nat.reduceAdd, Nat.reduceMul, Nat.reduceEqDiff, Nat.reduceLeDiff, Nat.reduceLT, Nat.reduceBEq, reduceCtorEq, reduceIte, kz0, g6_0, g6_2, g6_6, g6_7, g6_8, og6_0, og6_1, og6_2, og6_3]
    refine ite_K h (fun c7 h => ?_) (fun c7 h => ?_)
    · try simp only [go_sem, Int.reduceLT, Int.reduceLE, Int.reduceBEq, Int.reduceBNe, Nat.reduceBNe, Nat.reduceAdd, Nat.reduceMul, Nat.reduceEqDiff, Nat.reduceLeDiff, Nat.reduceLT, Nat.reduceBEq, reduceCtorEq, reduceIte, kz0, c7, g6_0, g6_2, g6_6, g6_7, g6_8, og6_0, og6_1, og6_2, og6_3]
      obtain ⟨v35, e8, h⟩ := bind_K h
      refine hand_K (by first | exact s_l1Below_ok e8 | simpa only [go_sem, Int.reduceLT, Int.reduceLE, Int.reduceBEq, Int.reduceBNe, Nat.reduceBNe, Nat.reduceAdd, Nat.reduceMul, Nat.reduceEqDiff, Nat.reduceLeDiff, Nat.reduceLT, Nat.reduceBEq, reduceCtorEq, reduceIte, kz0, c7, g6_0, g6_2, g6_6, g6_7, g6_8, og6_0, og6_1, og6_2, og6_3] using s_l1Below_ok e8) ?_
      try simp only [go_sem, Int.reduceLT, Int.reduceLE, Int.reduceBEq, Int.reduceBNe, Nat.reduceBNe, Nat.reduceAdd, Nat.reduceMul, Nat.reduceEqDiff, Nat.reduceLeDiff, Nat.reduceLT, Nat.reduceBEq, reduceCtorEq, reduceIte, kz0, c7, g6_0, g6_2, g6_6, g6_7, g6_8, og6_0, og6_1, og6_2, og6_3]
      obtain ⟨v36, e9, h⟩ := bind_K h
      refine hand_K (by first | exact s_l1Once_ok e9 | simpa only [go_sem, Int.reduceLT, Int.reduceLE, Int.reduceBEq, Int.reduceBNe, Nat.reduceBNe, Nat.reduceAdd, Nat.reduceMul, Nat.reduceEqDiff, Nat.reduceLeDiff, Nat.reduceLT, Nat.reduceBEq, reduceCtorEq, reduceIte, kz0, c7, g6_0, g6_2, g6_6, g6_7, g6_8, og6_0, og6_1, og6_2, og6_3] using s_l1Once_ok e9) ?_
      try simp only [go_sem, Int.reduceLT, Int.reduceLE, Int.reduceBEq, Int.reduceBNe, Nat.reduceBNe, Nat.reduceAdd, Nat.reduceMul, Nat.reduceEqDiff, Nat.reduceLeDiff, Nat.reduceLT, Nat.reduceBEq, reduceCtorEq, reduceIte, kz0, c7, g6_0, g6_2, g6_6, g6_7, g6_8, og6_0, og6_1, og6_2, og6_3]
      refine ite_K h (fun c10 h => ?_) (fun c10 h => ?_)
      · try simp only [go_sem, Int.reduceLT, Int.reduceLE, Int.reduceBEq, Int.reduceBNe, Nat.reduceBNe, Nat.reduceAdd, Nat.reduceMul, Nat.reduceEqDiff, Nat.reduceLeDiff, Nat.reduceLT, Nat.reduceBEq, reduceCtorEq, reduceIte, kz0, c7, c10, g6_0, g6_2, g6_6, g6_7, g6_8, og6_0, og6_1, og6_2, og6_3]
        refine ite_K h (fun c11 h => ?_) (fun c11 h => ?_)
        · try simp only [go_sem, Int.reduceLT, Int.reduceLE, Int.reduceBEq, Int.reduceBNe, Nat.reduceBNe, Nat.reduceAdd, Nat.reduceMul, Nat.reduceEqDiff, Nat.reduceLeDiff, Nat.reduceLT, Nat.reduceBEq, reduceCtorEq, reduceIte, kz0, c7, c10, c11, g6_0, g6_2, g6_6, g6_7, g6_8, og6_0, og6_1, og6_2, og6_3]
          obtain ⟨v37, e12, h⟩ := bind_K h
          refine hand_K (by first | exact s_l1Once_ok e12 | simpa only [go_sem, Int.reduceLT, Int.reduceLE, Int.reduceBEq, Int.reduceBNe, Nat.reduceBNe, Nat.reduceAdd, Nat.reduceMul, Nat.reduceEqDiff, Nat.reduceLeDiff, Nat.reduceLT, Nat.reduceBEq, reduceCtorEq, reduceIte, kz0, c7, c10, c11, g6_0, g6_2, g6_6, g6_7, g6_8, og6_0, og6_1, og6_2, og6_3] using s_l1Once_ok e12) ?_
          try simp only [go_sem, Int.reduceLT, Int.reduceLE, Int.reduceBEq, Int.reduceBNe, Nat.reduceBNe, Nat.reduceAdd, Nat.reduceMul, Nat.reduceEqDiff, Nat.reduceLeDiff, Nat.reduceLT, Nat.reduceBEq, reduceCtorEq, reduceIte, kz0, c7, c10, c11, g6_0, g6_2, g6_6, g6_7, g6_8, og6_0, og6_1, og6_2, og6_3]
          refine ite_K h (fun c13 h => ?_) (fun c13 h => ?_)
          · try simp only [go_sem, Int.reduceLT, Int.reduceLE, Int.reduceBEq, Int.reduceBNe, Nat.reduceBNe, Nat.reduceAdd, Nat.reduceMul, Nat.reduceEqDiff, Nat.reduceLeDiff, Nat.reduceLT, Nat.reduceBEq, reduceCtorEq, reduceIte, kz0, c7, c10, c11, c13, g6_0, g6_2, g6_6, g6_7, g6_8, og6_0, og6_1, og6_2, og6_3]
            obtain ⟨v38, e14, h⟩ := bind_K h
            refine hand_K (by first | exact s_l11Nodes_ok e14 | simpa only [go_sem, Int.reduceLT, Int.reduceLE, Int.reduceBEq, Int.reduceBNe, Nat.reduceBNe, Nat.reduceAdd, Nat.reduceMul, Nat.reduceEqDiff, Nat.reduceLeDiff, Nat.reduceLT, Nat.reduceBEq, reduceCtorEq, reduceIte, kz0, c7, c10, c11, c13, g6_0, g6_2, g6_6, g6_7, g6_8, og6_0, og6_1, og6_2, og6_3] using s_l11Nodes_ok e14) ?_
            try simp only [go_sem, Int.reduceLT, Int.reduceLE, Int.reduceBEq, Int.reduceBNe, Nat.reduceBNe, Nat.reduceAdd, Nat.reduceMul, Nat.reduceEqDiff, Nat.reduceLeDiff, Nat.reduceLT, Nat.reduceBEq, reduceCtorEq, reduceIte, kz0, c7, c10, c11, c13, g6_0, g6_2, g6_6, g6_7, g6_8, og6_0, og6_1, og6_2, og6_3]
            obtain ⟨v39, e15, h⟩ := bind_K h
            refine hand_K (by first | exact s_l1Once_ok e15 | simpa only [go_sem, Int.reduceLT, Int.reduceLE, Int.reduceBEq, Int.reduceBNe, Nat.reduceBNe, Nat.reduceAdd, Nat.reduceMul, Nat.reduceEqDiff, Nat.reduceLeDiff, Nat.reduceLT, Nat.reduceBEq, reduceCtorEq, reduceIte, kz0, c7, c10, c11, c13, g6_0, g6_2, g6_6, g6_7, g6_8, og6_0, og6_1, og6_2, og6_3] using s_l1Once_ok e15) ?_
            try simp only [go_sem, Int.reduceLT, Int.reduceLE, Int.reduceBEq, Int.reduceBNe, Nat.reduceBNe, Nat.reduceAdd, Nat.reduceMul, Nat.reduceEqDiff, Nat.reduceLeDiff, Nat.reduceLT, Nat.reduceBEq, reduceCtorEq, reduceIte, kz0, c7, c10, c11, c13, g6_0, g6_2, g6_6, g6_7, g6_8, og6_0, og6_1, og6_2, og6_3]
            refine ite_K h (fun c16 h => ?_) (fun c16 h => ?_)
            · try simp only [go_sem, Int.reduceLT, Int.reduceLE, Int.reduceBEq, Int.reduceBNe, Nat.reduceBNe, Nat.reduceAdd, Nat.reduceMul, Nat.reduceEqDiff, Nat.reduceLeDiff, Nat.reduceLT, Nat.reduceBEq, reduceCtorEq, reduceIte, kz0, c7, c10, c11, c13, c16, g6_0, g6_2, g6_6, g6_7, g6_8, og6_0, og6_1, og6_2, og6_3]
              refine ite_K h (fun c17 h => ?_) (fun c17 h => ?_)
              · try simp only [go_sem, Int.reduceLT, Int.reduceLE, Int.reduceBEq, Int.reduceBNe, Nat.reduceBNe, Nat.reduceAdd, Nat.reduceMul, Nat.reduceEqDiff, Nat.reduceLeDiff, Nat.reduceLT, Nat.reduceBEq, reduceCtorEq, reduceIte, kz0, c7, c10, c11, c13, c16, c17, g6_0, g6_2, g6_6, g6_7, g6_8, og6_0, og6_1, og6_2, og6_3]
                obtain ⟨v40, e18, h⟩ := bind_K h
                refine hand_K (by first | exact s_l1Below_ok e18 | simpa only [go_sem, Int.reduceLT, Int.reduceLE, Int.reduceBEq, Int.reduceBNe, Nat.reduceBNe, Nat.reduceAdd, Nat.reduceMul, Nat.reduceEqDiff, Nat.reduceLeDiff, Nat.reduceLT, Nat.reduceBEq, reduceCtorEq, reduceIte, kz0, c7, c10, c11, c13, c16, c17, g6_0, g6_2, g6_6, g6_7, g6_8, og6_0, og6_1, og6_2, og6_3] using s_l1Below_ok e18) ?_
                obtain ⟨p19, h⟩ := chk_K h
                try simp only [Nat.reduceLeDiff] at p19
                try simp only [go_sem, Int.reduceLT, Int.reduceLE, Int.reduceBEq, Int.reduceBNe, Nat.reduceBNe, Nat.reduceAdd, Nat.reduceMul, Nat.reduceEqDiff, Nat.reduceLeDiff, Nat.reduceLT, Nat.reduceBEq, reduceCtorEq, reduceIte, kz0, c7, c10, c11, c13, c16, c17, p19, g6_0, g6_2, g6_6, g6_7, g6_8, og6_0, og6_1, og6_2, og6_3]
                refine ⟨_, [], [0, 1, 2, 836], (Option.some.inj h).symm, by decide, ?_⟩
                try simp only [go_sem, Int.reduceLT, Int.reduceLE, Int.reduceBEq, Int.reduceBNe, Nat.reduceBNe, Nat.reduceAdd, Nat.reduceMul, Nat.reduceEqDiff, Nat.reduceLeDiff, Nat.reduceLT, Nat.reduceBEq, reduceCtorEq, reduceIte, kz0, c7, c10, c11, c13, c16, c17, p19, g6_0, g6_2, g6_6, g6_7, g6_8, og6_0, og6_1, og6_2, og6_3, IV, sts_cons, sts_nil, obs_cons, obs_nil]
              · obtain ⟨p20, h⟩ := chk_K h
                try simp only [Nat.reduceLeDiff] at p20
                try simp only [go_sem, Int.reduceLT, Int.reduceLE, Int.reduceBEq, Int.reduceBNe, Nat.reduceBNe, Nat.reduceAdd, Nat.reduceMul, Nat.reduceEqDiff, Nat.reduceLeDiff, Nat.reduceLT, Nat.reduceBEq, reduceCtorEq, reduceIte, kz0, c7, c10, c11, c13, c16, c17, p20, g6_0, g6_2, g6_6, g6_7, g6_8, og6_0, og6_1, og6_2, og6_3]
                refine ⟨_, [], [0, 1, 2, 612], (Option.some.inj h).symm, by decide, ?_⟩
                try simp only [go_sem, Int.reduceLT, Int.reduceLE, Int.reduceBEq, Int.reduceBNe, Nat.reduceBNe, Nat.reduceAdd, Nat.reduceMul, Nat.reduceEqDiff, Nat.reduceLeDiff, Nat.reduceLT, Nat.reduceBEq, reduceCtorEq, reduceIte, kz0, c7, c10, c11, c13, c16, c17, p20, g6_0, g6_2, g6_6, g6_7, g6_8, og6_0, og6_1, og6_2, og6_3, IV, sts_cons, sts_nil, obs_cons, obs_nil]
            · obtain ⟨p21, h⟩ := chk_K h
              try simp only [Nat.reduceLeDiff] at p21
              try simp only [go_sem, Int.reduceLT, Int.reduceLE, Int.reduceBEq, Int.reduceBNe, Nat.reduceBNe, Nat.reduceAdd, Nat.reduceMul, Nat.reduceEqDiff, Nat.reduceLeDiff, Nat.reduceLT, Nat.reduceBEq, reduceCtorEq, reduceIte, kz0, c7, c10, c11, c13, c16, p21, g6_0, g6_2, g6_6, g6_7, g6_8, og6_0, og6_1, og6_2, og6_3]
              refine ⟨_, [], [0, 1, 2, 612], (Option.some.inj h).symm, by decide, ?_⟩
              try simp only [go_sem, Int.reduceLT, Int.reduceLE, Int.reduceBEq, Int.reduceBNe, Nat.reduceBNe, Nat.reduceAdd, Nat.reduceMul, Nat.reduceEqDiff, Nat.reduceLeDiff, Nat.reduceLT, Nat.reduceBEq, reduceCtorEq, reduceIte, kz0, c7, c10, c11, c13, c16, p21, g6_0, g6_2, g6_6, g6_7, g6_8, og6_0, og6_1, og6_2, og6_3, IV, sts_cons, sts_nil, obs_cons, obs_nil]
          · try simp only [go_sem, Int.reduceLT, Int.reduceLE, Int.reduceBEq, Int.reduceBNe, Nat.reduceBNe, Nat.reduceAdd, Nat.reduceMul, Nat.reduceEqDiff, Nat.reduceLeDiff, Nat.reduceLT, Nat.reduceBEq, reduceCtorEq, reduceIte, kz0, c7, c10, c11, c13, g6_0, g6_2, g6_6, g6_7, g6_8, og6_0, og6_1, og6_2, og6_3]
            obtain ⟨v41, e22, h⟩ := bind_K h
            refine hand_K (by first | exact s_l1Once_ok e22 | simpa only [go_sem, Int.reduceLT, Int.reduceLE, Int.reduceBEq, Int.reduceBNe, Nat.reduceBNe, Nat.reduceAdd, Nat.reduceMul, Nat.reduceEqDiff, Nat.reduceLeDiff, Nat.reduceLT, Nat.reduceBEq, reduceCtorEq, reduceIte, kz0, c7, c10, c11, c13, g6_0, g6_2, g6_6, g6_7, g6_8, og6_0, og6_1, og6_2, og6_3] using s_l1Once_ok e22) ?_
            try simp only [go_sem, Int.reduceLT, Int.reduceLE, Int.reduceBEq, Int.reduceBNe, Nat.reduceBNe, Nat.reduceAdd, Nat.reduceMul, Nat.reduceEqDiff, Nat.reduceLeDiff, Nat.reduceLT, Nat.reduceBEq, reduceCtorEq, reduceIte, kz0, c7, c10, c11, c13, g6_0, g6_2, g6_6, g6_7, g6_8, og6_0, og6_1, og6_2, og6_3]
            refine ite_K h (fun c23 h => ?_) (fun c23 h => ?_)
            · obtain ⟨p24, h⟩ := chk_K h
              try simp only [Nat.reduceLeDiff] at p24
              try simp only [go_sem, Int.reduceLT, Int.reduceLE, Int.reduceBEq, Int.reduceBNe, Nat.reduceBNe, Nat.reduceAdd, Nat.reduceMul, Nat.reduceEqDiff, Nat.reduceLeDiff, Nat.reduceLT, Nat.reduceBEq, reduceCtorEq, reduceIte, kz0, c7, c10, c11, c13, c23, p24, g6_0, g6_2, g6_6, g6_7, g6_8, og6_0, og6_1, og6_2, og6_3]
              refine ⟨_, [], [0, 1, 2, 516], (Option.some.inj h).symm, by decide, ?_⟩
              try simp only [go_sem, Int.reduceLT, Int.reduceLE, Int.reduceBEq, Int.reduceBNe, Nat.reduceBNe, Nat.reduceAdd, Nat.reduceMul, Nat.reduceEqDiff, Nat.reduceLeDiff, Nat.reduceLT, Nat.reduceBEq, reduceCtorEq, reduceIte, kz0, c7, c10, c11, c13, c23, p24, g6_0, g6_2, g6_6, g6_7, g6_8, og6_0, og6_1, og6_2, og6_3, IV, sts_cons, sts_nil, obs_cons, obs_nil]
            · obtain ⟨p25, h⟩ := chk_K h
              try simp only [Nat.reduceLeDiff] at p25
              try simp only [go_sem, Int.reduceLT, Int.reduceLE, Int.reduceBEq, Int.reduceBNe, Nat.reduceBNe, Nat.reduceAdd, Nat.reduceMul, Nat.reduceEqDiff, Nat.reduceLeDiff, Nat.reduceLT, Nat.reduceBEq, reduceCtorEq, reduceIte, kz0, c7, c10, c11, c13, c23, p25, g6_0, g6_2, g6_6, g6_7, g6_8, og6_0, og6_1, og6_2, og6_3]
              refine ⟨_, [], [0, 1, 2, 516], (Option.some.inj h).symm, by decide, ?_⟩
              try simp only [go_sem, Int.reduceLT, Int.reduceLE, Int.reduceBEq, Int.reduceBNe, Nat.reduceBNe, Nat.reduceAdd, Nat.reduceMul, Nat.reduceEqDiff, Nat.reduceLeDiff, Nat.reduceLT, Nat.reduceBEq, reduceCtorEq, reduceIte, kz0, c7, c10, c11, c13, c23, p25, g6_0, g6_2, g6_6, g6_7, g6_8, og6_0, og6_1, og6_2, og6_3, IV, sts_cons, sts_nil, obs_cons, obs_nil]
        · obtain ⟨p26, h⟩ := chk_K h
          try simp only [Nat.reduceLeDiff] at p26
          try simp only [go_sem, Int.reduceLT, Int.reduceLE, Int.reduceBEq, Int.reduceBNe, Nat.reduceBNe, Nat.reduceAdd, Nat.reduceMul, Nat.reduceEqDiff, Nat.reduceLeDiff, Nat.reduceLT, Nat.reduceBEq, reduceCtorEq, reduceIte, kz0, c7, c10, c11, p26, g6_0, g6_2, g6_6, g6_7, g6_8, og6_0, og6_1, og6_2, og6_3]
          refine ⟨_, [], [0, 1, 2, 516], (Option.some.inj h).symm, by decide, ?_⟩
          try simp only [go_sem, Int.reduceLT, Int.reduceLE, Int.reduceBEq, Int.reduceBNe, Nat.reduceBNe, Nat.reduceAdd, Nat.reduceMul, Nat.reduceEqDiff, Nat.reduceLeDiff, Nat.reduceLT, Nat.reduceBEq, reduceCtorEq, reduceIte, kz0, c7, c10, c11, p26, g6_0, g6_2, g6_6, g6_7, g6_8, og6_0, og6_1, og6_2, og6_3, IV, sts_cons, sts_nil, obs_cons, obs_nil]
      · try simp only [go_sem, Int.reduceLT, Int.reduceLE, Int.reduceBEq, Int.reduceBNe, Nat.reduceBNe, Nat.reduceAdd, Nat.reduceMul, Nat.reduceEqDiff, Nat.reduceLeDiff, Nat.reduceLT, Nat.reduceBEq, reduceCtorEq, reduceIte, kz0, c7, c10, g6_0, g6_2, g6_6, g6_7, g6_8, og6_0, og6_1, og6_2, og6_3]
        obtain ⟨v42, e27, h⟩ := bind_K h
        refine hand_K (by first | exact s_l11Nodes_ok e27 | simpa only [go_sem, Int.reduceLT, Int.reduceLE, Int.reduceBEq, Int.reduceBNe, Nat.reduceBNe, Nat.reduceAdd, Nat.reduceMul, Nat.reduceEqDiff, Nat.reduceLeDiff, Nat.reduceLT, Nat.reduceBEq, reduceCtorEq, reduceIte, kz0, c7, c10, g6_0, g6_2, g6_6, g6_7, g6_8, og6_0, og6_1, og6_2, og6_3] using s_l11Nodes_ok e27) ?_
        try simp only [go_sem, Int.reduceLT, Int.reduceLE, Int.reduceBEq, Int.reduceBNe, Nat.reduceBNe, Nat.reduceAdd, Nat.reduceMul, Nat.reduceEqDiff, Nat.reduceLeDiff, Nat.reduceLT, Nat.reduceBEq, reduceCtorEq, reduceIte, kz0, c7, c10, g6_0, g6_2, g6_6, g6_7, g6_8, og6_0, og6_1, og6_2, og6_3]
        refine ite_K h (fun c28 h => ?_) (fun c28 h => ?_)
        · try simp only [go_sem, Int.reduceLT, Int.reduceLE, Int.reduceBEq, Int.reduceBNe, Nat.reduceBNe, Nat.reduceAdd, Nat.reduceMul, Nat.reduceEqDiff, Nat.reduceLeDiff, Nat.reduceLT, Nat.reduceBEq, reduceCtorEq, reduceIte, kz0, c7, c10, c28, g6_0, g6_2, g6_6, g6_7, g6_8, og6_0, og6_1, og6_2, og6_3]
          obtain ⟨v43, e29, h⟩ := bind_K h
          refine hand_K (by first | exact s_l1Once_ok e29 | simpa only [go_sem, Int.reduceLT, Int.reduceLE, Int.reduceBEq, Int.reduceBNe, Nat.reduceBNe, Nat.reduceAdd, Nat.reduceMul, Nat.reduceEqDiff, Nat.reduceLeDiff, Nat.reduceLT, Nat.reduceBEq, reduceCtorEq, reduceIte, kz0, c7, c10, c28, g6_0, g6_2, g6_6, g6_7, g6_8, og6_0, og6_1, og6_2, og6_3] using s_l1Once_ok e29) ?_
          try simp only [go_sem, Int.reduceLT, Int.reduceLE, Int.reduceBEq, Int.reduceBNe, Nat.reduceBNe, Nat.reduceAdd, Nat.reduceMul, Nat.reduceEqDiff, Nat.reduceLeDiff, Nat.reduceLT, Nat.reduceBEq, reduceCtorEq, reduceIte, kz0, c7, c10, c28, g6_0, g6_2, g6_6, g6_7, g6_8, og6_0, og6_1, og6_2, og6_3]
          refine ite_K h (fun c30 h => ?_) (fun c30 h => ?_)
          · try simp only [go_sem, Int.reduceLT, Int.reduceLE, Int.reduceBEq, Int.reduceBNe, Nat.reduceBNe, Nat.reduceAdd, Nat.reduceMul, Nat.reduceEqDiff, Nat.reduceLeDiff, Nat.reduceLT, Nat.reduceBEq, reduceCtorEq, reduceIte, kz0, c7, c10, c28, c30, g6_0, g6_2, g6_6, g6_7, g6_8, og6_0, og6_1, og6_2, og6_3]
            obtain ⟨v44, e31, h⟩ := bind_K h
            refine hand_K (by first | exact s_l11Nodes_ok e31 | simpa only [go_sem, Int.reduceLT, Int.reduceLE, Int.reduceBEq, Int.reduceBNe, Nat.reduceBNe, Nat.reduceAdd, Nat.reduceMul, Nat.reduceEqDiff, Nat.reduceLeDiff, Nat.reduceLT, Nat.reduceBEq, reduceCtorEq, reduceIte, kz0, c7, c10, c28, c30, g6_0, g6_2, g6_6, g6_7, g6_8, og6_0, og6_1, og6_2, og6_3] using s_l11Nodes_ok e31) ?_
            try simp only [go_sem, Int.reduceLT, Int.reduceLE, Int.reduceBEq, Int.reduceBNe, Nat.reduceBNe, Nat.reduceAdd, Nat.reduceMul, Nat.reduceEqDiff, Nat.reduceLeDiff, Nat.reduceLT, Nat.reduceBEq, reduceCtorEq, reduceIte, kz0, c7, c10, c28, c30, g6_0, g6_2, g6_6, g6_7, g6_8, og6_0, og6_1, og6_2, og6_3]
            obtain ⟨v45, e32, h⟩ := bind_K h
            refine hand_K (by first | exact s_l1Once_ok e32 | simpa only [go_sem, Int.reduceLT, Int.reduceLE, Int.reduceBEq, Int.reduceBNe, Nat.reduceBNe, Nat.reduceAdd, Nat.reduceMul, Nat.reduceEqDiff, Nat.reduceLeDiff, Nat.reduceLT, Nat.reduceBEq, reduceCtorEq, reduceIte, kz0, c7, c10, c28, c30, g6_0, g6_2, g6_6, g6_7, g6_8, og6_0, og6_1, og6_2, og6_3] using s_l1Once_ok e32) ?_
            try simp only [go_sem, Int.reduceLT, Int.reduceLE, Int.reduceBEq, Int.reduceBNe, Nat.reduceBNe, Nat.reduceAdd, Nat.reduceMul, Nat.reduceEqDiff, Nat.reduceLeDiff, Nat.reduceLT, Nat.reduceBEq, reduceCtorEq, reduceIte, kz0, c7, c10, c28, c30, g6_0, g6_2, g6_6, g6_7, g6_8, og6_0, og6_1, og6_2, og6_3]
            refine ite_K h (fun c33 h => ?_) (fun c33 h => ?_)
            · try simp only [go_sem, Int.reduceLT, Int.reduceLE, Int.reduceBEq, Int.reduceBNe, Nat.reduceBNe, Nat.reduceAdd, Nat.reduceMul, Nat.reduceEqDiff, Nat.reduceLeDiff, Nat.reduceLT, Nat.reduceBEq, reduceCtorEq, reduceIte, kz0, c7, c10, c28, c30, c33, g6_0, g6_2, g6_6, g6_7, g6_8, og6_0, og6_1, og6_2, og6_3]
              refine ite_K h (fun c34 h => ?_) (fun c34 h => ?_)
              · try simp only [go_sem, Int.reduceLT, Int.reduceLE, Int.reduceBEq, Int.reduceBNe, Nat.reduceBNe, Nat.reduceAdd, Nat.reduceMul, Nat.reduceEqDiff, Nat.reduceLeDiff, Nat.reduceLT, Nat.reduceBEq, reduceCtorEq, reduceIte, kz0, c7, c10, c28, c30, c33, c34, g6_0, g6_2, g6_6, g6_7, g6_8, og6_0, og6_1, og6_2, og6_3]
                obtain ⟨v46, e35, h⟩ := bind_K h
                refine hand_K (by first | exact s_l1Below_ok e35 | simpa only [go_sem, Int.reduceLT, Int.reduceLE, Int.reduceBEq, Int.reduceBNe, Nat.reduceBNe, Nat.reduceAdd, Nat.reduceMul, Nat.reduceEqDiff, Nat.reduceLeDiff, Nat.reduceLT, Nat.reduceBEq, reduceCtorEq, reduceIte, kz0, c7, c10, c28, c30, c33, c34, g6_0, g6_2, g6_6, g6_7, g6_8, og6_0, og6_1, og6_2, og6_3] using s_l1Below_ok e35) ?_
                obtain ⟨p36, h⟩ := chk_K h
                try simp only [Nat.reduceLeDiff] at p36
                try simp only [go_sem, Int.reduceLT, Int.reduceLE, Int.reduceBEq, Int.reduceBNe, Nat.reduceBNe, Nat.reduceAdd, Nat.reduceMul, Nat.reduceEqDiff, Nat.reduceLeDiff, Nat.reduceLT, Nat.reduceBEq, reduceCtorEq, reduceIte, kz0, c7, c10, c28, c30, c33, c34, p36, g6_0, g6_2, g6_6, g6_7, g6_8, og6_0, og6_1, og6_2, og6_3]
                refine ⟨_, [], [0, 1, 2, 932], (Option.some.inj h).symm, by decide, ?_⟩
                try simp only [go_sem, Int.reduceLT, Int.reduceLE, Int.reduceBEq, Int.reduceBNe, Nat.reduceBNe, Nat.reduceAdd, Nat.reduceMul, Nat.reduceEqDiff, Nat.reduceLeDiff, Nat.reduceLT, Nat.reduceBEq, reduceCtorEq, reduceIte, kz0, c7, c10, c28, c30, c33, c34, p36, g6_0, g6_2, g6_6, g6_7, g6_8, og6_0, og6_1, og6_2, og6_3, IV, sts_cons, sts_nil, obs_cons, obs_nil]
              · obtain ⟨p37, h⟩ := chk_K h
                try simp only [Nat.reduceLeDiff] at p37
                try simp only [go_sem, Int.reduceLT, Int.reduceLE, Int.reduceBEq, Int.reduceBNe, Nat.reduceBNe, Nat.reduceAdd, Nat.reduceMul, Nat.reduceEqDiff, Nat.reduceLeDiff, Nat.reduceLT, Nat.reduceBEq, reduceCtorEq, reduceIte, kz0, c7, c10, c28, c30, c33, c34, p37, g6_0, g6_2, g6_6, g6_7, g6_8, og6_0, og6_1, og6_2, og6_3]
                refine ⟨_, [], [0, 1, 2, 708], (Option.some.inj h).symm, by decide, ?_⟩
                try simp only [go_sem, Int.reduceLT, Int.reduceLE, Int.reduceBEq, Int.reduceBNe, Nat.reduceBNe, Nat.reduceAdd, Nat.reduceMul, Nat.reduceEqDiff, Nat.reduceLeDiff, Nat.reduceLT, Nat.reduceBEq, reduceCtorEq, reduceIte, kz0, c7, c10, c28, c30, c33, c34, p37, g6_0, g6_2, g6_6, g6_7, g6_8, og6_0, og6_1, og6_2, og6_3, IV, sts_cons, sts_nil, obs_cons, obs_nil]
            · obtain ⟨p38, h⟩ := chk_K h
              try simp only [Nat.reduceLeDiff] at p38
              try simp only [go_sem, Int.reduceLT, Int.reduceLE, Int.reduceBEq, Int.reduceBNe, Nat.reduceBNe, Nat.reduceAdd, Nat.reduceMul, Nat.reduceEqDiff, Nat.reduceLeDiff, Nat.reduceLT, Nat.reduceBEq, reduceCtorEq, reduceIte, kz0, c7, c10, c28, c30, c33, p38, g6_0, g6_2, g6_6, g6_7, g6_8, og6_0, og6_1, og6_2, og6_3]
              refine ⟨_, [], [0, 1, 2, 708], (Option.some.inj h).symm, by decide, ?_⟩
              try simp only [go_sem, Int.reduceLT, Int.reduceLE, Int.reduceBEq, Int.reduceBNe, Nat.reduceBNe, Nat.reduceAdd, Nat.reduceMul, Nat.reduceEqDiff, Nat.reduceLeDiff, Nat.reduceLT, Nat.reduceBEq, reduceCtorEq, reduceIte, kz0, c7, c10, c28, c30, c33, p38, g6_0, g6_2, g6_6, g6_7, g6_8, og6_0, og6_1, og6_2, og6_3, IV, sts_cons, sts_nil, obs_cons, obs_nil]
          · try simp only [go_sem, Int.reduceLT, Int.reduceLE, Int.reduceBEq, Int.reduceBNe, Nat.reduceBNe, Nat.reduceAdd, Nat.reduceMul, Nat.reduceEqDiff, Nat.reduceLeDiff, Nat.reduceLT, Nat.reduceBEq, reduceCtorEq, reduceIte, kz0, c7, c10, c28, c30, g6_0, g6_2, g6_6, g6_7, g6_8, og6_0, og6_1, og6_2, og6_3]
            obtain ⟨v47, e39, h⟩ := bind_K h
            refine hand_K (by first | exact s_l1Once_ok e39 | simpa only [go_sem, Int.reduceLT, Int.reduceLE, Int.reduceBEq, Int.reduceBNe, Nat.reduceBNe, Nat.reduceAdd, Nat.reduceMul, Nat.reduceEqDiff, Nat.reduceLeDiff, Nat.reduceLT, Nat.reduceBEq, reduceCtorEq, reduceIte, kz0, c7, c10, c28, c30, g6_0, g6_2, g6_6, g6_7, g6_8, og6_0, og6_1, og6_2, og6_3] using s_l1Once_ok e39) ?_
            try simp only [go_sem, Int.reduceLT, Int.reduceLE, Int.reduceBEq, Int.reduceBNe, Nat.reduceBNe, Nat.reduceAdd, Nat.reduceMul, Nat.reduceEqDiff, Nat.reduceLeDiff, Nat.reduceLT, Nat.reduceBEq, reduceCtorEq, reduceIte, kz0, c7, c10, c28, c30, g6_0, g6_2, g6_6, g6_7, g6_8, og6_0, og6_1, og6_2, og6_3]
            refine ite_K h (fun c40 h => ?_) (fun c40 h => ?_)
            · obtain ⟨p41, h⟩ := chk_K h
              try simp only [Nat.reduceLeDiff] at p41
              try simp only [go_sem, Int.reduceLT, Int.reduceLE, Int.reduceBEq, Int.reduceBNe, Nat.reduceBNe, Nat.reduceAdd, Nat.reduceMul, Nat.reduceEqDiff, Nat.reduceLeDiff, Nat.reduceLT, Nat.reduceBEq, reduceCtorEq, reduceIte, kz0, c7, c10, c28, c30, c40, p41, g6_0, g6_2, g6_6, g6_7, g6_8, og6_0, og6_1, og6_2, og6_3]
              refine ⟨_, [], [0, 1, 2, 612], (Option.some.inj h).symm, by decide, ?_⟩
              try simp only [go_sem, Int.reduceLT, Int.reduceLE, Int.reduceBEq, Int.reduceBNe, Nat.reduceBNe, Nat.reduceAdd, Nat.reduceMul, Nat.reduceEqDiff, Nat.reduceLeDiff, Nat.reduceLT, Nat.reduceBEq, reduceCtorEq, reduceIte, kz0, c7, c10, c28, c30, c40, p41, g6_0, g6_2, g6_6, g6_7, g6_8, og6_0, og6_1, og6_2, og6_3, IV, sts_cons, sts_nil, obs_cons, obs_nil]
            · obtain ⟨p42, h⟩ := chk_K h
              try simp only [Nat.reduceLeDiff] at p42
              try simp only [go_sem, Int.reduceLT, Int.reduceLE, Int.reduceBEq, Int.reduceBNe, Nat.reduceBNe, Nat.reduceAdd, Nat.reduceMul, Nat.reduceEqDiff, Nat.reduceLeDiff, Nat.reduceLT, Nat.reduceBEq, reduceCtorEq, reduceIte, kz0, c7, c10, c28, c30, c40, p42, g6_0, g6_2, g6_6, g6_7, g6_8, og6_0, og6_1, og6_2, og6_3]
              refine ⟨_, [], [0, 1, 2, 612], (Option.some.inj h).symm, by decide, ?_⟩
              try simp only [go_sem, Int.reduceLT, Int.reduceLE, Int.reduceBEq, Int.reduceBNe, Nat.reduceBNe, Nat.reduceAdd, Nat.reduceMul, Nat.reduceEqDiff, Nat.reduceLeDiff, Nat.reduceLT, Nat.reduceBEq, reduceCtorEq, reduceIte, kz0, c7, c10, c28, c30, c40, p42, g6_0, g6_2, g6_6, g6_7, g6_8, og6_0, og6_1, og6_2, og6_3, IV, sts_cons, sts_nil, obs_cons, obs_nil]
        · obtain ⟨p43, h⟩ := chk_K h
          try simp only [Nat.reduceLeDiff] at p43
          try simp only [go_sem, Int.reduceLT, Int.reduceLE, Int.reduceBEq, Int.reduceBNe, Nat.reduceBNe, Nat.reduceAdd, Nat.reduceMul, Nat.reduceEqDiff, Nat.reduceLeDiff, Nat.reduceLT, Nat.reduceBEq, reduceCtorEq, reduceIte, kz0, c7, c10, c28, p43, g6_0, g6_2, g6_6, g6_7, g6_8, og6_0, og6_1, og6_2, og6_3]
          refine ⟨_, [], [0, 1, 2, 612], (Option.some.inj h).symm, by decide, ?_⟩
          try simp only [go_sem, Int.reduceLT, Int.reduceLE, Int.reduceBEq, Int.reduceBNe, Nat.reduceBNe, Nat.reduceAdd, Nat.reduceMul, Nat.reduceEqDiff, Nat.reduceLeDiff, Nat.reduceLT, Nat.reduceBEq, reduceCtorEq, reduceIte, kz0, c7, c10, c28, p43, g6_0, g6_2, g6_6, g6_7, g6_8, og6_0, og6_1, og6_2, og6_3, IV, sts_cons, sts_nil, obs_cons, obs_nil]
    · replace h := inr_K h hy3
      obtain rfl := Option.some.inj h
      try simp only [go_sem, Int.reduceLT, Int.reduceLE, Int.reduceBEq, Int.reduceBNe, Nat.reduceBNe, Nat.reduceAdd, Nat.reduceMul, Nat.reduceEqDiff, Nat.reduceLeDiff, Nat.reduceLT, Nat.reduceBEq, reduceCtorEq, reduceIte, kz0, c7, g6_0, g6_2, g6_6, g6_7, g6_8, og6_0, og6_1, og6_2, og6_3]
theorem i_IsConsistent_ok {f_0 : FrameD} {set_1 : Int} {r : Bool} (h : i_IsConsistent f_0 set_1 = some r) : Sound Try.prog J0 22 [(true, eFrame f_0), (false, [.int .i64 set_1])] [(false, [(false, .bool r)])] := by
  refine fnk Try.func22 (by kernel_rfl) rfl (by kernel_rfl) (by kernel_rfl) ?_
  unfold i_IsConsistent at h
  simp only [fnS, f22, argSt, go_sem, Int.reduceLT, Int.reduceLE, Int.reduceBEq, Int.reduceBNe, Nat.reduceBNe, Nat.reduceAdd, Nat.reduceMul, Nat.reduceEqDiff, Nat.reduceLeDiff, Nat.reduceLT, Nat.reduceBEq, reduceCtorEq, reduceIte]
  obtain ⟨v1, e1, h⟩ := bind_K h
  refine call_K (by first | exact i_IsFrame_ok e1 | simpa only [go_sem, Int.reduceLT, Int.reduceLE, Int.reduceBEq, Int.reduceBNe, Nat.reduceBNe, Nat.reduceAdd, Nat.reduceMul, Nat.reduceEqDiff, Nat.reduceLeDiff, Nat.reduceLT, Nat.reduceBEq, reduceCtorEq, reduceIte] using i_IsFrame_ok e1) ?_
  try simp only [go_sem, Int.reduceLT, Int.reduceLE, Int.reduceBEq, Int.reduceBNe, Nat.reduceBNe, Nat.reduceAdd, Nat.reduceMul, Nat.reduceEqDiff, Nat.reduceLeDiff, Nat.reduceLT, Nat.reduceBEq, reduceCtorEq, reduceIte]
  refine ite_K h (fun c2 h => ?_) (fun c2 h => ?_)
  · try simp only [go_sem, Int.reduceLT, Int.reduceLE, Int.reduceBEq, Int.reduceBNe, Nat.reduceBNe, Nat.reduceAdd, Nat.reduceMul, Nat.reduceEqDiff, Nat.reduceLeDiff, Nat.reduceLT, Nat.reduceBEq, reduceCtorEq, reduceIte, c2]
    obtain ⟨v2, e3, h⟩ := bind_K h
    refine call_K (by first | exact i_isSet_ok e3 | simpa only [go_sem, Int.reduceLT, Int.reduceLE, Int.reduceBEq, Int.reduceBNe, Nat.reduceBNe, Nat.reduceAdd, Nat.reduceMul, Nat.reduceEqDiff, Nat.reduceLeDiff, Nat.reduceLT, Nat.reduceBEq, reduceCtorEq, reduceIte, c2] using i_isSet_ok e3) ?_
    try simp only [go_sem, Int.reduceLT, Int.reduceLE, Int.reduceBEq, Int.reduceBNe, Nat.reduceBNe, Nat.reduceAdd, Nat.reduceMul, Nat.reduceEqDiff, Nat.reduceLeDiff, Nat.reduceLT, Nat.reduceBEq, reduceCtorEq, reduceIte, c2]
    refine ite_K h (fun c4 h => ?_) (fun c4 h => ?_)
    · try simp only [go_sem, Int.reduceLT, Int.reduceLE, Int.reduceBEq, Int.reduceBNe, Nat.reduceBNe, Nat.reduceAdd, Nat.reduceMul, Nat.reduceEqDiff, Nat.reduceLeDiff, Nat.reduceLT, Nat.reduceBEq, reduceCtorEq, reduceIte, c2, c4]
      obtain ⟨v3, e5, h⟩ := bind_K h
      refine call_K (by first | exact i_under_ok e5 | simpa only [go_sem, Int.reduceLT, Int.reduceLE, Int.reduceBEq, Int.reduceBNe, Nat.reduceBNe, Nat.reduceAdd, Nat.reduceMul, Nat.reduceEqDiff, Nat.reduceLeDiff, Nat.reduceLT, Nat.reduceBEq, reduceCtorEq, reduceIte, c2, c4] using i_under_ok e5) ?_
      try simp only [go_sem, Int.reduceLT, Int.reduceLE, Int.reduceBEq, Int.reduceBNe, Nat.reduceBNe, Nat.reduceAdd, Nat.reduceMul, Nat.reduceEqDiff, Nat.reduceLeDiff, Nat.reduceLT, Nat.reduceBEq, reduceCtorEq, reduceIte, c2, c4]
      obtain ⟨v4, e6, h⟩ := bind_K h
      refine call_K (by first | exact i_noneIn_ok e6 | simpa only [go_sem, Int.reduceLT, Int.reduceLE, Int.reduceBEq, Int.reduceBNe, Nat.reduceBNe, Nat.reduceAdd, Nat.reduceMul, Nat.reduceEqDiff, Nat.reduceLeDiff, Nat.reduceLT, Nat.reduceBEq, reduceCtorEq, reduceIte, c2, c4] using i_noneIn_ok e6) ?_
      obtain rfl := Option.some.inj h
      try simp only [go_sem, Int.reduceLT, Int.reduceLE, Int.reduceBEq, Int.reduceBNe, Nat.reduceBNe, Nat.reduceAdd, Nat.reduceMul, Nat.reduceEqDiff, Nat.reduceLeDiff, Nat.reduceLT, Nat.reduceBEq, reduceCtorEq, reduceIte, c2, c4]
    · obtain rfl := Option.some.inj h
      try simp only [go_sem, Int.reduceLT, Int.reduceLE, Int.reduceBEq, Int.reduceBNe, Nat.reduceBNe, Nat.reduceAdd, Nat.reduceMul, Nat.reduceEqDiff, Nat.reduceLeDiff, Nat.reduceLT, Nat.reduceBEq, reduceCtorEq, reduceIte, c2, c4]
  · obtain rfl := Option.some.inj h
    try simp only [go_sem, Int.reduceLT, Int.reduceLE, Int.reduceBEq, Int.reduceBNe, Nat.reduceBNe, Nat.reduceAdd, Nat.reduceMul, Nat.reduceEqDiff, Nat.reduceLeDiff, Nat.reduceLT, Nat.reduceBEq, reduceCtorEq, reduceIte, c2]
theorem i_LabelFor_1_ok {set_0 : Int} {cap_1 : FrameD} {cap_2 : Int} {r : Bool} (h : i_LabelFor_1 set_0 cap_1 cap_2 = some r) : Sound Try.prog J0 49 [(false, [.int .i64 set_0]), (false, [.pt [.int .i64 cap_1.beliefs.nodes, .sl 49 3 (List.map eReason cap_1.beliefs.reasons), .sl 3 1 (List.map eInt cap_1.assumed), .sl 3 1 (List.map eInt cap_1.bad)]]), (false, [.pt [.int .i64 cap_2]])] [(false, [(false, .bool r)])] := by
  refine fnk Try.func49 (by kernel_rfl) rfl (by kernel_rfl) (by kernel_rfl) ?_
  unfold i_LabelFor_1 at h
  simp only [fnS, f49, argSt, go_sem, Int.reduceLT, Int.reduceLE, Int.reduceBEq, Int.reduceBNe, Nat.reduceBNe, Nat.reduceAdd, Nat.reduceMul, Nat.reduceEqDiff, Nat.reduceLeDiff, Nat.reduceLT, Nat.reduceBEq, reduceCtorEq, reduceIte]
  obtain ⟨v1, e1, h⟩ := bind_K h
  refine call_K (by first | exact i_under_ok e1 | simpa only [go_sem, Int.reduceLT, Int.reduceLE, Int.reduceBEq, Int.reduceBNe, Nat.reduceBNe, Nat.reduceAdd, Nat.reduceMul, Nat.reduceEqDiff, Nat.reduceLeDiff, Nat.reduceLT, Nat.reduceBEq, reduceCtorEq, reduceIte] using i_under_ok e1) ?_
  obtain ⟨p2, h⟩ := chk_K h
  obtain ⟨x2, e3, h⟩ := bind_K h
  try simp only [go_sem, Int.reduceLT, Int.reduceLE, Int.reduceBEq, Int.reduceBNe, Nat.reduceBNe, Nat.reduceAdd, Nat.reduceMul, Nat.reduceEqDiff, Nat.reduceLeDiff, Nat.reduceLT, Nat.reduceBEq, reduceCtorEq, reduceIte, p2.1, p2.2, e3]
  refine ite_K h (fun c4 h => ?_) (fun c4 h => ?_)
  · try simp only [go_sem, Int.reduceLT, Int.reduceLE, Int.reduceBEq, Int.reduceBNe, Nat.reduceBNe, Nat.reduceAdd, Nat.reduceMul, Nat.reduceEqDiff, Nat.reduceLeDiff, Nat.reduceLT, Nat.reduceBEq, reduceCtorEq, reduceIte, p2.1, p2.2, e3, c4]
    obtain ⟨v3, e5, h⟩ := bind_K h
    refine call_K (by first | exact i_noneIn_ok e5 | simpa only [go_sem, Int.reduceLT, Int.reduceLE, Int.reduceBEq, Int.reduceBNe, Nat.reduceBNe, Nat.reduceAdd, Nat.reduceMul, Nat.reduceEqDiff, Nat.reduceLeDiff, Nat.reduceLT, Nat.reduceBEq, reduceCtorEq, reduceIte, p2.1, p2.2, e3, c4] using i_noneIn_ok e5) ?_
    obtain rfl := Option.some.inj h
    try simp only [go_sem, Int.reduceLT, Int.reduceLE, Int.reduceBEq, Int.reduceBNe, Nat.reduceBNe, Nat.reduceAdd, Nat.reduceMul, Nat.reduceEqDiff, Nat.reduceLeDiff, Nat.reduceLT, Nat.reduceBEq, reduceCtorEq, reduceIte, p2.1, p2.2, e3, c4]
  · obtain rfl := Option.some.inj h
    try simp only [go_sem, Int.reduceLT, Int.reduceLE, Int.reduceBEq, Int.reduceBNe, Nat.reduceBNe, Nat.reduceAdd, Nat.reduceMul, Nat.reduceEqDiff, Nat.reduceLeDiff, Nat.reduceLT, Nat.reduceBEq, reduceCtorEq, reduceIte, p2.1, p2.2, e3, c4]
end Go.Proofs.Ytfbonanbiblkbaa

namespace Go.Proofs.Ytfbonanbiblkbaa
open Go.Proofs.Try
set_option linter.unusedSimpArgs false
set_option linter.unusedVariables false
set_option maxRecDepth 1000000
set_option maxHeartbeats 4000000
theorem s_l13Set_ok {f_0 : FrameD} {set_1 : Int} {r : Bool} (h : s_l13Set f_0 set_1 = some r) : Sound Try.prog J0 53 [(true, eFrame f_0), (false, [.int .i64 set_1])] [(false, [(false, .bool r)])] := by
  refine fnk Try.func53 (by kernel_rfl) rfl (by kernel_rfl) (by kernel_rfl) ?_
  unfold s_l13Set at h
  simp only [fnS, f53, argSt, go_sem, Int.reduceLT, Int.reduceLE, Int.reduceBEq, Int.reduceBNe, Nat.reduceBNe, Nat.reduceAdd, Nat.reduceMul, Nat.reduceEqDiff, Nat.reduceLeDiff, Nat.reduceLT, Nat.reduceBEq, reduceCtorEq, reduceIte]
  obtain ⟨v1, e1, h⟩ := bind_K h
  refine call_K (by first | exact s_IsFrame_ok e1 | simpa only [go_sem, Int.reduceLT, Int.reduceLE, Int.reduceBEq, Int.reduceBNe, Nat.reduceBNe, Nat.reduceAdd, Nat.reduceMul, Nat.reduceEqDiff, Nat.reduceLeDiff, Nat.reduceLT, Nat.reduceBEq, reduceCtorEq, reduceIte] using s_IsFrame_ok e1) ?_
  try simp only [go_sem, Int.reduceLT, Int.reduceLE, Int.reduceBEq, Int.reduceBNe, Nat.reduceBNe, Nat.reduceAdd, Nat.reduceMul, Nat.reduceEqDiff, Nat.reduceLeDiff, Nat.reduceLT, Nat.reduceBEq, reduceCtorEq, reduceIte]
  refine ite_K h (fun c2 h => ?_) (fun c2 h => ?_)
  · obtain ⟨p3, h⟩ := chk_K h
    try simp only [go_sem, Int.reduceLT, Int.reduceLE, Int.reduceBEq, Int.reduceBNe, Nat.reduceBNe, Nat.reduceAdd, Nat.reduceMul, Nat.reduceEqDiff, Nat.reduceLeDiff, Nat.reduceLT, Nat.reduceBEq, reduceCtorEq, reduceIte, c2, p3]
    obtain ⟨v2, e4, h⟩ := bind_K h
    refine call_K (by first | exact s_l1In_ok e4 | simpa only [go_sem, Int.reduceLT, Int.reduceLE, Int.reduceBEq, Int.reduceBNe, Nat.reduceBNe, Nat.reduceAdd, Nat.reduceMul, Nat.reduceEqDiff, Nat.reduceLeDiff, Nat.reduceLT, Nat.reduceBEq, reduceCtorEq, reduceIte, c2, p3] using s_l1In_ok e4) ?_
    obtain rfl := Option.some.inj h
    try simp only [go_sem, Int.reduceLT, Int.reduceLE, Int.reduceBEq, Int.reduceBNe, Nat.reduceBNe, Nat.reduceAdd, Nat.reduceMul, Nat.reduceEqDiff, Nat.reduceLeDiff, Nat.reduceLT, Nat.reduceBEq, reduceCtorEq, reduceIte, c2, p3]
  · obtain rfl := Option.some.inj h
    try simp only [go_sem, Int.reduceLT, Int.reduceLE, Int.reduceBEq, Int.reduceBNe, Nat.reduceBNe, Nat.reduceAdd, Nat.reduceMul, Nat.reduceEqDiff, Nat.reduceLeDiff, Nat.reduceLT, Nat.reduceBEq, reduceCtorEq, reduceIte, c2]
end Go.Proofs.Ytfbonanbiblkbaa
