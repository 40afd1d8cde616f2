/- Texts of this proof, joined: BTok, DT, Dp0, Shelf, SortH, SortZ, Ext, Dp1, BStd, DE, Dm, De, Dp2, Dp3, Dp4, Dp5, Dp6, BTail, Lr, Dp7, Open, LawFnRepairsHit. What each holds is said at its theorems. -/
import Derived.Test.YtnacpkmpdlodoaaRepairsHitQ2
import Derived.Test.YtnacpkmpdlodoaaRepairsHitQ3
import Derived.Test.YtnacpkmpdlodoaaRepairsHitQ1
import Derived.Test.YtnacpkmpdlodoaaProg
import Derived.Shelf.Small.Bits
import Derived.Shelf.Small.Wraps
import Derived.Shelf.Strconv.Itoa0
import Derived.Shelf.Sort.Plain
import Derived.Ground.GgsProg
import Derived.Shelf.GgSortFunc.Insertion
import Derived.Shelf.GgSortFunc.Tiny
import Derived.Shelf.GgSortFunc.Compose
import Derived.Ground.GgtProg
import Derived.Shelf.GgSortMore.Stable
import Derived.Shelf.Slices.In.SortNone
import Derived.Shelf.Slices.In.SortNone2
import Derived.Deep.OwnRows
import Derived.OwnWalk
import Derived.Outline
import Derived.WalkSpells
import Derived.StillTailTactics
import Derived.BigGuard
import Derived.Deep.QuietTactic
import Derived.Deep.Slices
import Derived.ChangeArms
import Derived.ProofKit
set_option linter.unusedSimpArgs false
set_option linter.unusedVariables false
namespace Go.Proofs.Ytnacpkmpdlodoaa
section
open Go.RowKit
def all2B {α β : Type} (f : α → β → Bool) : List α → List β → Bool
  | [], [] => true
  | a :: l, b :: r => f a b && all2B f l r
  | _, _ => false
theorem all2B_ok {α β : Type} {f : α → β → Bool} {R : α → β → Prop} (h : ∀ a b, f a b = true → R a b) : ∀ {l : List α} {r : List β}, all2B f l r = true → All2 R l r
  | [], [], _ => trivial
  | a :: l, b :: r, hh => by
    simp only [all2B, Bool.and_eq_true] at hh
    exact ⟨h a b hh.1, all2B_ok h hh.2⟩
  | [], _ :: _, hh => by simp [all2B] at hh
  | _ :: _, [], hh => by simp [all2B] at hh
def fieldB (P : Program) (fi : FI) (f : Field) : Bool :=
  f.offset == fi.off && !(fi.size == 0) && match P.info? f.type, P.underlying f.type with
    | some j, some d => j.size == fi.size && (aggD d == fi.agg)
    | _, _ => false
def nilB : Value → Bool
  | .slice none 0 0 => true
  | _ => false
def eqFB (P : Program) : List PK → List Field → Nat → Bool
  | [], [], _ => true
  | k :: ks, f :: fs, n => (f.name != "_") && (f.offset == n) && (match P.underlying f.type with | some d => kindP k d | none => false) && eqFB P ks fs (n + 1)
  | _, _, _ => false
theorem eqFB_ok {P : Program} : ∀ {ks : List PK} {fs : List Field} {n : Nat}, eqFB P ks fs n = true → EqF P ks fs n
  | [], [], _, _ => trivial
  | k :: ks, f :: fs, n, h => by
    simp only [eqFB, Bool.and_eq_true, bne_iff_ne, beq_iff_eq] at h
    obtain ⟨⟨⟨h1, h2⟩, h3⟩, h4⟩ := h
    split at h3
    · rename_i d hd; exact ⟨h1, h2, ⟨d, hd, h3⟩, eqFB_ok h4⟩
    · simp at h3
  | [], _ :: _, _, h => by simp [eqFB] at h
  | _ :: _, [], _, h => by simp [eqFB] at h
def isStructD : Option TypeDesc → Bool
  | some (.struct _) => true
  | _ => false
def eqsB (P : Program) (t : TypeId) (ks : List PK) : Bool :=
  Nat.ble 4000 t && isStructD (P.underlying (t - 4000)) && !(P.stoodInHeld (t - 4000)) && !(P.eqGuardType P.depth (t - 4000)) && eqFB P ks (P.fieldsOf (t - 4000)).toList 0
theorem eqsB_ok {P : Program} {t : TypeId} {ks : List PK} (h : eqsB P t ks = true) : TOk P t (.eqs ks) := by
  simp only [eqsB, Bool.and_eq_true, Bool.not_eq_true'] at h
  obtain ⟨⟨⟨⟨h1, h2⟩, h3⟩, h4⟩, h5⟩ := h
  refine ⟨t - 4000, ?_, ?_, h3, h4, eqFB_ok h5⟩
  · have : 4000 ≤ t := Nat.le_of_ble_eq_true h1
    exact (Nat.sub_add_cancel this).symm
  · unfold isStructD at h2
    split at h2
    · rename_i fs e
      unfold Program.fieldsOf
      rw [e]
    · simp at h2
def tOk (P : Program) (t : TypeId) (ti : TI) : Bool :=
  match ti with
  | .eqs ks => eqsB P t ks
  | _ =>
  match P.underlying t, P.info? t with
  | some d, some i => match ti with
    | .atom z => kindB d z && i.size == 1 && match i.zero with | some zv => constB z zv | none => false
    | .strct fs n z => match d with
      | .struct fields => i.size == n && (match i.zero with | some (.agg zvs) => all2B constB z zvs.toList | _ => false) && all2B (fieldB P) fs fields.toList
      | _ => false
    | .slice e m bytes z => match d with
      | .slice e' => e == e' && Nat.blt 0 m && Nat.ble bytes 131072 && (match P.info? e with
          | some ie => ie.size == m && ie.bytes == bytes && (match ie.zero with | some zv => all2B constB z zv.cells.toList | none => false)
          | none => false) && z.length == m && i.size == 1 && (match i.zero with | some zv => nilB zv | none => false)
      | _ => false
    | .map kk vk => match d with
      | .map kt et => (match P.underlying kt with | some dk => kindP kk dk | none => false) && (match P.underlying et with | some dv => kindP vk dv | none => false) && (match P.info? et with | some ie => (match ie.zero with | some zv => constB (zeroPK vk) zv | none => false) | none => false)
      | _ => false
    | .ifc => match d with
      | .interface _ => true
      | _ => false
    | .eqs _ => false
  | _, _ => false
theorem nilB_ok {v : Value} (h : nilB v = true) : v = .slice none 0 0 := by
  unfold nilB at h
  split at h
  · rfl
  · simp at h
theorem tOk_ok {P : Program} {t : TypeId} {ti : TI} (h : tOk P t ti = true) : TOk P t ti := by
  unfold tOk at h
  split at h
  · exact eqsB_ok h
  split at h
  · rename_i d i hd hi
    cases ti with
    | eqs ks => simp at h
    | ifc =>
      simp only at h
      split at h
      · exact ⟨_, hd⟩
      · simp at h
    | map kk vk =>
      simp only at h
      split at h
      · rename_i kt et
        simp only [Bool.and_eq_true] at h
        obtain ⟨⟨h1, h2⟩, h3⟩ := h
        split at h1
        · rename_i dk hdk
          split at h2
          · rename_i dv hdv
            split at h3
            · rename_i ie hie
              split at h3
              · rename_i zv hz
                exact ⟨kt, et, dk, dv, ie, zv, hd, hdk, h1, hdv, h2, hie, hz, h3⟩
              · simp at h3
            · simp at h3
          · simp at h2
        · simp at h1
      · simp at h
    | atom z =>
      simp only [Bool.and_eq_true, beq_iff_eq] at h
      obtain ⟨⟨h1, h2⟩, h3⟩ := h
      split at h3
      · rename_i zv hz; exact ⟨d, zv, i, hd, h1, hi, hz, h2, h3⟩
      · simp at h3
    | strct fs n z =>
      simp only at h
      split at h
      · rename_i fields
        simp only [Bool.and_eq_true, beq_iff_eq] at h
        obtain ⟨⟨h1, h2⟩, h3⟩ := h
        split at h2
        · rename_i zvs hz
          refine ⟨fields, i, zvs, hd, hi, h1, hz, all2B_ok (fun _ _ h => h) h2, all2B_ok (fun fi f hf => ?_) h3⟩
          unfold fieldB at hf
          simp only [Bool.and_eq_true, beq_iff_eq, Bool.not_eq_true', beq_eq_false_iff_ne] at hf
          obtain ⟨⟨f1, f2⟩, f3⟩ := hf
          split at f3
          · rename_i j d' hj hd'
            simp only [Bool.and_eq_true, beq_iff_eq] at f3
            exact ⟨f1, f2, j, d', hj, f3.1, hd', f3.2⟩
          · simp at f3
        · simp at h2
      · simp at h
    | slice e m bytes z =>
      simp only at h
      split at h
      · rename_i e'
        simp only [Bool.and_eq_true, beq_iff_eq] at h
        obtain ⟨⟨⟨⟨⟨⟨h1, h2⟩, h3⟩, h4⟩, h5⟩, h6⟩, h7⟩ := h
        subst h1
        split at h4
        · rename_i ie hie
          simp only [Bool.and_eq_true, beq_iff_eq] at h4
          obtain ⟨⟨k1, k2⟩, k3⟩ := h4
          split at k3
          · rename_i zv hz
            split at h7
            · rename_i zv' hz'
              exact ⟨hd, Nat.le_of_ble_eq_true h2, Nat.le_of_ble_eq_true h3, ⟨ie, zv, hie, k1, k2, hz, all2B_ok (fun _ _ h => h) k3, h5⟩, i, hi, h6, by rw [hz', nilB_ok h7]⟩
            · simp at h7
          · simp at k3
        · simp at h4
      · simp at h
  · simp at h
def look : List (Nat × TI) → Nat → Option TI
  | [], _ => none
  | p :: r, t => if p.1 = t then some p.2 else look r t
theorem tts_ok {P : Program} : ∀ (l : List (Nat × TI)), (l.all fun p => tOk P p.1 p.2) = true → ∀ t i, look l t = some i → TOk P t i
  | [], _, t, i, h => by simp [look] at h
  | p :: r, ha, t, i, h => by
    simp only [List.all_cons, Bool.and_eq_true] at ha
    simp only [look] at h
    split at h
    · rename_i e
      simp only [Option.some.injEq] at h
      subst h e
      exact tOk_ok ha.1
    · exact tts_ok r ha.2 t i h
end
section
open Go.RowKit
def ttL : List (Nat × TI) := [
  (2, .atom (.c (.int .i64 0))),
  (3, .atom (.c (.int .i64 0))),
  (4, .atom (.c (.bool false))),
  (5, .atom (.c (.int .u8 0))),
  (9, .atom (.c (.str ⟨#[]⟩))),
  (12, .atom (.c (.int .u64 0))),
  (14, .strct [⟨0, 1, false⟩, ⟨1, 1, false⟩] 2 [.c (.str ⟨#[]⟩), .c (.int .u64 0)]),
  (20, .ifc),
  (21, .atom (.c (.int .i32 0))),
  (22, .slice 5 1 1 [.c (.int .u8 0)]),
  (24, .slice 47 3 56 [.c (.int .i64 0), .nil 3 1, .nil 3 1]),
  (26, .strct [⟨0, 1, false⟩, ⟨1, 1, false⟩] 2 [.c (.int .i64 0), .nil 47 3]),
  (27, .slice 3 1 8 [.c (.int .i64 0)]),
  (29, .strct [⟨0, 2, true⟩, ⟨2, 1, false⟩, ⟨3, 1, false⟩] 4 [.c (.int .i64 0), .nil 47 3, .nil 3 1, .nil 3 1]),
  (33, .slice 27 1 24 [.nil 3 1]),
  (38, .slice 4 1 1 [.c (.bool false)]),
  (47, .strct [⟨0, 1, false⟩, ⟨1, 1, false⟩, ⟨2, 1, false⟩] 3 [.c (.int .i64 0), .nil 3 1, .nil 3 1]),
  (64, .strct [⟨0, 1, false⟩, ⟨1, 1, false⟩, ⟨2, 1, false⟩] 3 [.nil 5 1, .c (.int .i64 0), .c (.int .i64 0)]),
  (79, .slice 38 1 24 [.nil 4 1]),
  (90, .atom (.c (.int .u64 0))),
  (102, .atom (.c (.int .u32 0))),
  (104, .atom (.c (.int .u64 0)))]
def tt (t : Nat) : Option TI := look ttL t
theorem htt : ∀ t i, tt t = some i → TOk Try.prog t i := tts_ok ttL (by kernel_rfl)
theorem hmix : Try.prog.follows .mixedOrders = true := by kernel_rfl
def J0 : World → Prop := fun _ => True
def JF0 : Nat → Prop := fun _ => True
theorem hJ0 : JOk J0 JF0 := ⟨fun _ _ _ _ _ _ _ _ _ _ => trivial, fun _ _ _ _ => trivial⟩
def hdL : List (Nat × Nat) := [(7, 2), (13, 1), (14, 3), (31, 1), (32, 1), (33, 1), (44, 1), (45, 2), (47, 1), (63, 1)]
def hlook : List (Nat × Nat) → Nat → Nat
  | [], _ => 0
  | p :: r, f => match Nat.beq p.1 f with | true => p.2 | false => hlook r f
def hds (f : FuncId) : Nat := hlook hdL f
theorem hd_3 : (SC Try.prog J0 JF0 hds).hd 3 = 0 := _root_.id (by kernel_rfl)
theorem hd_4 : (SC Try.prog J0 JF0 hds).hd 4 = 0 := _root_.id (by kernel_rfl)
theorem hd_5 : (SC Try.prog J0 JF0 hds).hd 5 = 0 := _root_.id (by kernel_rfl)
theorem hd_6 : (SC Try.prog J0 JF0 hds).hd 6 = 0 := _root_.id (by kernel_rfl)
theorem hd_7 : (SC Try.prog J0 JF0 hds).hd 7 = 2 := _root_.id (by kernel_rfl)
theorem hd_8 : (SC Try.prog J0 JF0 hds).hd 8 = 0 := _root_.id (by kernel_rfl)
theorem hd_9 : (SC Try.prog J0 JF0 hds).hd 9 = 0 := _root_.id (by kernel_rfl)
theorem hd_10 : (SC Try.prog J0 JF0 hds).hd 10 = 0 := _root_.id (by kernel_rfl)
theorem hd_11 : (SC Try.prog J0 JF0 hds).hd 11 = 0 := _root_.id (by kernel_rfl)
theorem hd_12 : (SC Try.prog J0 JF0 hds).hd 12 = 0 := _root_.id (by kernel_rfl)
theorem hd_13 : (SC Try.prog J0 JF0 hds).hd 13 = 1 := _root_.id (by kernel_rfl)
theorem hd_14 : (SC Try.prog J0 JF0 hds).hd 14 = 3 := _root_.id (by kernel_rfl)
theorem hd_15 : (SC Try.prog J0 JF0 hds).hd 15 = 0 := _root_.id (by kernel_rfl)
theorem hd_16 : (SC Try.prog J0 JF0 hds).hd 16 = 0 := _root_.id (by kernel_rfl)
theorem hd_17 : (SC Try.prog J0 JF0 hds).hd 17 = 0 := _root_.id (by kernel_rfl)
theorem hd_18 : (SC Try.prog J0 JF0 hds).hd 18 = 0 := _root_.id (by kernel_rfl)
theorem hd_19 : (SC Try.prog J0 JF0 hds).hd 19 = 0 := _root_.id (by kernel_rfl)
theorem hd_20 : (SC Try.prog J0 JF0 hds).hd 20 = 0 := _root_.id (by kernel_rfl)
theorem hd_22 : (SC Try.prog J0 JF0 hds).hd 22 = 0 := _root_.id (by kernel_rfl)
theorem hd_23 : (SC Try.prog J0 JF0 hds).hd 23 = 0 := _root_.id (by kernel_rfl)
theorem hd_24 : (SC Try.prog J0 JF0 hds).hd 24 = 0 := _root_.id (by kernel_rfl)
theorem hd_25 : (SC Try.prog J0 JF0 hds).hd 25 = 0 := _root_.id (by kernel_rfl)
theorem hd_26 : (SC Try.prog J0 JF0 hds).hd 26 = 0 := _root_.id (by kernel_rfl)
theorem hd_27 : (SC Try.prog J0 JF0 hds).hd 27 = 0 := _root_.id (by kernel_rfl)
theorem hd_28 : (SC Try.prog J0 JF0 hds).hd 28 = 0 := _root_.id (by kernel_rfl)
theorem hd_29 : (SC Try.prog J0 JF0 hds).hd 29 = 0 := _root_.id (by kernel_rfl)
theorem hd_30 : (SC Try.prog J0 JF0 hds).hd 30 = 0 := _root_.id (by kernel_rfl)
theorem hd_31 : (SC Try.prog J0 JF0 hds).hd 31 = 1 := _root_.id (by kernel_rfl)
theorem hd_32 : (SC Try.prog J0 JF0 hds).hd 32 = 1 := _root_.id (by kernel_rfl)
theorem hd_33 : (SC Try.prog J0 JF0 hds).hd 33 = 1 := _root_.id (by kernel_rfl)
theorem hd_34 : (SC Try.prog J0 JF0 hds).hd 34 = 0 := _root_.id (by kernel_rfl)
theorem hd_35 : (SC Try.prog J0 JF0 hds).hd 35 = 0 := _root_.id (by kernel_rfl)
theorem hd_36 : (SC Try.prog J0 JF0 hds).hd 36 = 0 := _root_.id (by kernel_rfl)
theorem hd_37 : (SC Try.prog J0 JF0 hds).hd 37 = 0 := _root_.id (by kernel_rfl)
theorem hd_38 : (SC Try.prog J0 JF0 hds).hd 38 = 0 := _root_.id (by kernel_rfl)
theorem hd_43 : (SC Try.prog J0 JF0 hds).hd 43 = 0 := _root_.id (by kernel_rfl)
theorem hd_44 : (SC Try.prog J0 JF0 hds).hd 44 = 1 := _root_.id (by kernel_rfl)
theorem hd_45 : (SC Try.prog J0 JF0 hds).hd 45 = 2 := _root_.id (by kernel_rfl)
theorem hd_46 : (SC Try.prog J0 JF0 hds).hd 46 = 0 := _root_.id (by kernel_rfl)
theorem hd_47 : (SC Try.prog J0 JF0 hds).hd 47 = 1 := _root_.id (by kernel_rfl)
theorem hd_48 : (SC Try.prog J0 JF0 hds).hd 48 = 0 := _root_.id (by kernel_rfl)
theorem hd_61 : (SC Try.prog J0 JF0 hds).hd 61 = 0 := _root_.id (by kernel_rfl)
theorem hd_62 : (SC Try.prog J0 JF0 hds).hd 62 = 0 := _root_.id (by kernel_rfl)
theorem hd_63 : (SC Try.prog J0 JF0 hds).hd 63 = 1 := _root_.id (by kernel_rfl)
theorem tt2 : tt 2 = some (.atom (.c (.int .i64 0))) := _root_.id rfl
theorem tt3 : tt 3 = some (.atom (.c (.int .i64 0))) := _root_.id rfl
theorem tt4 : tt 4 = some (.atom (.c (.bool false))) := _root_.id rfl
theorem tt5 : tt 5 = some (.atom (.c (.int .u8 0))) := _root_.id rfl
theorem tt9 : tt 9 = some (.atom (.c (.str ⟨#[]⟩))) := _root_.id rfl
theorem tt12 : tt 12 = some (.atom (.c (.int .u64 0))) := _root_.id rfl
theorem tt14 : tt 14 = some (.strct [⟨0, 1, false⟩, ⟨1, 1, false⟩] 2 [.c (.str ⟨#[]⟩), .c (.int .u64 0)]) := _root_.id rfl
theorem tt20 : tt 20 = some (.ifc) := _root_.id rfl
theorem tt21 : tt 21 = some (.atom (.c (.int .i32 0))) := _root_.id rfl
theorem tt22 : tt 22 = some (.slice 5 1 1 [.c (.int .u8 0)]) := _root_.id rfl
theorem tt24 : tt 24 = some (.slice 47 3 56 [.c (.int .i64 0), .nil 3 1, .nil 3 1]) := _root_.id rfl
theorem tt26 : tt 26 = some (.strct [⟨0, 1, false⟩, ⟨1, 1, false⟩] 2 [.c (.int .i64 0), .nil 47 3]) := _root_.id rfl
theorem tt27 : tt 27 = some (.slice 3 1 8 [.c (.int .i64 0)]) := _root_.id rfl
theorem tt29 : tt 29 = some (.strct [⟨0, 2, true⟩, ⟨2, 1, false⟩, ⟨3, 1, false⟩] 4 [.c (.int .i64 0), .nil 47 3, .nil 3 1, .nil 3 1]) := _root_.id rfl
theorem tt33 : tt 33 = some (.slice 27 1 24 [.nil 3 1]) := _root_.id rfl
theorem tt38 : tt 38 = some (.slice 4 1 1 [.c (.bool false)]) := _root_.id rfl
theorem tt47 : tt 47 = some (.strct [⟨0, 1, false⟩, ⟨1, 1, false⟩, ⟨2, 1, false⟩] 3 [.c (.int .i64 0), .nil 3 1, .nil 3 1]) := _root_.id rfl
theorem tt64 : tt 64 = some (.strct [⟨0, 1, false⟩, ⟨1, 1, false⟩, ⟨2, 1, false⟩] 3 [.nil 5 1, .c (.int .i64 0), .c (.int .i64 0)]) := _root_.id rfl
theorem tt79 : tt 79 = some (.slice 38 1 24 [.nil 4 1]) := _root_.id rfl
theorem tt90 : tt 90 = some (.atom (.c (.int .u64 0))) := _root_.id rfl
theorem tt102 : tt 102 = some (.atom (.c (.int .u32 0))) := _root_.id rfl
theorem tt104 : tt 104 = some (.atom (.c (.int .u64 0))) := _root_.id rfl
theorem fnk {f : FuncId} {fn : Func} {c : Code} {args : List (Bool × List CT)} {res : List RT} (hf : Try.prog.funcs[f]? = some fn) (hb : fn.body = some c) (h : fnS (fun _ => none) tt (SC Try.prog J0 JF0 hds) fn.results.toList c args res) (hname : (fn.name == "runtime.NumGoroutine") = false := by kernel_rfl) (hok : codeOk (fun _ => none) tt hds false fn.ntmps c = true := by kernel_rfl) (hlen : Nat.ble args.length fn.ntmps = true := by kernel_rfl) : Sound Try.prog J0 f args res := fn_sound htt hJ0 hmix hf hname hb hok hlen h
theorem fnh {f : FuncId} {fn : Func} {c : Code} {h h' : Hand} {args : List (Bool × List CT)} {res : List RT} (hf : Try.prog.funcs[f]? = some fn) (hb : fn.body = some c) (hh : fnH (fun _ => none) tt (SC Try.prog J0 JF0 hds) fn.results.toList c h args res h') (hname : (fn.name == "runtime.NumGoroutine") = false := by kernel_rfl) (hok : codeOk (fun _ => none) tt hds true fn.ntmps c = true := by kernel_rfl) (hlen : Nat.blt args.length fn.ntmps = true := by kernel_rfl) : SoundH Try.prog J0 JF0 f h args res h' := fn_soundH htt hJ0 hmix hf hname hb hok hlen hh
theorem fnb {f : FuncId} {fn : Func} {c : Code} {args : List (Bool × List CT)} {nb : NB} (hf : Try.prog.funcs[f]? = some fn) (hb : fn.body = some c) (h : fnB (fun _ => none) tt (SC Try.prog J0 JF0 hds) fn.results.toList c args nb) (hname : (fn.name == "runtime.NumGoroutine") = false := by kernel_rfl) (hok : codeOk (fun _ => none) tt hds false fn.ntmps c = true := by kernel_rfl) (hlen : Nat.ble args.length fn.ntmps = true := by kernel_rfl) : SoundB Try.prog J0 f args nb := fn_soundB htt hJ0 hmix hf hname hb hok hlen h
def eReason (x : ReasonD) : List CT := [.int .i64 x.for_, .sl 3 1 (List.map eInt x.inn), .sl 3 1 (List.map eInt x.outs)]
theorem eReason_eq (x : ReasonD) : eReason x = [.int .i64 x.for_, .sl 3 1 (List.map eInt x.inn), .sl 3 1 (List.map eInt x.outs)] := _root_.id rfl
def eBeliefs (x : BeliefsD) : List CT := [.int .i64 x.nodes, .sl 47 3 (List.map eReason x.reasons)]
theorem eBeliefs_eq (x : BeliefsD) : eBeliefs x = [.int .i64 x.nodes, .sl 47 3 (List.map eReason x.reasons)] := _root_.id rfl
def eFrame (x : FrameD) : List CT := [.int .i64 x.beliefs.nodes, .sl 47 3 (List.map eReason x.beliefs.reasons), .sl 3 1 (List.map eInt x.assumed), .sl 3 1 (List.map eInt x.bad)]
theorem eFrame_eq (x : FrameD) : eFrame x = [.int .i64 x.beliefs.nodes, .sl 47 3 (List.map eReason x.beliefs.reasons), .sl 3 1 (List.map eInt x.assumed), .sl 3 1 (List.map eInt x.bad)] := _root_.id rfl
def el1Cur (x : l1CurD) : List CT := [.sl 5 1 (List.map eByte x.b), .int .i64 x.i, .int .i64 x.h]
theorem el1Cur_eq (x : l1CurD) : el1Cur x = [.sl 5 1 (List.map eByte x.b), .int .i64 x.i, .int .i64 x.h] := _root_.id rfl
def eSlInt_3 (x : (List Int)) : List CT := [.sl 3 1 (List.map eInt x)]
theorem eSlInt_3_eq (x : (List Int)) : eSlInt_3 x = [.sl 3 1 (List.map eInt x)] := _root_.id rfl
def eSlBool_4 (x : (List Bool)) : List CT := [.sl 4 1 (List.map eBool x)]
theorem eSlBool_4_eq (x : (List Bool)) : eSlBool_4 x = [.sl 4 1 (List.map eBool x)] := _root_.id rfl
attribute [go_sem] tt2 tt3 tt4 tt5 tt9 tt12 tt14 tt20 tt21 tt22 tt24 tt26 tt27 tt29 tt33 tt38 tt47 tt64 tt79 tt90 tt102 tt104 hd_3 hd_4 hd_5 hd_6 hd_7 hd_8 hd_9 hd_10 hd_11 hd_12 hd_13 hd_14 hd_15 hd_16 hd_17 hd_18 hd_19 hd_20
attribute [go_sem] hd_22 hd_23 hd_24 hd_25 hd_26 hd_27 hd_28 hd_29 hd_30 hd_31 hd_32 hd_33 hd_34 hd_35 hd_36 hd_37 hd_38 hd_43 hd_44 hd_45 hd_46 hd_47 hd_48 hd_61 hd_62 hd_63 eReason_eq eBeliefs_eq eFrame_eq el1Cur_eq eSlInt_3_eq eSlBool_4_eq
end
section
open Go.Proofs.Try
set_option linter.unusedSimpArgs false
set_option linter.unusedVariables false
set_option maxRecDepth 1000000
set_option maxHeartbeats 4000000
theorem w_big_ok {code_0 : (List Int)} {r : Bool} (h : w_big code_0 = some r) : Sound Try.prog J0 4 [(false, [.sl 5 1 (List.map eByte code_0)])] [(false, [(false, .bool r)])] := by
  refine fnk Try.func4 rfl ?_
  unfold w_big at h
  simp only [fnS, f4, argSt, go_sem, seval]
  obtain rfl := Option.some.inj h
  try simp only [go_sem, seval, *]
theorem s_l1Byte_ok {c_0 : l1CurD} {r : (Int × l1CurD)} (h : s_l1Byte c_0 = some r) : SoundH Try.prog J0 JF0 63 (.box 64 (el1Cur c_0)) [] [(false, [(false, .int .i64 r.1)])] (.box 64 (el1Cur r.2)) := by
  refine fnh Try.func63 rfl ?_
  unfold s_l1Byte at h
  have kn0 : ¬ ((35 : Int) < 0) := by decide
  have kn1 : ¬ ((45 : Int) < 0) := by decide
  simp only [fnH, f63, handSt, handSV, handOb, go_sem, seval, kn0, kn1]
  refine ite_K h (fun c1 h => ?_) (fun c1 h => ?_) <;> try simp only [go_sem, seval, *]
  · obtain ⟨x1, a2, a3, e4, h⟩ := at_K h
    obtain rfl := Option.some.inj h
    try simp only [go_sem, seval, *]
  · obtain rfl := Option.some.inj h
    try simp only [go_sem, seval, *]
theorem s_l1New_ok {code_0 : (List Int)} {r : l1CurD} (h : s_l1New code_0 = some r) : SoundB Try.prog J0 14 [(false, [.sl 5 1 (List.map eByte code_0)])] (.box 64 (el1Cur r)) := by
  refine fnb Try.func14 rfl ?_
  unfold s_l1New at h
  simp only [fnB, f14, argSt, go_sem, seval]
  refine swp_for h (fun i h_2 st => IV [(0, .p false [.c (.sl 5 1 (List.map eByte code_0))]), (3, .p false [.c (.int .i64 h_2)]), (4, .p false [.c (.int .i64 ((i : Nat) : Int))])] [] st) [] [] (by decide) ?_ ?_ ?_
  · simp only [go_sem, seval, *]
  · rintro i5 x6 h_2 ⟨sl, ob, n⟩ y1 hx2 hI3 hW4 h hy1
    simp only [go_sem, seval, str_len] at hI3
    obtain ⟨⟨g5_0, g5_3, g5_4⟩, hn⟩ := hI3
    subst hn
    have hlhx2 := WF.slotL hW4 g5_0 (j := 0) rfl
    have q6 := lt_t hx2
    have q7 := lt_p hx2
    have q8 := nat_in (lt_n hx2) hlhx2
    try simp only [go_sem, seval, *]
    refine ite_K h (fun c9 h => ?_) (fun c9 h => ?_) <;> try simp only [go_sem, seval, *]
    · refine ⟨_, [], [], (Option.some.inj h).symm, by decide, ?_⟩
      try simp only [go_sem, seval, *]
    · replace h := inr_K h hy1
      obtain rfl := Option.some.inj h
      try simp only [go_sem, seval, *]
  · rintro h_2 ⟨sl, ob, n⟩ hI10 hW11 h
    simp only [go_sem, seval, str_len] at hI10
    obtain ⟨⟨g12_0, g12_3, g12_4⟩, hn⟩ := hI10
    subst hn
    have q13 := lt_f (code_0.length)
    obtain rfl := Option.some.inj h
    try simp only [go_sem, seval, *]
theorem i_ascendingNodes_ok {l_0 : (List Int)} {nodes_1 : Int} {r : Bool} (h : i_ascendingNodes l_0 nodes_1 = some r) : Sound Try.prog J0 35 [(false, [.sl 3 1 (List.map eInt l_0)]), (false, [.int .i64 nodes_1])] [(false, [(false, .bool r)])] := by
  refine fnk Try.func35 rfl ?_
  unfold i_ascendingNodes at h
  simp only [fnS, f35, argSt, go_sem, seval]
  refine swp_for h (fun i _ st => IV [(0, .p false [.c (.sl 3 1 (List.map eInt l_0))]), (1, .p false [.c (.int .i64 nodes_1)]), (7, .p false [.c (.sl 3 1 (List.map eInt l_0))]), (8, .p false [.c (.int .i64 ((l_0.length : Nat) : Int))]), (9, .p false [.c (.int .i64 ((i : Nat) : Int))])] [] st) [] [] (by decide) ?_ ?_ ?_
  · simp only [go_sem, seval, *]
  · rintro i5 x6 ⟨⟩ ⟨sl, ob, n⟩ y1 hx2 hI3 hW4 h hy1
    simp only [go_sem, seval, str_len] at hI3
    obtain ⟨⟨g5_0, g5_1, g5_7, g5_8, g5_9⟩, hn⟩ := hI3
    subst hn
    have hlhx2 := WF.slotL hW4 g5_0 (j := 0) rfl
    have q6 := lt_t hx2
    have q7 := lt_p hx2
    have q8 := nat_in (lt_n hx2) hlhx2
    try simp only [go_sem, seval, *]
    refine ite_K h (fun c9 h => ?_) (fun c9 h => ?_) <;> try simp only [go_sem, seval, *]
    · replace h := inr_K h hy1
      obtain rfl := Option.some.inj h
      try simp only [go_sem, seval, *]
    · refine ite_K h (fun c10 h => ?_) (fun c10 h => ?_) <;> try simp only [go_sem, seval, *]
      · replace h := inr_K h hy1
        obtain rfl := Option.some.inj h
        try simp only [go_sem, seval, *]
      · refine ite_K h (fun c11 h => ?_) (fun c11 h => ?_) <;> try simp only [go_sem, seval, *]
        · obtain ⟨x7, a12, a13, e14, h⟩ := at_K h
          try simp only [go_sem, seval, *]
          refine ite_K h (fun c15 h => ?_) (fun c15 h => ?_) <;> try simp only [go_sem, seval, *]
          · replace h := inr_K h hy1
            obtain rfl := Option.some.inj h
            try simp only [go_sem, seval, *]
          · refine ⟨_, [], [], (Option.some.inj h).symm, by decide, ?_⟩
            try simp only [go_sem, seval, *]
        · refine ⟨_, [], [], (Option.some.inj h).symm, by decide, ?_⟩
          try simp only [go_sem, seval, *]
  · rintro ⟨⟩ ⟨sl, ob, n⟩ hI16 hW17 h
    simp only [go_sem, seval, str_len] at hI16
    obtain ⟨⟨g18_0, g18_1, g18_7, g18_8, g18_9⟩, hn⟩ := hI16
    subst hn
    have q19 := lt_f (l_0.length)
    obtain rfl := Option.some.inj h
    try simp only [go_sem, seval, *]
theorem i_copyInts_ok {l_0 : (List Int)} {r : (List Int)} (h : i_copyInts l_0 = some r) : Sound Try.prog J0 48 [(false, [.sl 3 1 (List.map eInt l_0)])] [(false, [(false, .sl 3 1 (List.map eInt r))])] := by
  refine fnk Try.func48 rfl ?_
  unfold i_copyInts at h
  simp only [fnS, f48, argSt, go_sem, seval]
  obtain ⟨p1, h⟩ := chk_K h
  try simp only [Nat.reduceLeDiff] at p1
  obtain rfl := Option.some.inj h
  try simp only [go_sem, seval, *]
theorem i_IsPremise_ok {r_0 : ReasonD} {r : Bool} (h : i_IsPremise r_0 = some r) : Sound Try.prog J0 37 [(true, eReason r_0)] [(false, [(false, .bool r)])] := by
  refine fnk Try.func37 rfl ?_
  unfold i_IsPremise at h
  simp only [fnS, f37, argSt, go_sem, seval]
  refine ite_K h (fun c1 h => ?_) (fun c1 h => ?_) <;> try simp only [go_sem, seval, *]
  · obtain rfl := Option.some.inj h
    try simp only [go_sem, seval, *]
  · obtain rfl := Option.some.inj h
    try simp only [go_sem, seval, *]
theorem i_strata_ok {append_0 : BeliefsD} {r : (List Int)} (h : i_strata append_0 = some r) : Sound Try.prog J0 61 [(true, eBeliefs append_0)] [(false, [(false, .sl 3 1 (List.map eInt r))])] := by
  refine fnk Try.func61 rfl ?_
  unfold i_strata at h
  simp only [fnS, f61, argSt, go_sem, seval]
  obtain ⟨p1, h⟩ := chk_K h
  try simp only [go_sem, seval, *]
  refine swp_iter h (fun s st => match s with | (row_92, u_93) => IV [(1, .bp 0 0), (3, .p false [.row 1]), (4, .p false [.c (.bool u_93)])] [.box 26 [.c (.int .i64 append_0.nodes), .c (.sl 47 3 (List.map eReason append_0.reasons))], .row 3 1 (List.map eInt row_92) 2] st) [] [0, 64] (by decide) ?_ ?_
  · simp only [go_sem, seval, *]
  · rintro ⟨row_92, u_93⟩ ⟨sl, ob, n⟩ y2 hI3 hW4 h hy2
    simp only [go_sem, seval, str_len] at hI3
    obtain ⟨⟨g5_1, g5_3, g5_4⟩, og5_0, og5_1, hn⟩ := hI3
    subst hn
    try simp only [go_sem, seval, *]
    refine ite_K h (fun c6 h => ?_) (fun c6 h => ?_) <;> try simp only [go_sem, seval, *]
    · refine swp_for h (fun i s st => match s with | (row_123, u_125) => IV [(1, .bp 0 0), (3, .p false [.row 1]), (4, .p false [.c (.bool u_125)]), (17, .p false [.c (.sl 47 3 (List.map eReason append_0.reasons))]), (18, .p false [.c (.int .i64 ((append_0.reasons.length : Nat) : Int))]), (19, .p false [.c (.int .i64 ((i : Nat) : Int))])] [.box 26 [.c (.int .i64 append_0.nodes), .c (.sl 47 3 (List.map eReason append_0.reasons))], .row 3 1 (List.map eInt row_123) 2] st) [] [0, 1] (by decide) ?_ ?_ ?_
      · simp only [go_sem, seval, *]
      · rintro i155 x156 ⟨row_123, u_125⟩ ⟨sl, ob, n⟩ y7 hx8 hI9 hW10 h hy7
        simp only [go_sem, seval, str_len] at hI9
        obtain ⟨⟨g11_1, g11_3, g11_4, g11_17, g11_18, g11_19⟩, og11_0, og11_1, hn⟩ := hI9
        subst hn
        have hlhx8 := WF.slotL hW10 g11_17 (j := 0) rfl
        have q12 := lt_t hx8
        have q13 := lt_p hx8
        have q14 := nat_in (lt_n hx8) hlhx8
        obtain ⟨p15, h⟩ := chk_K h
        obtain ⟨x157, e16, h⟩ := bind_K h
        try simp only [go_sem, seval, *]
        refine swp_for h (fun i u_161 st => IV [(1, .bp 0 0), (3, .p false [.row 1]), (4, .p false [.c (.bool u_125)]), (6, .bp 2 0), (7, .p false [.c (.int .i64 u_161)]), (17, .p false [.c (.sl 47 3 (List.map eReason append_0.reasons))]), (18, .p false [.c (.int .i64 ((append_0.reasons.length : Nat) : Int))]), (19, .p false [.c (.int .i64 ((i155 : Nat) : Int))]), (29, .p false [.c (.sl 3 1 (List.map eInt x156.inn))]), (30, .p false [.c (.int .i64 ((x156.inn.length : Nat) : Int))]), (31, .p false [.c (.int .i64 ((i : Nat) : Int))])] [.box 26 [.c (.int .i64 append_0.nodes), .c (.sl 47 3 (List.map eReason append_0.reasons))], .row 3 1 (List.map eInt row_123) 2, .box 47 [.c (.int .i64 x156.for_), .c (.sl 3 1 (List.map eInt x156.inn)), .c (.sl 3 1 (List.map eInt x156.outs))]] st) [] [0, 1, 50] (by decide) ?_ ?_ ?_
        · simp only [go_sem, seval, *]
        · rintro i173 x174 u_161 ⟨sl, ob, n⟩ y17 hx18 hI19 hW20 h hy17
          simp only [go_sem, seval, str_len] at hI19
          obtain ⟨⟨g21_1, g21_3, g21_4, g21_6, g21_7, g21_17, g21_18, g21_19, g21_29, g21_30, g21_31⟩, og21_0, og21_1, og21_2, hn⟩ := hI19
          subst hn
          have hlhx18 := WF.slotL hW20 g21_29 (j := 0) rfl
          have q22 := lt_t hx18
          have q23 := lt_p hx18
          have q24 := nat_in (lt_n hx18) hlhx18
          obtain ⟨p25, h⟩ := chk_K h
          obtain ⟨x175, e26, h⟩ := bind_K h
          try simp only [go_sem, seval, *]
          refine ⟨_, [], [0, 1, 2], (Option.some.inj h).symm, by decide, ?_⟩
          try simp only [go_sem, seval, *]
        · rintro u_161 ⟨sl, ob, n⟩ hI27 hW28 h
          simp only [go_sem, seval, str_len] at hI27
          obtain ⟨⟨g29_1, g29_3, g29_4, g29_6, g29_7, g29_17, g29_18, g29_19, g29_29, g29_30, g29_31⟩, og29_0, og29_1, og29_2, hn⟩ := hI27
          subst hn
          have q30 := lt_f (x156.inn.length)
          try simp only [go_sem, seval, *]
          refine swp_for h (fun i u_179 st => IV [(1, .bp 0 0), (3, .p false [.row 1]), (4, .p false [.c (.bool u_125)]), (6, .bp 2 0), (7, .p false [.c (.int .i64 u_179)]), (17, .p false [.c (.sl 47 3 (List.map eReason append_0.reasons))]), (18, .p false [.c (.int .i64 ((append_0.reasons.length : Nat) : Int))]), (19, .p false [.c (.int .i64 ((i155 : Nat) : Int))]), (43, .p false [.c (.sl 3 1 (List.map eInt x156.outs))]), (44, .p false [.c (.int .i64 ((x156.outs.length : Nat) : Int))]), (45, .p false [.c (.int .i64 ((i : Nat) : Int))])] [.box 26 [.c (.int .i64 append_0.nodes), .c (.sl 47 3 (List.map eReason append_0.reasons))], .row 3 1 (List.map eInt row_123) 2, .box 47 [.c (.int .i64 x156.for_), .c (.sl 3 1 (List.map eInt x156.inn)), .c (.sl 3 1 (List.map eInt x156.outs))]] st) [] [0, 1, 2] (by decide) ?_ ?_ ?_
          · simp only [go_sem, seval, *]
          · rintro i182 x183 u_179 ⟨sl, ob, n⟩ y31 hx32 hI33 hW34 h hy31
            simp only [go_sem, seval, str_len] at hI33
            obtain ⟨⟨g35_1, g35_3, g35_4, g35_6, g35_7, g35_17, g35_18, g35_19, g35_43, g35_44, g35_45⟩, og35_0, og35_1, og35_2, hn⟩ := hI33
            subst hn
            have hlhx32 := WF.slotL hW34 g35_43 (j := 0) rfl
            have q36 := lt_t hx32
            have q37 := lt_p hx32
            have q38 := nat_in (lt_n hx32) hlhx32
            obtain ⟨p39, h⟩ := chk_K h
            obtain ⟨x184, e40, h⟩ := bind_K h
            try simp only [go_sem, seval, *]
            refine ⟨_, [], [0, 1, 2], (Option.some.inj h).symm, by decide, ?_⟩
            try simp only [go_sem, seval, *]
          · rintro u_179 ⟨sl, ob, n⟩ hI41 hW42 h
            simp only [go_sem, seval, str_len] at hI41
            obtain ⟨⟨g43_1, g43_3, g43_4, g43_6, g43_7, g43_17, g43_18, g43_19, g43_43, g43_44, g43_45⟩, og43_0, og43_1, og43_2, hn⟩ := hI41
            subst hn
            have q44 := lt_f (x156.outs.length)
            try simp only [go_sem, seval, *]
            refine ite_K h (fun c45 h => ?_) (fun c45 h => ?_) <;> try simp only [go_sem, seval, *]
            · refine ⟨_, [], [0, 1], (Option.some.inj h).symm, by decide, ?_⟩
              try simp only [go_sem, seval, *]
            · refine ⟨_, [], [0, 1], (Option.some.inj h).symm, by decide, ?_⟩
              try simp only [go_sem, seval, *]
      · rintro ⟨row_123, u_125⟩ ⟨sl, ob, n⟩ hI46 hW47 h
        simp only [go_sem, seval, str_len] at hI46
        obtain ⟨⟨g48_1, g48_3, g48_4, g48_17, g48_18, g48_19⟩, og48_0, og48_1, hn⟩ := hI46
        subst hn
        have q49 := lt_f (append_0.reasons.length)
        try simp only [go_sem, seval, *]
        refine ⟨_, [], [0, 1], (Option.some.inj h).symm, by decide, ?_⟩
        try simp only [go_sem, seval, *]
    · replace h := inr_K h hy2
      obtain rfl := Option.some.inj h
      try simp only [go_sem, seval, *]
theorem i_supported_ok {r_0 : ReasonD} {rounds_1 : (List Int)} {before_2 : Int} {r : Bool} (h : i_supported r_0 rounds_1 before_2 = some r) : Sound Try.prog J0 62 [(true, eReason r_0), (false, [.sl 3 1 (List.map eInt rounds_1)]), (false, [.int .i64 before_2])] [(false, [(false, .bool r)])] := by
  refine fnk Try.func62 rfl ?_
  unfold i_supported at h
  simp only [fnS, f62, argSt, go_sem, seval]
  refine swp_for h (fun i _ st => IV [(1, .p false [.c (.sl 3 1 (List.map eInt rounds_1))]), (2, .p false [.c (.int .i64 before_2)]), (3, .bp 0 0), (12, .p false [.c (.sl 3 1 (List.map eInt r_0.inn))]), (13, .p false [.c (.int .i64 ((r_0.inn.length : Nat) : Int))]), (14, .p false [.c (.int .i64 ((i : Nat) : Int))])] [.box 47 [.c (.int .i64 r_0.for_), .c (.sl 3 1 (List.map eInt r_0.inn)), .c (.sl 3 1 (List.map eInt r_0.outs))]] st) [] [0] (by decide) ?_ ?_ ?_
  · simp only [go_sem, seval, *]
  · rintro i14 x15 ⟨⟩ ⟨sl, ob, n⟩ y1 hx2 hI3 hW4 h hy1
    simp only [go_sem, seval, str_len] at hI3
    obtain ⟨⟨g5_1, g5_2, g5_3, g5_12, g5_13, g5_14⟩, og5_0, hn⟩ := hI3
    subst hn
    have hlhx2 := WF.slotL hW4 g5_12 (j := 0) rfl
    have q6 := lt_t hx2
    have q7 := lt_p hx2
    have q8 := nat_in (lt_n hx2) hlhx2
    obtain ⟨x16, a9, a10, e11, h⟩ := at_K h
    try simp only [go_sem, seval, *]
    refine ite_K h (fun c12 h => ?_) (fun c12 h => ?_) <;> try simp only [go_sem, seval, *]
    · replace h := inr_K h hy1
      obtain rfl := Option.some.inj h
      try simp only [go_sem, seval, *]
    · refine ite_K h (fun c13 h => ?_) (fun c13 h => ?_) <;> try simp only [go_sem, seval, *]
      · replace h := inr_K h hy1
        obtain rfl := Option.some.inj h
        try simp only [go_sem, seval, *]
      · refine ⟨_, [], [0], (Option.some.inj h).symm, by decide, ?_⟩
        try simp only [go_sem, seval, *]
  · rintro ⟨⟩ ⟨sl, ob, n⟩ hI14 hW15 h
    simp only [go_sem, seval, str_len] at hI14
    obtain ⟨⟨g16_1, g16_2, g16_3, g16_12, g16_13, g16_14⟩, og16_0, hn⟩ := hI14
    subst hn
    have q17 := lt_f (r_0.inn.length)
    try simp only [go_sem, seval, *]
    refine swp_for h (fun i _ st => IV [(1, .p false [.c (.sl 3 1 (List.map eInt rounds_1))]), (33, .p false [.c (.sl 3 1 (List.map eInt r_0.outs))]), (34, .p false [.c (.int .i64 ((r_0.outs.length : Nat) : Int))]), (35, .p false [.c (.int .i64 ((i : Nat) : Int))])] [] st) [] [] (by decide) ?_ ?_ ?_
    · simp only [go_sem, seval, *]
    · rintro i22 x23 ⟨⟩ ⟨sl, ob, n⟩ y18 hx19 hI20 hW21 h hy18
      simp only [go_sem, seval, str_len] at hI20
      obtain ⟨⟨g22_1, g22_33, g22_34, g22_35⟩, hn⟩ := hI20
      subst hn
      have hlhx19 := WF.slotL hW21 g22_33 (j := 0) rfl
      have q23 := lt_t hx19
      have q24 := lt_p hx19
      have q25 := nat_in (lt_n hx19) hlhx19
      obtain ⟨x24, a26, a27, e28, h⟩ := at_K h
      try simp only [go_sem, seval, *]
      refine ite_K h (fun c29 h => ?_) (fun c29 h => ?_) <;> try simp only [go_sem, seval, *]
      · replace h := inr_K h hy18
        obtain rfl := Option.some.inj h
        try simp only [go_sem, seval, *]
      · refine ⟨_, [], [], (Option.some.inj h).symm, by decide, ?_⟩
        try simp only [go_sem, seval, *]
    · rintro ⟨⟩ ⟨sl, ob, n⟩ hI30 hW31 h
      simp only [go_sem, seval, str_len] at hI30
      obtain ⟨⟨g32_1, g32_33, g32_34, g32_35⟩, hn⟩ := hI30
      subst hn
      have q33 := lt_f (r_0.outs.length)
      obtain rfl := Option.some.inj h
      try simp only [go_sem, seval, *]
theorem i_hasInt_ok {l_0 : (List Int)} {n_1 : Int} {r : Bool} (h : i_hasInt l_0 n_1 = some r) : Sound Try.prog J0 38 [(false, [.sl 3 1 (List.map eInt l_0)]), (false, [.int .i64 n_1])] [(false, [(false, .bool r)])] := by
  refine fnk Try.func38 rfl ?_
  unfold i_hasInt at h
  simp only [fnS, f38, argSt, go_sem, seval]
  refine swp_for h (fun i _ st => IV [(1, .p false [.c (.int .i64 n_1)]), (7, .p false [.c (.sl 3 1 (List.map eInt l_0))]), (8, .p false [.c (.int .i64 ((l_0.length : Nat) : Int))]), (9, .p false [.c (.int .i64 ((i : Nat) : Int))])] [] st) [] [] (by decide) ?_ ?_ ?_
  · simp only [go_sem, seval, *]
  · rintro i4 x5 ⟨⟩ ⟨sl, ob, n⟩ y1 hx2 hI3 hW4 h hy1
    simp only [go_sem, seval, str_len] at hI3
    obtain ⟨⟨g5_1, g5_7, g5_8, g5_9⟩, hn⟩ := hI3
    subst hn
    have hlhx2 := WF.slotL hW4 g5_7 (j := 0) rfl
    have q6 := lt_t hx2
    have q7 := lt_p hx2
    have q8 := nat_in (lt_n hx2) hlhx2
    try simp only [go_sem, seval, *]
    refine ite_K h (fun c9 h => ?_) (fun c9 h => ?_) <;> try simp only [go_sem, seval, *]
    · replace h := inr_K h hy1
      obtain rfl := Option.some.inj h
      try simp only [go_sem, seval, *]
    · refine ⟨_, [], [], (Option.some.inj h).symm, by decide, ?_⟩
      try simp only [go_sem, seval, *]
  · rintro ⟨⟩ ⟨sl, ob, n⟩ hI10 hW11 h
    simp only [go_sem, seval, str_len] at hI10
    obtain ⟨⟨g12_1, g12_7, g12_8, g12_9⟩, hn⟩ := hI10
    subst hn
    have q13 := lt_f (l_0.length)
    obtain rfl := Option.some.inj h
    try simp only [go_sem, seval, *]
theorem i_chosen_ok {l_0 : (List Int)} {set_1 : Int} {r : (List Int)} (h : i_chosen l_0 set_1 = some r) : Sound Try.prog J0 20 [(false, [.sl 3 1 (List.map eInt l_0)]), (false, [.int .i64 set_1])] [(false, [(false, .sl 3 1 (List.map eInt r))])] := by
  refine fnk Try.func20 rfl ?_
  unfold i_chosen at h
  have kn0 : ¬ ((0 : Int) < 0) := by decide
  simp only [fnS, f20, argSt, go_sem, seval, kn0]
  refine swp_for h (fun i row_3 st => IV [(1, .p false [.c (.int .i64 set_1)]), (5, .p false [.row 0]), (8, .p false [.c (.sl 3 1 (List.map eInt l_0))]), (9, .p false [.c (.int .i64 ((l_0.length : Nat) : Int))]), (10, .p false [.c (.int .i64 ((i : Nat) : Int))])] [.row 3 1 (List.map eInt row_3) 2] st) [(false, 5, 0)] [80] (by decide) ?_ ?_ ?_
  · simp only [go_sem, seval, *]
  · rintro i6 x7 row_3 ⟨sl, ob, n⟩ y1 hx2 hI3 hW4 h hy1
    simp only [go_sem, seval, str_len] at hI3
    obtain ⟨⟨g5_1, g5_5, g5_8, g5_9, g5_10⟩, og5_0, hn⟩ := hI3
    subst hn
    have hlhx2 := WF.slotL hW4 g5_8 (j := 0) rfl
    have q6 := lt_t hx2
    have q7 := lt_p hx2
    have q8 := nat_in (lt_n hx2) hlhx2
    obtain ⟨p9, h⟩ := chk_K h
    try simp only [go_sem, seval, *]
    refine ite_K h (fun c10 h => ?_) (fun c10 h => ?_) <;> try simp only [go_sem, seval, *]
    · obtain ⟨p11, h⟩ := chk_K h
      try simp only [Nat.reduceLeDiff] at p11
      try simp only [go_sem, seval, *]
      refine ⟨_, [], [225], (Option.some.inj h).symm, by decide, ?_⟩
      try simp only [go_sem, seval, *]
    · refine ⟨_, [], [0], (Option.some.inj h).symm, by decide, ?_⟩
      try simp only [go_sem, seval, *]
  · rintro row_3 ⟨sl, ob, n⟩ hI12 hW13 h
    simp only [go_sem, seval, str_len] at hI12
    obtain ⟨⟨g14_1, g14_5, g14_8, g14_9, g14_10⟩, og14_0, hn⟩ := hI12
    subst hn
    have q15 := lt_f (l_0.length)
    obtain rfl := Option.some.inj h
    try simp only [go_sem, seval, *]
theorem i_IsPart_ok {a_0 : Int} {b_1 : Int} {r : Bool} (h : i_IsPart a_0 b_1 = some r) : Sound Try.prog J0 43 [(false, [.int .i64 a_0]), (false, [.int .i64 b_1])] [(false, [(false, .bool r)])] := by
  refine fnk Try.func43 rfl ?_
  unfold i_IsPart at h
  simp only [fnS, f43, argSt, go_sem, seval]
  refine ite_K h (fun c1 h => ?_) (fun c1 h => ?_) <;> try simp only [go_sem, seval, *]
  · refine ite_K h (fun c2 h => ?_) (fun c2 h => ?_) <;> try simp only [go_sem, seval, *]
    · obtain rfl := Option.some.inj h
      try simp only [go_sem, seval, *]
    · obtain rfl := Option.some.inj h
      try simp only [go_sem, seval, *]
  · obtain rfl := Option.some.inj h
    try simp only [go_sem, seval, *]
theorem i_setsWith_ok {f_0 : FrameD} {keep_1 : (Int → Option Bool)} {kkeep_1 : Nat} {ckeep_1 : List CT} (hkeep_1 : (SC Try.prog J0 JF0 hds).hd kkeep_1 = 0) (skeep_1 : ∀ {x0} {r : Bool}, keep_1 x0 = some r → Sound Try.prog J0 kkeep_1 ([(false, [.int .i64 x0])] ++ ckeep_1.map fun c => (false, [c])) [(false, [(false, .bool r)])]) {r : (List Int)} (h : i_setsWith f_0 keep_1 = some r) : Sound Try.prog J0 24 [(true, eFrame f_0), (false, [.fn kkeep_1 ckeep_1])] [(false, [(false, .sl 3 1 (List.map eInt r))])] := by
  refine fnk Try.func24 rfl ?_
  unfold i_setsWith at h
  simp only [fnS, f24, argSt, go_sem, seval, hkeep_1]
  obtain ⟨p1, h⟩ := chk_K h
  try simp only [go_sem, seval, *]
  refine swp_iter h (fun s st => match s with | (row_3, u_4) => IV [(1, .p false [.c (.fn kkeep_1 ckeep_1)]), (5, .p false [.row 0]), (10, .p false [.c (.int .i64 (shlI .i64 1 ((f_0.assumed.length : Nat) : Int)))]), (11, .p false [.c (.int .i64 u_4)])] [.row 3 1 (List.map eInt row_3) 2] st) [(false, 5, 0)] [128] (by decide) ?_ ?_
  · simp only [go_sem, seval, *]
  · rintro ⟨row_3, u_4⟩ ⟨sl, ob, n⟩ y2 hI3 hW4 h hy2
    simp only [go_sem, seval, str_len] at hI3
    obtain ⟨⟨g5_1, g5_5, g5_10, g5_11⟩, og5_0, hn⟩ := hI3
    subst hn
    try simp only [go_sem, seval, *]
    refine ite_K h (fun c6 h => ?_) (fun c6 h => ?_) <;> try simp only [go_sem, seval, *]
    · obtain ⟨v5, e7, h⟩ := bind_K h
      refine call_K (by have hh := skeep_1 e7; first | exact hh | (simp only [go_sem, *] at hh; exact hh)) ?_
      try simp only [go_sem, seval, *]
      refine ite_K h (fun c8 h => ?_) (fun c8 h => ?_) <;> try simp only [go_sem, seval, *]
      · obtain ⟨p9, h⟩ := chk_K h
        try simp only [Nat.reduceLeDiff] at p9
        try simp only [go_sem, seval, *]
        refine ⟨_, [], [145], (Option.some.inj h).symm, by decide, ?_⟩
        try simp only [go_sem, seval, *]
      · refine ⟨_, [], [0], (Option.some.inj h).symm, by decide, ?_⟩
        try simp only [go_sem, seval, *]
    · replace h := inr_K h hy2
      obtain rfl := Option.some.inj h
      try simp only [go_sem, seval, *]
theorem i_noneIn_ok {l_0 : (List Int)} {a_1 : (List Bool)} {r : Bool} (h : i_noneIn l_0 a_1 = some r) : Sound Try.prog J0 26 [(false, [.sl 3 1 (List.map eInt l_0)]), (false, [.sl 4 1 (List.map eBool a_1)])] [(false, [(false, .bool r)])] := by
  refine fnk Try.func26 rfl ?_
  unfold i_noneIn at h
  simp only [fnS, f26, argSt, go_sem, seval]
  refine swp_for h (fun i _ st => IV [(1, .p false [.c (.sl 4 1 (List.map eBool a_1))]), (7, .p false [.c (.sl 3 1 (List.map eInt l_0))]), (8, .p false [.c (.int .i64 ((l_0.length : Nat) : Int))]), (9, .p false [.c (.int .i64 ((i : Nat) : Int))])] [] st) [] [] (by decide) ?_ ?_ ?_
  · simp only [go_sem, seval, *]
  · rintro i6 x7 ⟨⟩ ⟨sl, ob, n⟩ y1 hx2 hI3 hW4 h hy1
    simp only [go_sem, seval, str_len] at hI3
    obtain ⟨⟨g5_1, g5_7, g5_8, g5_9⟩, hn⟩ := hI3
    subst hn
    have hlhx2 := WF.slotL hW4 g5_7 (j := 0) rfl
    have q6 := lt_t hx2
    have q7 := lt_p hx2
    have q8 := nat_in (lt_n hx2) hlhx2
    obtain ⟨x8, a9, a10, e11, h⟩ := at_K h
    try simp only [go_sem, seval, *]
    refine ite_K h (fun c12 h => ?_) (fun c12 h => ?_) <;> try simp only [go_sem, seval, *]
    · replace h := inr_K h hy1
      obtain rfl := Option.some.inj h
      try simp only [go_sem, seval, *]
    · refine ⟨_, [], [], (Option.some.inj h).symm, by decide, ?_⟩
      try simp only [go_sem, seval, *]
  · rintro ⟨⟩ ⟨sl, ob, n⟩ hI13 hW14 h
    simp only [go_sem, seval, str_len] at hI13
    obtain ⟨⟨g15_1, g15_7, g15_8, g15_9⟩, hn⟩ := hI13
    subst hn
    have q16 := lt_f (l_0.length)
    obtain rfl := Option.some.inj h
    try simp only [go_sem, seval, *]
theorem w_hasInt_ok {l_0 : (List Int)} {x_1 : Int} {r : Bool} (h : w_hasInt l_0 x_1 = some r) : Sound Try.prog J0 10 [(false, [.sl 3 1 (List.map eInt l_0)]), (false, [.int .i64 x_1])] [(false, [(false, .bool r)])] := by
  refine fnk Try.func10 rfl ?_
  unfold w_hasInt at h
  simp only [fnS, f10, argSt, go_sem, seval]
  refine swp_for h (fun i _ st => IV [(0, .p false [.c (.sl 3 1 (List.map eInt l_0))]), (1, .p false [.c (.int .i64 x_1)]), (5, .p false [.c (.int .i64 ((i : Nat) : Int))])] [] st) [] [] (by decide) ?_ ?_ ?_
  · simp only [go_sem, seval, *]
  · rintro i4 x5 ⟨⟩ ⟨sl, ob, n⟩ y1 hx2 hI3 hW4 h hy1
    simp only [go_sem, seval, str_len] at hI3
    obtain ⟨⟨g5_0, g5_1, g5_5⟩, hn⟩ := hI3
    subst hn
    have hlhx2 := WF.slotL hW4 g5_0 (j := 0) rfl
    have q6 := lt_t hx2
    have q7 := lt_p hx2
    have q8 := nat_in (lt_n hx2) hlhx2
    try simp only [go_sem, seval, *]
    refine ite_K h (fun c9 h => ?_) (fun c9 h => ?_) <;> try simp only [go_sem, seval, *]
    · replace h := inr_K h hy1
      obtain rfl := Option.some.inj h
      try simp only [go_sem, seval, *]
    · refine ⟨_, [], [], (Option.some.inj h).symm, by decide, ?_⟩
      try simp only [go_sem, seval, *]
  · rintro ⟨⟩ ⟨sl, ob, n⟩ hI10 hW11 h
    simp only [go_sem, seval, str_len] at hI10
    obtain ⟨⟨g12_0, g12_1, g12_5⟩, hn⟩ := hI10
    subst hn
    have q13 := lt_f (l_0.length)
    obtain rfl := Option.some.inj h
    try simp only [go_sem, seval, *]
theorem i_isSet_ok {f_0 : FrameD} {set_1 : Int} {r : Bool} (h : i_isSet f_0 set_1 = some r) : Sound Try.prog J0 30 [(true, eFrame f_0), (false, [.int .i64 set_1])] [(false, [(false, .bool r)])] := by
  refine fnk Try.func30 rfl ?_
  unfold i_isSet at h
  simp only [fnS, f30, argSt, go_sem, seval]
  refine ite_K h (fun c1 h => ?_) (fun c1 h => ?_) <;> try simp only [go_sem, seval, *]
  · obtain ⟨p2, h⟩ := chk_K h
    obtain rfl := Option.some.inj h
    try simp only [go_sem, seval, *]
  · obtain rfl := Option.some.inj h
    try simp only [go_sem, seval, *]
end
end Go.Proofs.Ytnacpkmpdlodoaa
namespace Go.Proofs
open Go.Shelf
def Try.lays191_ren : Go.Shelf.Ren := ⟨fun | 191 => 44 | 189 => 60 | 125 => 66 | 257 => 65 | 128 => 77 | 129 => 78 | 294 => 68 | 295 => 69 | 296 => 70 | 297 => 71 | 298 => 72 | 299 => 73 | 216 => 74 | 300 => 75 | 301 => 76 | 328 => 79 | 329 => 80 | 330 => 81 | 331 => 82 | 332 => 83 | 215 => 84 | 343 => 85 | n => n, fun | 28 => 27 | 0 => 0 | 3 => 3 | 46 => 90 | 51 => 102 | 53 => 104 | 4 => 4 | 183 => 95 | 182 => 94 | 131 => 99 | 5 => 5 | 9 => 9 | 218 => 105 | 222 => 109 | 228 => 111 | 229 => 112 | n => n, fun | n => n⟩
theorem Try.lays191 : Go.Proofs.Lays.n191 Try.prog Try.lays191_ren := {
  mixed := by kernel_rfl
  f125 := Try.func66.trans (congrArg some (by kernel_rfl))
  f128 := Try.func77.trans (congrArg some (by kernel_rfl))
  f129 := Try.func78.trans (congrArg some (by kernel_rfl))
  f189 := Try.func60.trans (congrArg some (by kernel_rfl))
  f191 := Try.func44.trans (congrArg some (by kernel_rfl))
  f215 := Try.func84.trans (congrArg some (by kernel_rfl))
  f216 := Try.func74.trans (congrArg some (by kernel_rfl))
  f257 := Try.func65.trans (congrArg some (by kernel_rfl))
  f294 := Try.func68.trans (congrArg some (by kernel_rfl))
  f295 := Try.func69.trans (congrArg some (by kernel_rfl))
  f296 := Try.func70.trans (congrArg some (by kernel_rfl))
  f297 := Try.func71.trans (congrArg some (by kernel_rfl))
  f298 := Try.func72.trans (congrArg some (by kernel_rfl))
  f299 := Try.func73.trans (congrArg some (by kernel_rfl))
  f300 := Try.func75.trans (congrArg some (by kernel_rfl))
  f301 := Try.func76.trans (congrArg some (by kernel_rfl))
  f328 := Try.func79.trans (congrArg some (by kernel_rfl))
  f329 := Try.func80.trans (congrArg some (by kernel_rfl))
  f330 := Try.func81.trans (congrArg some (by kernel_rfl))
  f331 := Try.func82.trans (congrArg some (by kernel_rfl))
  f332 := Try.func83.trans (congrArg some (by kernel_rfl))
  f343 := Try.func85.trans (congrArg some (by kernel_rfl))
  t0 := Try.underlying0
  a0 := Try.isAgg0
  z0 := Try.sizeOf0
  v0 := Try.zeroValue0
  t3 := Try.underlying3
  a3 := Try.isAgg3
  z3 := Try.sizeOf3
  v3 := Try.zeroValue3
  t4 := Try.underlying4
  a4 := Try.isAgg4
  z4 := Try.sizeOf4
  v4 := Try.zeroValue4
  t5 := Try.underlying5
  a5 := Try.isAgg5
  z5 := Try.sizeOf5
  v5 := Try.zeroValue5
  t9 := Try.underlying9
  a9 := Try.isAgg9
  z9 := Try.sizeOf9
  v9 := Try.zeroValue9
  t28 := Try.underlying27
  a28 := Try.isAgg27
  z28 := Try.sizeOf27
  v28 := Try.zeroValue27
  t46 := Try.underlying90
  a46 := Try.isAgg90
  z46 := Try.sizeOf90
  v46 := Try.zeroValue90
  t51 := Try.underlying102
  a51 := Try.isAgg102
  z51 := Try.sizeOf102
  v51 := Try.zeroValue102
  t53 := Try.underlying104
  a53 := Try.isAgg104
  z53 := Try.sizeOf104
  v53 := Try.zeroValue104
  t131 := Try.underlying99
  a131 := Try.isAgg99
  z131 := Try.sizeOf99
  v131 := Try.zeroValue99
  t182 := Try.underlying94
  a182 := Try.isAgg94
  z182 := Try.sizeOf94
  v182 := Try.zeroValue94
  t183 := Try.underlying95
  a183 := Try.isAgg95
  z183 := Try.sizeOf95
  v183 := Try.zeroValue95
  t218 := Try.underlying105
  a218 := Try.isAgg105
  z218 := Try.sizeOf105
  v218 := Try.zeroValue105
  t222 := Try.underlying109
  a222 := Try.isAgg109
  z222 := Try.sizeOf109
  v222 := Try.zeroValue109
  t228 := Try.underlying111
  a228 := Try.isAgg111
  z228 := Try.sizeOf111
  v228 := Try.zeroValue111
  t229 := Try.underlying112
  a229 := Try.isAgg112
  z229 := Try.sizeOf112
  v229 := Try.zeroValue112 }
open Go.Sort Go.RowKit in
theorem Try.sort_Ints (blk off cap : Nat) (zs : List Int) (w : World) (hH : Holds (Value.int .i64) w blk off zs.toArray) (hblk : blk < w.heap.size) (hsz : zs.length < 4611686018427387904) :
    Calls Try.prog 44 #[.slice (some ⟨blk, off, none⟩) zs.length cap] w fun e w' =>
      e = .returned (.tuple #[]) ∧ ∃ n os, w' = grow (putRow (Value.int .i64) (Sort.ahead w n) blk off (zs.mergeSort fun x y => decide (x ≤ y)).toArray) os := Any.sort_Ints Try.lays191 blk off cap zs w hH hblk hsz
def Try.laysGt8_ren : Go.Shelf.Ren := ⟨fun | 8 => 21 | 13 => 39 | 14 => 40 | 16 => 42 | 15 => 41 | 29 => 58 | 30 => 59 | 42 => 64 | 49 => 67 | n => n, fun | 20 => 20 | 26 => 52 | 36 => 70 | 0 => 0 | 38 => 72 | 42 => 76 | 3 => 3 | 4 => 4 | 47 => 90 | 17 => 17 | 33 => 67 | 34 => 68 | 89 => 127 | 12 => 12 | 56 => 102 | 82 => 120 | 5 => 5 | 83 => 121 | 84 => 122 | 85 => 123 | 86 => 124 | 87 => 125 | n => n, fun | n => n⟩
theorem Try.laysGt8 : Go.Proofs.LaysGt.n8 Try.prog Try.laysGt8_ren := {
  mixed := by kernel_rfl
  f8 := Try.func21.trans (congrArg some (by kernel_rfl))
  f13 := Try.func39.trans (congrArg some (by kernel_rfl))
  f14 := Try.func40.trans (congrArg some (by kernel_rfl))
  f15 := Try.func41.trans (congrArg some (by kernel_rfl))
  f16 := Try.func42.trans (congrArg some (by kernel_rfl))
  f29 := Try.func58.trans (congrArg some (by kernel_rfl))
  f30 := Try.func59.trans (congrArg some (by kernel_rfl))
  f42 := Try.func64.trans (congrArg some (by kernel_rfl))
  f49 := Try.func67.trans (congrArg some (by kernel_rfl))
  t0 := Try.underlying0
  a0 := Try.isAgg0
  z0 := Try.sizeOf0
  v0 := Try.zeroValue0
  i0 := by kernel_rfl
  t3 := Try.underlying3
  a3 := Try.isAgg3
  z3 := Try.sizeOf3
  v3 := Try.zeroValue3
  i3 := by kernel_rfl
  t4 := Try.underlying4
  a4 := Try.isAgg4
  z4 := Try.sizeOf4
  v4 := Try.zeroValue4
  i4 := by kernel_rfl
  t5 := Try.underlying5
  a5 := Try.isAgg5
  z5 := Try.sizeOf5
  v5 := Try.zeroValue5
  i5 := by kernel_rfl
  t12 := Try.underlying12
  a12 := Try.isAgg12
  z12 := Try.sizeOf12
  v12 := Try.zeroValue12
  i12 := by kernel_rfl
  t17 := Try.underlying17
  a17 := Try.isAgg17
  z17 := Try.sizeOf17
  v17 := Try.zeroValue17
  i17 := by kernel_rfl
  t20 := Try.underlying20
  a20 := Try.isAgg20
  z20 := Try.sizeOf20
  v20 := Try.zeroValue20
  i20 := by kernel_rfl
  t26 := Try.underlying52
  a26 := Try.isAgg52
  z26 := Try.sizeOf52
  v26 := Try.zeroValue52
  i26 := by kernel_rfl
  t33 := Try.underlying67
  a33 := Try.isAgg67
  z33 := Try.sizeOf67
  v33 := Try.zeroValue67
  i33 := by kernel_rfl
  t34 := Try.underlying68
  a34 := Try.isAgg68
  z34 := Try.sizeOf68
  v34 := Try.zeroValue68
  i34 := by kernel_rfl
  t36 := Try.underlying70
  a36 := Try.isAgg70
  z36 := Try.sizeOf70
  v36 := Try.zeroValue70
  i36 := by kernel_rfl
  t38 := Try.underlying72
  a38 := Try.isAgg72
  z38 := Try.sizeOf72
  v38 := Try.zeroValue72
  i38 := by kernel_rfl
  t42 := Try.underlying76
  a42 := Try.isAgg76
  z42 := Try.sizeOf76
  v42 := Try.zeroValue76
  i42 := by kernel_rfl
  t47 := Try.underlying90
  a47 := Try.isAgg90
  z47 := Try.sizeOf90
  v47 := Try.zeroValue90
  i47 := by kernel_rfl
  t56 := Try.underlying102
  a56 := Try.isAgg102
  z56 := Try.sizeOf102
  v56 := Try.zeroValue102
  i56 := by kernel_rfl
  t82 := Try.underlying120
  a82 := Try.isAgg120
  z82 := Try.sizeOf120
  v82 := Try.zeroValue120
  i82 := by kernel_rfl
  t83 := Try.underlying121
  a83 := Try.isAgg121
  z83 := Try.sizeOf121
  v83 := Try.zeroValue121
  i83 := by kernel_rfl
  t84 := Try.underlying122
  a84 := Try.isAgg122
  z84 := Try.sizeOf122
  v84 := Try.zeroValue122
  i84 := by kernel_rfl
  t85 := Try.underlying123
  a85 := Try.isAgg123
  z85 := Try.sizeOf123
  v85 := Try.zeroValue123
  i85 := by kernel_rfl
  t86 := Try.underlying124
  a86 := Try.isAgg124
  z86 := Try.sizeOf124
  v86 := Try.zeroValue124
  i86 := by kernel_rfl
  t87 := Try.underlying125
  a87 := Try.isAgg125
  z87 := Try.sizeOf125
  v87 := Try.zeroValue125
  i87 := by kernel_rfl
  t89 := Try.underlying127
  a89 := Try.isAgg127
  z89 := Try.sizeOf127
  v89 := Try.zeroValue127
  i89 := by kernel_rfl }
open Go.RowKit Go.Sort in
/-- .. and plain. (LAID: no walk: one application.) -/
theorem Try.sort_Ints_none (p : Option Addr) (cap : Nat) (w : World) :
    Calls Try.prog 44 #[.slice p 0 cap] w fun e w' => e = .returned (.tuple #[]) ∧ w' = w := Any.sort_Ints_none Try.lays191 p cap w
end Go.Proofs

namespace Go.Proofs.Ytnacpkmpdlodoaa
section
open Go.RowKit Go.Sort
theorem sort_hand {α : Type} [Inhabited α] {P : Program} {J : World → Prop} {JF : Nat → Prop} (enc : α → Value) (el : α → List CT) (hel : ∀ (w : World) x v L, RCs w (el x) v L → v = [enc x]) (hmv : ∀ (w w' : World) x, RCs w (el x) [enc x] [] → RCs w' (el x) [enc x] []) (hflat : ∀ l : List α, flatEs (l.map el) = true) {f : FuncId} {e : TypeId} {zs d : List α} (hc : Callable P f) (hd : d.length = zs.length) (hsub : ∀ x ∈ d, x ∈ zs)
    (hN : ∀ p cap w, Calls P f #[.slice p 0 cap] w fun e w' => e = .returned (.tuple #[]) ∧ w' = w)
    (hC : ∀ blk off cap w, Holds enc w blk off zs.toArray → blk < w.heap.size → Calls P f #[.slice (some ⟨blk, off, none⟩) zs.length cap] w fun e w' => e = .returned (.tuple #[]) ∧ ∃ n os, w' = grow (putRow enc (Sort.ahead w n) blk off d.toArray) os) :
    SoundH P J JF f (.row e 1 (zs.map el)) [] [] (.row e 1 (d.map el)) := by
  refine ⟨hc, fun w z q v0 vs hj hqf hz hh ha => ?_⟩
  cases vs with
  | cons _ _ => exact ha.elim
  | nil =>
  obtain ⟨hfl, hm, hq, cs, hown, hre⟩ := hh
  have hcs : ∀ (l : List α) (cs : List Value) (L : List Nat), REs w 1 (l.map el) cs L → cs = l.map enc ∧ (L = [] → ∀ x ∈ l, RCs w (el x) [enc x] []) := by
    intro l
    induction l with
    | nil => intro cs L h; exact ⟨h.1, fun _ x mx => by simp at mx⟩
    | cons x l ih =>
      rintro cs L ⟨c1, c2, L1, L2, rfl, rfl, h3, h4⟩
      obtain ⟨i1, i2⟩ := ih _ _ h4
      have e1 := hel _ _ _ _ h3.1
      refine ⟨by rw [e1, i1]; rfl, fun hL y my => ?_⟩
      obtain ⟨l1, l2⟩ := List.append_eq_nil_iff.1 hL
      rcases List.mem_cons.1 my with rfl | my
      · rw [← e1, ← l1]; exact h3.1
      · exact i2 l2 y my
  obtain ⟨e1, e2⟩ := hcs zs cs [] hre
  have e2 := e2 rfl
  subst e1
  have hre' : ∀ (w' : World) (l : List α), (∀ x ∈ l, x ∈ zs) → REs w' 1 (l.map el) (l.map enc) [] := by
    intro w' l
    induction l with
    | nil => intro _; exact ⟨rfl, rfl⟩
    | cons x l ih => intro hl; exact ⟨[enc x], l.map enc, [], [], rfl, rfl, ⟨hmv w w' x (e2 x (hl x (by simp))), rfl⟩, ih fun y my => hl y (by simp [my])⟩
  have hzl : (zs.map el).length = zs.length := by simp
  rw [hzl] at hown
  have done : ∀ w' : World, w'.os = w.os → w'.tape = w.tape → w'.output = w.output → w.heap.size ≤ w'.heap.size → (∀ k, k < w.heap.size → ¬ q = some k → w'.heap[k]? = w.heap[k]?) → w'.ownsV 0 e 1 v0 d.length (d.map enc) → ∃ v n, Ending.returned (.tuple #[]) = .returned v ∧ ResR w' w.heap.size n [] v ∧ (∀ b, inQ z q b → n b) ∧ HandR w' n q (.row e 1 (d.map el)) v0 ∧ BelQ q w w' :=
    fun w' h1 h2 h3 h4 h5 h6 => ⟨_, inQ z q, rfl, ⟨[], [], ⟨rfl, rfl⟩, Own.nil _ _, rfl⟩, fun _ h => h, ⟨hflat d, by omega, hq, d.map enc, by simpa using h6, hre' w' d hsub⟩, ⟨h1, h2, h3, h4, h5⟩⟩
  rcases Nat.eq_zero_or_pos zs.length with h0 | h0
  · have hz0 : zs = [] := List.eq_nil_of_length_eq_zero h0
    have hd0 : d = [] := List.eq_nil_of_length_eq_zero (hd.trans h0)
    obtain ⟨A, cap, hv⟩ := own_val hown
    rw [h0] at hv
    subst hv
    refine (hN A cap w).mono ?_
    rintro e' w' ⟨rfl, rfl⟩
    exact done w' rfl rfl rfl (Nat.le_refl _) (fun _ _ _ => rfl) (by rw [hd0]; rw [hz0] at hown; exact hown)
  · rcases hown.2 with ⟨h', hl0⟩ | ⟨g, o, cap, cur, h', hb, hg, hnc, hcm, hcsz, htake⟩
    · omega
    · subst h'
      have hlt : g < w.heap.size := (Array.getElem?_eq_some_iff.1 hg).1
      have hcur : ∀ j, j < zs.length → cur[o + j]? = some (enc zs[j]!) := fun j hj => by
        have := congrArg (fun l => l[j]?) htake
        simp only [Nat.mul_one, List.getElem?_take, hj, if_true, List.getElem?_drop, Array.getElem?_toList, List.getElem?_map] at this
        rw [this]
        simp [List.getElem!_eq_getElem?_getD, hj]
      refine (hC g o cap w (fun j hj => ?_) hlt).mono ?_
      · have hj' : j < zs.length := by simpa using hj
        refine ⟨?_, by simp [World.frozen?, hg]⟩
        simp only [World.cell?, hg, Option.isSome_none, Bool.false_eq_true, if_false]
        rw [hcur j hj']
        simp [hj']
      · rintro e' w' ⟨rfl, n, os, rfl⟩
        have hh : (putRow enc (Sort.ahead w n) g o d.toArray).heap[g]? = some (.cells (putCells enc o d.toArray cur) e (0, 0)) := by
          simp only [putRow, mapBlock, heap_ahead, Array.getElem?_modify, if_true, hg, Option.map_some, onCells]
        refine done _ rfl rfl rfl (by simp) (fun k hk hqk => ?_) ⟨by simp, .inr ⟨g, o, cap, putCells enc o d.toArray cur, by rw [hd], by omega, ?_, by omega, hcm, by simpa [putCells] using hcsz, ?_⟩⟩
        · rw [heap_grow_old _ _ (by simpa using hk)]
          simp only [putRow, mapBlock, heap_ahead, Array.getElem?_modify]
          rw [if_neg (fun e => hqk (by rw [← hq]; simp [Value.ownBlock, e]))]
        · rw [heap_grow_old _ _ (by simpa using hlt)]; exact hh
        · apply List.ext_getElem?
          intro j
          simp only [Nat.mul_one, List.getElem?_take, List.getElem?_drop, List.getElem?_map, Array.getElem?_toList, putCells, Array.getElem?_mapIdx, List.size_toArray]
          by_cases hj : j < d.length
          · have hjc : o + j < cur.size := by omega
            simp [hj, hjc]
          · simp [hj]
end
section
open Go.RowKit Go.Sort
theorem sortInts_H {J : World → Prop} {JF : Nat → Prop} {l r : List Int} (h : x_sortInts l = some r) : SoundH Try.prog J JF 44 (.row 3 1 (l.map eInt)) [] [] (.row 3 1 (r.map eInt)) := by
  obtain ⟨h1, h2⟩ := chk_K h
  obtain rfl := Option.some.inj h2
  refine sort_hand (Value.int .i64) eInt (fun w x v L h => ?_) (fun w w' x h => h) eInt_flat ⟨Try.f44, Try.func44, by kernel_rfl, by kernel_rfl⟩ (by simp [sortZ]) (fun x hx => by simpa [sortZ] using hx) (fun p cap w => Try.sort_Ints_none p cap w) (fun blk off cap w hH hb => Try.sort_Ints blk off cap l w hH hb (by omega))
  obtain ⟨u, vs, L1, L2, rfl, rfl, q1, rfl, rfl⟩ := h
  rw [q1.1]
end
theorem x_sortInts_ok {l r : List Int} (h : x_sortInts l = some r) : SoundH Try.prog J0 JF0 44 (.row 3 1 (l.map eInt)) [] [] (.row 3 1 (r.map eInt)) := sortInts_H h
section
open Go.Proofs.Try
set_option linter.unusedSimpArgs false
set_option linter.unusedVariables false
set_option maxRecDepth 1000000
set_option maxHeartbeats 4000000
theorem s_l1Below_ok {c_0 : l1CurD} {n_1 : Int} {r : (Int × l1CurD)} (h : s_l1Below c_0 n_1 = some r) : SoundH Try.prog J0 JF0 47 (.box 64 (el1Cur c_0)) [(false, [.int .i64 n_1])] [(false, [(false, .int .i64 r.1)])] (.box 64 (el1Cur r.2)) := by
  refine fnh Try.func47 rfl ?_
  unfold s_l1Below at h
  simp only [fnH, f47, handSt, handSV, handOb, go_sem, seval]
  refine ite_K h (fun c1 h => ?_) (fun c1 h => ?_) <;> try simp only [go_sem, seval, *]
  · obtain rfl := Option.some.inj h
    try simp only [go_sem, seval, *]
  · refine ite_K h (fun c2 h => ?_) (fun c2 h => ?_) <;> try simp only [go_sem, seval, *]
    · obtain ⟨v1, e3, h⟩ := bind_K h
      refine hand_K (by have hh := s_l1Byte_ok e3; first | exact hh | (simp only [go_sem, *] at hh; exact hh)) ?_
      obtain ⟨p4, h⟩ := chk_K h
      obtain rfl := Option.some.inj h
      try simp only [go_sem, seval, *]
    · obtain ⟨v2, e5, h⟩ := bind_K h
      refine hand_K (by have hh := s_l1Byte_ok e5; first | exact hh | (simp only [go_sem, *] at hh; exact hh)) ?_
      try simp only [go_sem, seval, *]
      obtain ⟨v3, e6, h⟩ := bind_K h
      refine hand_K (by have hh := s_l1Byte_ok e6; first | exact hh | (simp only [go_sem, *] at hh; exact hh)) ?_
      try simp only [go_sem, seval, *]
      obtain ⟨v4, e7, h⟩ := bind_K h
      refine hand_K (by have hh := s_l1Byte_ok e7; first | exact hh | (simp only [go_sem, *] at hh; exact hh)) ?_
      obtain ⟨p8, h⟩ := chk_K h
      obtain rfl := Option.some.inj h
      try simp only [go_sem, seval, *]
theorem i_IsBeliefs_ok {b_0 : BeliefsD} {r : Bool} (h : i_IsBeliefs b_0 = some r) : Sound Try.prog J0 34 [(true, eBeliefs b_0)] [(false, [(false, .bool r)])] := by
  refine fnk Try.func34 rfl ?_
  unfold i_IsBeliefs at h
  simp only [fnS, f34, argSt, go_sem, seval]
  refine ite_K h (fun c1 h => ?_) (fun c1 h => ?_) <;> try simp only [go_sem, seval, *]
  · obtain rfl := Option.some.inj h
    try simp only [go_sem, seval, *]
  · refine ite_K h (fun c2 h => ?_) (fun c2 h => ?_) <;> try simp only [go_sem, seval, *]
    · obtain rfl := Option.some.inj h
      try simp only [go_sem, seval, *]
    · refine ite_K h (fun c3 h => ?_) (fun c3 h => ?_) <;> try simp only [go_sem, seval, *]
      · obtain rfl := Option.some.inj h
        try simp only [go_sem, seval, *]
      · refine swp_for h (fun i _ st => IV [(1, .bp 0 0), (20, .p false [.c (.sl 47 3 (List.map eReason b_0.reasons))]), (21, .p false [.c (.int .i64 ((b_0.reasons.length : Nat) : Int))]), (22, .p false [.c (.int .i64 ((i : Nat) : Int))])] [.box 26 [.c (.int .i64 b_0.nodes), .c (.sl 47 3 (List.map eReason b_0.reasons))]] st) [] [0] (by decide) ?_ ?_ ?_
        · simp only [go_sem, seval, *]
        · rintro i8 x9 ⟨⟩ ⟨sl, ob, n⟩ y4 hx5 hI6 hW7 h hy4
          simp only [go_sem, seval, str_len] at hI6
          obtain ⟨⟨g8_1, g8_20, g8_21, g8_22⟩, og8_0, hn⟩ := hI6
          subst hn
          have hlhx5 := WF.slotL hW7 g8_20 (j := 0) rfl
          have q9 := lt_t hx5
          have q10 := lt_p hx5
          have q11 := nat_in (lt_n hx5) hlhx5
          try simp only [go_sem, seval, *]
          refine ite_K h (fun c12 h => ?_) (fun c12 h => ?_) <;> try simp only [go_sem, seval, *]
          · replace h := inr_K h hy4
            obtain rfl := Option.some.inj h
            try simp only [go_sem, seval, *]
          · refine ite_K h (fun c13 h => ?_) (fun c13 h => ?_) <;> try simp only [go_sem, seval, *]
            · replace h := inr_K h hy4
              obtain rfl := Option.some.inj h
              try simp only [go_sem, seval, *]
            · obtain ⟨v10, e14, h⟩ := bind_K h
              refine call_K (by have hh := i_ascendingNodes_ok e14; first | exact hh | (simp only [go_sem, *] at hh; exact hh)) ?_
              try simp only [go_sem, seval, *]
              refine ite_K h (fun c15 h => ?_) (fun c15 h => ?_) <;> try simp only [go_sem, seval, *]
              · obtain ⟨v11, e16, h⟩ := bind_K h
                refine call_K (by have hh := i_ascendingNodes_ok e16; first | exact hh | (simp only [go_sem, *] at hh; exact hh)) ?_
                try simp only [go_sem, seval, *]
                refine ite_K h (fun c17 h => ?_) (fun c17 h => ?_) <;> try simp only [go_sem, seval, *]
                · refine ⟨_, [], [0], (Option.some.inj h).symm, by decide, ?_⟩
                  try simp only [go_sem, seval, *]
                · replace h := inr_K h hy4
                  obtain rfl := Option.some.inj h
                  try simp only [go_sem, seval, *]
              · replace h := inr_K h hy4
                obtain rfl := Option.some.inj h
                try simp only [go_sem, seval, *]
        · rintro ⟨⟩ ⟨sl, ob, n⟩ hI18 hW19 h
          simp only [go_sem, seval, str_len] at hI18
          obtain ⟨⟨g20_1, g20_20, g20_21, g20_22⟩, og20_0, hn⟩ := hI18
          subst hn
          have q21 := lt_f (b_0.reasons.length)
          obtain rfl := Option.some.inj h
          try simp only [go_sem, seval, *]
theorem i_copyReason_ok {r_0 : ReasonD} {r : ReasonD} (h : i_copyReason r_0 = some r) : Sound Try.prog J0 36 [(true, eReason r_0)] [(true, [(false, .int .i64 r.for_), (false, .sl 3 1 (List.map eInt r.inn)), (false, .sl 3 1 (List.map eInt r.outs))])] := by
  refine fnk Try.func36 rfl ?_
  unfold i_copyReason at h
  simp only [fnS, f36, argSt, go_sem, seval]
  obtain ⟨v1, e1, h⟩ := bind_K h
  refine call_K (by have hh := i_copyInts_ok e1; first | exact hh | (simp only [go_sem, *] at hh; exact hh)) ?_
  try simp only [go_sem, seval, *]
  obtain ⟨v2, e2, h⟩ := bind_K h
  refine call_K (by have hh := i_copyInts_ok e2; first | exact hh | (simp only [go_sem, *] at hh; exact hh)) ?_
  obtain rfl := Option.some.inj h
  try simp only [go_sem, seval, *]
theorem i_rounds_ok {append_0 : BeliefsD} {r : (List Int)} (h : i_rounds append_0 = some r) : Sound Try.prog J0 46 [(true, eBeliefs append_0)] [(false, [(false, .sl 3 1 (List.map eInt r))])] := by
  refine fnk Try.func46 rfl ?_
  unfold i_rounds at h
  simp only [fnS, f46, argSt, go_sem, seval]
  obtain ⟨v1, e1, h⟩ := bind_K h
  refine call_K (by have hh := i_strata_ok e1; first | exact hh | (simp only [go_sem, *] at hh; exact hh)) ?_
  obtain ⟨p2, h⟩ := chk_K h
  try simp only [go_sem, seval, *]
  refine swp_iter h (fun s st => match s with | (row_4, u_5, u_6) => IV [(1, .bp 0 0), (3, .p false [.row 1]), (4, .p false [.row 2]), (5, .p false [.c (.int .i64 u_6)]), (20, .p false [.c (.int .i64 ((Int.toNat append_0.nodes : Nat) : Int))]), (21, .p false [.c (.int .i64 u_5)])] [.box 26 [.c (.int .i64 append_0.nodes), .c (.sl 47 3 (List.map eReason append_0.reasons))], .row 3 1 (List.map eInt v1) 2, .row 3 1 (List.map eInt row_4) 2] st) [] [0, 48, 112] (by decide) ?_ ?_
  · simp only [go_sem, seval, *]
  · rintro ⟨row_4, u_5, u_6⟩ ⟨sl, ob, n⟩ y3 hI4 hW5 h hy3
    simp only [go_sem, seval, str_len] at hI4
    obtain ⟨⟨g6_1, g6_3, g6_4, g6_5, g6_20, g6_21⟩, og6_0, og6_1, og6_2, hn⟩ := hI4
    subst hn
    try simp only [go_sem, seval, *]
    refine ite_K h (fun c7 h => ?_) (fun c7 h => ?_) <;> try simp only [go_sem, seval, *]
    · obtain ⟨p8, h⟩ := chk_K h
      obtain ⟨x7, e9, h⟩ := bind_K h
      obtain ⟨p10, h⟩ := chk_K h
      obtain ⟨x8, e11, h⟩ := bind_K h
      try simp only [go_sem, seval, *]
      refine ⟨_, [], [0, 1, 2], (Option.some.inj h).symm, by decide, ?_⟩
      try simp only [go_sem, seval, *]
    · refine swp_iter h (fun s st => match s with | (row_84, u_85, u_46) => IV [(1, .bp 0 0), (3, .p false [.row 1]), (4, .p false [.row 2]), (5, .p false [.c (.int .i64 u_6)]), (7, .p false [.c (.int .i64 u_85)]), (8, .p false [.c (.int .i64 u_46)])] [.box 26 [.c (.int .i64 append_0.nodes), .c (.sl 47 3 (List.map eReason append_0.reasons))], .row 3 1 (List.map eInt v1) 2, .row 3 1 (List.map eInt row_84) 2] st) [] [0, 1, 2] (by decide) ?_ ?_
      · simp only [go_sem, seval, *]
      · rintro ⟨row_84, u_85, u_46⟩ ⟨sl, ob, n⟩ y12 hI13 hW14 h hy12
        simp only [go_sem, seval, str_len] at hI13
        obtain ⟨⟨g15_1, g15_3, g15_4, g15_5, g15_7, g15_8⟩, og15_0, og15_1, og15_2, hn⟩ := hI13
        subst hn
        try simp only [go_sem, seval, *]
        refine ite_K h (fun c16 h => ?_) (fun c16 h => ?_) <;> try simp only [go_sem, seval, *]
        · refine swp_for h (fun i row_94 st => IV [(1, .bp 0 0), (3, .p false [.row 1]), (4, .p false [.row 2]), (5, .p false [.c (.int .i64 u_6)]), (7, .p false [.c (.int .i64 u_85)]), (8, .p false [.c (.int .i64 u_46)]), (9, .p false [.row 3]), (38, .p false [.c (.sl 47 3 (List.map eReason append_0.reasons))]), (39, .p false [.c (.int .i64 ((append_0.reasons.length : Nat) : Int))]), (40, .p false [.c (.int .i64 ((i : Nat) : Int))])] [.box 26 [.c (.int .i64 append_0.nodes), .c (.sl 47 3 (List.map eReason append_0.reasons))], .row 3 1 (List.map eInt v1) 2, .row 3 1 (List.map eInt row_84) 2, .row 3 1 (List.map eInt row_94) 2] st) [(false, 9, 0)] [0, 1, 2, 131] (by decide) ?_ ?_ ?_
          · simp only [go_sem, seval, *]
          · rintro i109 x110 row_94 ⟨sl, ob, n⟩ y17 hx18 hI19 hW20 h hy17
            simp only [go_sem, seval, str_len] at hI19
            obtain ⟨⟨g21_1, g21_3, g21_4, g21_5, g21_7, g21_8, g21_9, g21_38, g21_39, g21_40⟩, og21_0, og21_1, og21_2, og21_3, hn⟩ := hI19
            subst hn
            have hlhx18 := WF.slotL hW20 g21_38 (j := 0) rfl
            have q22 := lt_t hx18
            have q23 := lt_p hx18
            have q24 := nat_in (lt_n hx18) hlhx18
            obtain ⟨p25, h⟩ := chk_K h
            obtain ⟨x111, e26, h⟩ := bind_K h
            try simp only [go_sem, seval, *]
            refine ite_K h (fun c27 h => ?_) (fun c27 h => ?_) <;> try simp only [go_sem, seval, *]
            · obtain ⟨p28, h⟩ := chk_K h
              obtain ⟨x112, e29, h⟩ := bind_K h
              try simp only [go_sem, seval, *]
              refine ite_K h (fun c30 h => ?_) (fun c30 h => ?_) <;> try simp only [go_sem, seval, *]
              · obtain ⟨v113, e31, h⟩ := bind_K h
                refine call_K (by have hh := i_supported_ok e31; first | exact hh | (simp only [go_sem, *] at hh; exact hh)) ?_
                try simp only [go_sem, seval, *]
                refine ite_K h (fun c32 h => ?_) (fun c32 h => ?_) <;> try simp only [go_sem, seval, *]
                · obtain ⟨p33, h⟩ := chk_K h
                  try simp only [Nat.reduceLeDiff] at p33
                  try simp only [go_sem, seval, *]
                  refine ⟨_, [], [0, 1, 2, 484], (Option.some.inj h).symm, by decide, ?_⟩
                  try simp only [go_sem, seval, *]
                · refine ⟨_, [], [0, 1, 2, 3], (Option.some.inj h).symm, by decide, ?_⟩
                  try simp only [go_sem, seval, *]
              · refine ⟨_, [], [0, 1, 2, 3], (Option.some.inj h).symm, by decide, ?_⟩
                try simp only [go_sem, seval, *]
            · refine ⟨_, [], [0, 1, 2, 3], (Option.some.inj h).symm, by decide, ?_⟩
              try simp only [go_sem, seval, *]
          · rintro row_94 ⟨sl, ob, n⟩ hI34 hW35 h
            simp only [go_sem, seval, str_len] at hI34
            obtain ⟨⟨g36_1, g36_3, g36_4, g36_5, g36_7, g36_8, g36_9, g36_38, g36_39, g36_40⟩, og36_0, og36_1, og36_2, og36_3, hn⟩ := hI34
            subst hn
            have q37 := lt_f (append_0.reasons.length)
            try simp only [go_sem, seval, *]
            refine ite_K h (fun c38 h => ?_) (fun c38 h => ?_) <;> try simp only [go_sem, seval, *]
            · refine ⟨_, [], [0, 1, 2], (Option.some.inj h).symm, by decide, ?_⟩
              try simp only [go_sem, seval, *]
            · refine swp_for h (fun i row_116 st => IV [(1, .bp 0 0), (3, .p false [.row 1]), (4, .p false [.row 2]), (5, .p false [.c (.int .i64 u_6)]), (7, .p false [.c (.int .i64 u_85)]), (8, .p false [.c (.int .i64 u_46)]), (76, .p false [.row 3]), (77, .p false [.c (.int .i64 ((row_94.length : Nat) : Int))]), (78, .p false [.c (.int .i64 ((i : Nat) : Int))])] [.box 26 [.c (.int .i64 append_0.nodes), .c (.sl 47 3 (List.map eReason append_0.reasons))], .row 3 1 (List.map eInt v1) 2, .row 3 1 (List.map eInt row_116) 2, .row 3 1 (List.map eInt row_94) 2] st) [] [0, 1, 2, 3] (by decide) ?_ ?_ ?_
              · simp only [go_sem, seval, *]
              · rintro i120 x121 row_116 ⟨sl, ob, n⟩ y39 hx40 hI41 hW42 h hy39
                simp only [go_sem, seval, str_len] at hI41
                obtain ⟨⟨g43_1, g43_3, g43_4, g43_5, g43_7, g43_8, g43_76, g43_77, g43_78⟩, og43_0, og43_1, og43_2, og43_3, hn⟩ := hI41
                subst hn
                have hlhx40 := WF.rowL hW42 og43_3
                have q44 := lt_t hx40
                have q45 := lt_p hx40
                have q46 := nat_in (lt_n hx40) hlhx40
                obtain ⟨p47, h⟩ := chk_K h
                obtain ⟨x122, e48, h⟩ := bind_K h
                try simp only [go_sem, seval, *]
                refine ⟨_, [], [0, 1, 2, 3], (Option.some.inj h).symm, by decide, ?_⟩
                try simp only [go_sem, seval, *]
              · rintro row_116 ⟨sl, ob, n⟩ hI49 hW50 h
                simp only [go_sem, seval, str_len] at hI49
                obtain ⟨⟨g51_1, g51_3, g51_4, g51_5, g51_7, g51_8, g51_76, g51_77, g51_78⟩, og51_0, og51_1, og51_2, og51_3, hn⟩ := hI49
                subst hn
                have q52 := lt_f (row_94.length)
                try simp only [go_sem, seval, *]
                refine ⟨_, [], [0, 1, 2], (Option.some.inj h).symm, by decide, ?_⟩
                try simp only [go_sem, seval, *]
        · replace h := inr_K h hy12
          replace h := inr_K h hy3
          obtain rfl := Option.some.inj h
          try simp only [go_sem, seval, *]
theorem i_LeastSets_ok {l_0 : (List Int)} {r : (List Int)} (h : i_LeastSets l_0 = some r) : Sound Try.prog J0 23 [(false, [.sl 3 1 (List.map eInt l_0)])] [(false, [(false, .sl 3 1 (List.map eInt r))])] := by
  refine fnk Try.func23 rfl ?_
  unfold i_LeastSets at h
  simp only [fnS, f23, argSt, go_sem, seval]
  refine swp_for h (fun i row_33 st => IV [(0, .p false [.c (.sl 3 1 (List.map eInt l_0))]), (3, .p false [.row 0]), (9, .p false [.c (.sl 3 1 (List.map eInt l_0))]), (10, .p false [.c (.int .i64 ((l_0.length : Nat) : Int))]), (11, .p false [.c (.int .i64 ((i : Nat) : Int))])] [.row 3 1 (List.map eInt row_33) 2] st) [(false, 3, 0)] [80] (by decide) ?_ ?_ ?_
  · simp only [go_sem, seval, *]
  · rintro i54 x55 row_33 ⟨sl, ob, n⟩ y1 hx2 hI3 hW4 h hy1
    simp only [go_sem, seval, str_len] at hI3
    obtain ⟨⟨g5_0, g5_3, g5_9, g5_10, g5_11⟩, og5_0, hn⟩ := hI3
    subst hn
    have hlhx2 := WF.slotL hW4 g5_0 (j := 0) rfl
    have q6 := lt_t hx2
    have q7 := lt_p hx2
    have q8 := nat_in (lt_n hx2) hlhx2
    try simp only [go_sem, seval, *]
    refine ite_K h (fun c9 h => ?_) (fun c9 h => ?_) <;> try simp only [go_sem, seval, *]
    · obtain ⟨v56, e10, h⟩ := bind_K h
      refine call_K (by have hh := i_hasInt_ok e10; first | exact hh | (simp only [go_sem, *] at hh; exact hh)) ?_
      try simp only [go_sem, seval, *]
      refine swp_for h (fun i s st => match s with | (u_59, u_60, least_62) => IV [(0, .p false [.c (.sl 3 1 (List.map eInt l_0))]), (3, .p false [.row 0]), (5, .p false [.c (.int .i64 x55)]), (6, .p false [.c (.bool least_62)]), (9, .p false [.c (.sl 3 1 (List.map eInt l_0))]), (10, .p false [.c (.int .i64 ((l_0.length : Nat) : Int))]), (11, .p false [.c (.int .i64 ((i54 : Nat) : Int))]), (18, .p false [.row 0]), (19, .p false [.c (.int .i64 x55)]), (20, .p false [.c (.bool u_59)]), (21, .p false [.c (.bool u_60)]), (23, .p false [.c (.sl 3 1 (List.map eInt l_0))]), (24, .p false [.c (.int .i64 ((l_0.length : Nat) : Int))]), (25, .p false [.c (.int .i64 ((i : Nat) : Int))])] [.row 3 1 (List.map eInt row_33) 2] st) [] [0] (by decide) ?_ ?_ ?_
      · simp only [go_sem, seval, *]
      · rintro i65 x66 ⟨u_59, u_60, least_62⟩ ⟨sl, ob, n⟩ y11 hx12 hI13 hW14 h hy11
        simp only [go_sem, seval, str_len] at hI13
        obtain ⟨⟨g15_0, g15_3, g15_5, g15_6, g15_9, g15_10, g15_11, g15_18, g15_19, g15_20, g15_21, g15_23, g15_24, g15_25⟩, og15_0, hn⟩ := hI13
        subst hn
        have hlhx12 := WF.slotL hW14 g15_0 (j := 0) rfl
        have q16 := lt_t hx12
        have q17 := lt_p hx12
        have q18 := nat_in (lt_n hx12) hlhx12
        try simp only [go_sem, seval, *]
        refine ite_K h (fun c19 h => ?_) (fun c19 h => ?_) <;> try simp only [go_sem, seval, *]
        · refine ite_K h (fun c20 h => ?_) (fun c20 h => ?_) <;> try simp only [go_sem, seval, *]
          · refine ⟨_, [], [0], (Option.some.inj h).symm, by decide, ?_⟩
            try simp only [go_sem, seval, *]
          · obtain ⟨v67, e21, h⟩ := bind_K h
            refine call_K (by have hh := i_IsPart_ok e21; first | exact hh | (simp only [go_sem, *] at hh; exact hh)) ?_
            try simp only [go_sem, seval, *]
            refine ⟨_, [], [0], (Option.some.inj h).symm, by decide, ?_⟩
            try simp only [go_sem, seval, *]
        · refine ⟨_, [], [0], (Option.some.inj h).symm, by decide, ?_⟩
          try simp only [go_sem, seval, *]
      · rintro ⟨u_59, u_60, least_62⟩ ⟨sl, ob, n⟩ hI22 hW23 h
        simp only [go_sem, seval, str_len] at hI22
        obtain ⟨⟨g24_0, g24_3, g24_5, g24_6, g24_9, g24_10, g24_11, g24_18, g24_19, g24_20, g24_21, g24_23, g24_24, g24_25⟩, og24_0, hn⟩ := hI22
        subst hn
        have q25 := lt_f (l_0.length)
        try simp only [go_sem, seval, *]
        refine ite_K h (fun c26 h => ?_) (fun c26 h => ?_) <;> try simp only [go_sem, seval, *]
        · obtain ⟨p27, h⟩ := chk_K h
          try simp only [Nat.reduceLeDiff] at p27
          try simp only [go_sem, seval, *]
          refine ⟨_, [], [81], (Option.some.inj h).symm, by decide, ?_⟩
          try simp only [go_sem, seval, *]
        · refine ⟨_, [], [0], (Option.some.inj h).symm, by decide, ?_⟩
          try simp only [go_sem, seval, *]
    · refine swp_for h (fun i _ st => IV [(0, .p false [.c (.sl 3 1 (List.map eInt l_0))]), (3, .p false [.row 0]), (5, .p false [.c (.int .i64 x55)]), (6, .p false [.c (.bool false)]), (9, .p false [.c (.sl 3 1 (List.map eInt l_0))]), (10, .p false [.c (.int .i64 ((l_0.length : Nat) : Int))]), (11, .p false [.c (.int .i64 ((i54 : Nat) : Int))]), (23, .p false [.c (.sl 3 1 (List.map eInt l_0))]), (24, .p false [.c (.int .i64 ((l_0.length : Nat) : Int))]), (25, .p false [.c (.int .i64 ((i : Nat) : Int))])] [.row 3 1 (List.map eInt row_33) 2] st) [] [0] (by decide) ?_ ?_ ?_
      · simp only [go_sem, seval, *]
      · rintro i71 x72 ⟨⟩ ⟨sl, ob, n⟩ y28 hx29 hI30 hW31 h hy28
        simp only [go_sem, seval, str_len] at hI30
        obtain ⟨⟨g32_0, g32_3, g32_5, g32_6, g32_9, g32_10, g32_11, g32_23, g32_24, g32_25⟩, og32_0, hn⟩ := hI30
        subst hn
        have hlhx29 := WF.slotL hW31 g32_0 (j := 0) rfl
        have q33 := lt_t hx29
        have q34 := lt_p hx29
        have q35 := nat_in (lt_n hx29) hlhx29
        try simp only [go_sem, seval, *]
        refine ⟨_, [], [0], (Option.some.inj h).symm, by decide, ?_⟩
        try simp only [go_sem, seval, *]
      · rintro ⟨⟩ ⟨sl, ob, n⟩ hI36 hW37 h
        simp only [go_sem, seval, str_len] at hI36
        obtain ⟨⟨g38_0, g38_3, g38_5, g38_6, g38_9, g38_10, g38_11, g38_23, g38_24, g38_25⟩, og38_0, hn⟩ := hI36
        subst hn
        have q39 := lt_f (l_0.length)
        try simp only [go_sem, seval, *]
        refine ⟨_, [], [0], (Option.some.inj h).symm, by decide, ?_⟩
        try simp only [go_sem, seval, *]
  · rintro row_33 ⟨sl, ob, n⟩ hI40 hW41 h
    simp only [go_sem, seval, str_len] at hI40
    obtain ⟨⟨g42_0, g42_3, g42_9, g42_10, g42_11⟩, og42_0, hn⟩ := hI40
    subst hn
    have q43 := lt_f (l_0.length)
    try simp only [go_sem, seval, *]
    obtain ⟨v73, e44, h⟩ := bind_K h
    refine hand_K (by have hh := x_sortInts_ok e44; first | exact hh | (simp only [go_sem, *] at hh; exact hh)) ?_
    obtain rfl := Option.some.inj h
    try simp only [go_sem, seval, *]
end
section
open Go.RowKit
/-- a codec and trees say the same -/
structure Enc {α : Type} (c : Codec α) (f : α → List CT) : Prop where
  to : ∀ {w : World} {cs : List Value} {x : α} {L : List Nat}, c.rep w cs x L → RCs w (f x) cs L
  of : ∀ {w : World} {cs : List Value} {x : α} {L : List Nat}, RCs w (f x) cs L → c.rep w cs x L
section
variable {α : Type} {c : Codec α} {f : α → List CT} {w : World}
theorem Enc.reps (h : Enc c f) : ∀ {ds : List α} {xs : List Value} {L : List Nat}, c.reps w xs ds L → REs w c.size (ds.map f) xs L
  | [], _, _, h1 => h1
  | _ :: _, _, _, ⟨c1, c2, L1, L2, h1, h2, h3, h4⟩ => ⟨c1, c2, L1, L2, h1, h2, ⟨h.to h3, c.len h3⟩, h.reps h4⟩
theorem Enc.reps_of (h : Enc c f) : ∀ {ds : List α} {xs : List Value} {L : List Nat}, REs w c.size (ds.map f) xs L → c.reps w xs ds L
  | [], _, _, h1 => h1
  | _ :: _, _, _, ⟨c1, c2, L1, L2, h1, h2, h3, h4⟩ => ⟨c1, c2, L1, L2, h1, h2, h.of h3.1, h.reps_of h4⟩
theorem Enc.sl (h : Enc c f) (e : Nat) {v : Value} {ds : List α} {L : List Nat} : (sliceC c).rep w [v] ds L ↔ RC w (.sl e c.size (ds.map f)) v L := by
  constructor
  · rintro ⟨A, cap, hv, h1, h2, xs, L0, L1, hL, h3, h4⟩
    obtain rfl : v = _ := by simpa using hv
    exact ⟨A, cap, xs, L0, L1, by simp, by simpa using h1, h2, hL, c.pos, by simpa using h3, h.reps h4⟩
  · rintro ⟨A, cap, xs, L0, L1, hv, h1, h2, hL, h0, h3, h4⟩
    exact ⟨A, cap, by simpa using hv, by simpa using h1, h2, xs, L0, L1, hL, by simpa using h3, h.reps_of h4⟩
theorem RCs.solo {x : CT} {v : Value} {L : List Nat} (h : RC w x v L) : RCs w [x] [v] L := ⟨v, [], L, [], rfl, by simp, h, rfl, rfl⟩
theorem RCs.more {x : CT} {v : Value} {L M : List Nat} {r : List CT} {cs : List Value} (h : RC w x v L) (k : RCs w r cs M) : RCs w (x :: r) (v :: cs) (L ++ M) := ⟨v, cs, L, M, rfl, rfl, h, k⟩
theorem Enc.slice (h : Enc c f) (e : Nat) : Enc (sliceC c) (fun l => [.sl e c.size (l.map f)]) where
  to := fun {w cs x L} hr => by
    obtain ⟨A, cap, rfl, h1⟩ := id hr
    exact RCs.solo ((h.sl e).1 hr)
  of := fun {w cs x L} hr => by
    obtain ⟨v, cs', L1, L2, rfl, rfl, h1, rfl, rfl⟩ := hr
    rw [List.append_nil]
    exact (h.sl e).2 h1
end
theorem encInt : Enc intC eInt where
  to := fun ⟨h1, h2⟩ => by subst h1; subst h2; exact RCs.solo ⟨rfl, rfl⟩
  of := fun ⟨v, cs', L1, L2, h1, h2, h3, h4, h5⟩ => by
    obtain ⟨rfl, rfl⟩ := h3
    subst h4; subst h5; exact ⟨h1, h2⟩
theorem encByte : Enc byteC eByte where
  to := fun ⟨h1, h2⟩ => by subst h1; subst h2; exact RCs.solo ⟨rfl, rfl⟩
  of := fun ⟨v, cs', L1, L2, h1, h2, h3, h4, h5⟩ => by
    obtain ⟨rfl, rfl⟩ := h3
    subst h4; subst h5; exact ⟨h1, h2⟩
theorem encBool : Enc boolC eBool where
  to := fun ⟨h1, h2⟩ => by subst h1; subst h2; exact RCs.solo ⟨rfl, rfl⟩
  of := fun ⟨v, cs', L1, L2, h1, h2, h3, h4, h5⟩ => by
    obtain ⟨rfl, rfl⟩ := h3
    subst h4; subst h5; exact ⟨h1, h2⟩
/-- an argument; nothing is written to in the meantime -/
def Arg0 (w : World) : Bool × List CT → Value → Prop := ArgR w fun _ => False
theorem arg_sl {α : Type} {c : Codec α} {f : α → List CT} (h : Enc c f) (e : Nat) {w : World} {v : Value} {ds : List α} {L : List Nat} (hr : (sliceC c).rep w [v] ds L) : Arg0 w (false, [.sl e c.size (ds.map f)]) v := .inr ⟨rfl, _, L, rfl, (h.sl e).1 hr, fun _ _ h => h⟩
section
variable {w w' : World} {v : Value} {e : Ending}
theorem res_one {B : Nat} {n : Nat → Prop} {x : RT} (h : ResR w B n [x] v) : ∃ F, OP w B n x v F ∧ Own w B F := by
  obtain ⟨vs, F, ⟨u, vs', F1, F2, rfl, rfl, h1, rfl, rfl⟩, h2, rfl⟩ := h
  rw [List.append_nil] at h2
  exact ⟨F1, by simpa using h1, h2⟩
theorem res_bool {b : Bool} {B : Nat} {m : Nat → Prop} (hr : ResR w B m [(false, [(false, .bool b)])] v) : v = .bool b := by
  obtain ⟨F, h1, h2⟩ := res_one hr
  rcases h1 with ⟨h1, _⟩ | ⟨_, ct, h1, h3⟩
  · simp at h1
  · obtain rfl : _ = ct := by simpa using h1
    exact h3.1.1
end
section
variable {P : Program} {J : World → Prop} {f : FuncId} {args : List (Bool × List CT)} {res : List RT}
theorem Sound.calls (h : Sound P J f args res) {w : World} {vs : List Value} (hj : J w) (ha : All2 (Arg0 w) args vs) : Calls P f vs.toArray w fun e w' => ∃ v n, e = .returned v ∧ ResR w' w.heap.size n res v ∧ Below w.heap.size w w' :=
  (h.2 w (fun _ => False) vs hj (fun _ h => h.elim) ha).mono fun _ _ ⟨v, n, h1, h2, _, h3⟩ => ⟨v, n, h1, h2, h3⟩
theorem Sound.givesB {b : Bool} (h : Sound P J f args [(false, [(false, .bool b)])]) {w : World} {vs : List Value} (hj : J w) (ha : All2 (Arg0 w) args vs) : Calls P f vs.toArray w fun e w' => e = .returned (.bool b) ∧ Below w.heap.size w w' :=
  (h.calls hj ha).mono fun _ _ ⟨v, _, h1, h2, h3⟩ => ⟨by rw [h1, res_bool h2], h3⟩
end
end
theorem encReason : Enc cReason eReason where
  to := fun {w cs x L} h => by
    obtain ⟨A1, c1, L1, A2, c2, L2, rfl, rfl, n1, m1, s1, n2, m2, s2⟩ := h
    have hh : RCs w (eReason x) _ _ := RCs.more ⟨rfl, rfl⟩ (RCs.more ((encInt.sl 3).1 ⟨A1, c1, rfl, n1, m1, s1⟩) (RCs.solo ((encInt.sl 3).1 ⟨A2, c2, rfl, n2, m2, s2⟩)))
    simpa only [List.nil_append, List.append_nil, List.append_assoc] using hh
  of := fun {w cs x L} h => by
    obtain ⟨v0, r0, K0, M0, rfl, rfl, h0, v1, r1, K1, M1, rfl, rfl, h1, v2, r2, K2, M2, rfl, rfl, h2, rfl, rfl⟩ := h
    obtain ⟨rfl, rfl⟩ := h0
    obtain ⟨A1, c1, e1, n1, m1, s1⟩ := (encInt.sl 3).2 h1
    cases e1
    obtain ⟨A2, c2, e2, n2, m2, s2⟩ := (encInt.sl 3).2 h2
    cases e2
    exact ⟨A1, c1, _, A2, c2, _, rfl, by simp only [List.nil_append, List.append_nil, List.append_assoc], n1, m1, s1, n2, m2, s2⟩
theorem encBeliefs : Enc cBeliefs eBeliefs where
  to := fun {w cs x L} h => by
    obtain ⟨A1, c1, L1, rfl, rfl, n1, m1, s1⟩ := h
    have hh : RCs w (eBeliefs x) _ _ := RCs.more ⟨rfl, rfl⟩ (RCs.solo ((encReason.sl 47).1 ⟨A1, c1, rfl, n1, m1, s1⟩))
    simpa only [List.nil_append, List.append_nil, List.append_assoc] using hh
  of := fun {w cs x L} h => by
    obtain ⟨v0, r0, K0, M0, rfl, rfl, h0, v1, r1, K1, M1, rfl, rfl, h1, rfl, rfl⟩ := h
    obtain ⟨rfl, rfl⟩ := h0
    obtain ⟨A1, c1, e1, n1, m1, s1⟩ := (encReason.sl 47).2 h1
    cases e1
    exact ⟨A1, c1, _, rfl, by simp only [List.nil_append, List.append_nil, List.append_assoc], n1, m1, s1⟩
section
open Go.RowKit
/-- r rows of n cells are made -/
structure MatN (w wr : World) (n r : Nat) : Prop where
  below : Below w.heap.size w wr
  size : wr.heap.size = w.heap.size + 1 + r
  top : wr.rowIs w.heap.size 38 n (fun j => if j < r then .slice (some ⟨w.heap.size + 1 + j, 0, none⟩) n n else .slice none 0 0)
  row : ∀ j, j < r → wr.rowIs (w.heap.size + 1 + j) 4 n (fun _ => .bool false)
/-- the rows hold d -/
structure MatI (w wr : World) (n : Nat) (d : List (List Bool)) : Prop where
  below : Below w.heap.size w wr
  size : w.heap.size + 1 + n ≤ wr.heap.size
  top : wr.rowIs w.heap.size 38 n (fun j => .slice (some ⟨w.heap.size + 1 + j, 0, none⟩) n n)
  row : ∀ j, j < n → wr.rowIs (w.heap.size + 1 + j) 4 n (fun c => .bool (getM d j c))
  sq : SqM n d
theorem matN_start (w : World) (n : Nat) : MatN w (w.alloc (.cells (madeCells #[.slice none 0 0] n) 38)) n 0 :=
  ⟨(Below.refl _ w).alloc (Nat.le_refl _) _, by simp, (World.rowIs_made w _ n 38).congr (fun j _ => by simp), fun j hj => absurd hj (Nat.not_lt_zero _)⟩
theorem MatN.next {w wr : World} {n r : Nat} (h : MatN w wr n r) : MatN w ((wr.alloc (.cells (madeCells #[.bool false] n) 4)).setCell ⟨w.heap.size, r, none⟩ (.slice (some ⟨wr.heap.size, 0, none⟩) n n)) n (r + 1) := by
  have hnew := World.rowIs_made wr (.bool false) n 4
  rw [h.size] at hnew ⊢
  refine ⟨(h.below.alloc (by rw [h.size]; omega) _).setCell (Nat.le_refl _) _, by simp [h.size]; omega, ((h.top.alloc _).set r _).congr (fun j _ => ?_), fun j hj => ?_⟩
  · by_cases e : j = r
    · subst e; simp
    · rw [if_neg e]
      by_cases hlt : j < r
      · rw [if_pos hlt, if_pos (by omega)]
      · rw [if_neg hlt, if_neg (by omega)]
  · by_cases e : j = r
    · subst e
      exact hnew.setOther (by show w.heap.size + 1 + j ≠ w.heap.size; omega) _
    · exact ((h.row j (by omega)).alloc _).setOther (by show w.heap.size + 1 + j ≠ w.heap.size; omega) _
theorem getM_zero (n i j : Nat) : getM (List.replicate n (List.replicate n false)) i j = false := by
  unfold getM
  rw [List.getElem?_replicate]
  split
  · rename_i r e
    split at e
    · simp at e; subst e
      rw [List.getElem?_replicate]
      split
      · rename_i v e2
        split at e2
        · simp at e2; exact e2
        · simp at e2
      · rfl
    · simp at e
  · rfl
theorem MatN.done {w wr : World} {n : Nat} (h : MatN w wr n n) : MatI w wr n (List.replicate n (List.replicate n false)) :=
  ⟨h.below, by rw [h.size]; omega, h.top.congr (fun j hj => by rw [if_pos hj]), fun j hj => (h.row j hj).congr (fun c _ => by rw [getM_zero]), SqM.new n⟩
theorem MatI.later {w wr w' : World} {n : Nat} {d : List (List Bool)} (h : MatI w wr n d) (hb : Below wr.heap.size wr w') : MatI w w' n d :=
  ⟨h.below.trans (hb.mono h.below.size), Nat.le_trans h.size hb.size, h.top.of_block (hb.block _ h.top.lt), fun j hj => (h.row j hj).of_block (hb.block _ (h.row j hj).lt), h.sq⟩
theorem MatI.set {w wr : World} {n : Nat} {d : List (List Bool)} (h : MatI w wr n d) {i j : Nat} (hi : i < n) (hj : j < n) (v : Bool) : MatI w (wr.setCell ⟨w.heap.size + 1 + i, j, none⟩ (.bool v)) n (setM d i j v) := by
  refine ⟨h.below.setCell (by show w.heap.size ≤ w.heap.size + 1 + i; omega) _, by simpa using h.size, h.top.setOther (by show w.heap.size ≠ w.heap.size + 1 + i; omega) _, fun q hq => ?_, h.sq.set i j v⟩
  by_cases e : q = i
  · subst e
    refine ((h.row q hq).set j (.bool v)).congr (fun c hc => ?_)
    rw [get_set h.sq hi hj]
    by_cases e2 : c = j
    · rw [if_pos e2, if_pos ⟨rfl, e2⟩]
    · rw [if_neg e2, if_neg (fun hh => e2 hh.2)]
  · refine ((h.row q hq).setOther (by show w.heap.size + 1 + q ≠ w.heap.size + 1 + i; omega) _).congr (fun c _ => ?_)
    rw [get_set h.sq hi hj, if_neg (fun hh => e hh.1)]
theorem MatI.drew {w wr : World} {n : Nat} {d : List (List Bool)} (h : MatI w wr n d) : MatI w wr.drew n d := ⟨h.below.drew, h.size, h.top.drew, fun j hj => (h.row j hj).drew, h.sq⟩
/-- a row of one's own as a slice -/
theorem sl_of_row {w : World} {b t n : Nat} {f : Nat → Value} {xs : List Value} (h : w.rowIs b t n f) (hx : xs.length = n) (he : ∀ i, i < n → xs[i]? = some (f i)) : ∃ L, Sl w 1 (some ⟨b, 0, none⟩) n xs L ∧ ∀ y ∈ L, y = b := by
  by_cases hn : n = 0
  · subst hn
    exact ⟨[], ⟨by simpa using hx, .inl ⟨rfl, rfl⟩⟩, by simp⟩
  · refine ⟨[b], ⟨by simpa using hx, .inr ⟨by omega, b, 0, rfl, rfl, fun j u hu => ?_⟩⟩, by simp⟩
    have hj : j < n := by rw [← hx]; exact (List.getElem?_eq_some_iff.1 hu).1
    rw [he j hj] at hu
    obtain rfl := Option.some.inj hu
    rw [Nat.zero_add]
    exact h.cell hj
theorem bools_reps (w : World) : ∀ l : List Bool, boolC.reps w (l.map Value.bool) l []
  | [] => ⟨rfl, rfl⟩
  | x :: l => ⟨[.bool x], l.map Value.bool, [], [], rfl, rfl, ⟨rfl, rfl⟩, bools_reps w l⟩
theorem reps_ge {α : Type} {c : Codec α} {w : World} {B : Nat} : ∀ {ds : List α} {cells : List Value}, cells.length = ds.length → (∀ (i : Nat) (d : α) (v : Value), ds[i]? = some d → cells[i]? = some v → ∃ L, c.rep w [v] d L ∧ ∀ y ∈ L, B ≤ y) → ∃ L, c.reps w cells ds L ∧ ∀ y ∈ L, B ≤ y
  | [], cells, hl, _ => ⟨[], ⟨List.eq_nil_of_length_eq_zero hl, rfl⟩, by simp⟩
  | d :: ds, [], hl, _ => by simp at hl
  | d :: ds, v :: cells, hl, h => by
    obtain ⟨L1, h1, g1⟩ := h 0 d v rfl rfl
    obtain ⟨L2, h2, g2⟩ := reps_ge (ds := ds) (cells := cells) (by simpa using hl) (fun i e u he hu => h (i + 1) e u (by simpa using he) (by simpa using hu))
    refine ⟨L1 ++ L2, ⟨[v], cells, L1, L2, rfl, rfl, h1, h2⟩, fun y my => ?_⟩
    rcases List.mem_append.1 my with m | m
    · exact g1 y m
    · exact g2 y m
theorem MatI.rep {w wr : World} {n : Nat} {d : List (List Bool)} (h : MatI w wr n d) (hn : n ≤ 24) : ∃ L, (sliceC (sliceC boolC)).rep wr [.slice (some ⟨w.heap.size, 0, none⟩) n n] d L ∧ ∀ y ∈ L, w.heap.size ≤ y := by
  have hd := h.sq.len
  obtain ⟨L0, hs, hL0⟩ := sl_of_row (xs := (List.range n).map fun j => .slice (some ⟨w.heap.size + 1 + j, 0, none⟩) n n) h.top (by simp) (fun i hi => by simp [hi])
  obtain ⟨L1, hr, hL1⟩ := reps_ge (c := sliceC boolC) (w := wr) (B := w.heap.size) (ds := d) (cells := (List.range n).map fun j => .slice (some ⟨w.heap.size + 1 + j, 0, none⟩) n n) (by simp [hd]) (fun i r v hr hv => by
    have hi : i < n := by rw [← hd]; exact (List.getElem?_eq_some_iff.1 hr).1
    have hrl : r.length = n := h.sq.row r (List.mem_of_getElem? hr)
    have hv2 : v = .slice (some ⟨w.heap.size + 1 + i, 0, none⟩) n n := by simp [hi] at hv; exact hv.symm
    subst hv2
    obtain ⟨L, hl, hL⟩ := sl_of_row (xs := r.map Value.bool) (h.row i hi) (by simp [hrl]) (fun j hj => by
      have hj' : j < r.length := by omega
      unfold getM
      rw [hr]
      simp only
      rw [List.getElem?_map, List.getElem?_eq_getElem hj']
      rfl)
    refine ⟨L ++ [], ⟨some ⟨w.heap.size + 1 + i, 0, none⟩, n, by rw [hrl], by omega, by unfold maxLen; omega, r.map Value.bool, L, [], rfl, by rw [hrl]; exact hl, bools_reps wr r⟩, fun y my => ?_⟩
    rw [List.append_nil] at my
    rw [hL y my]; omega)
  refine ⟨L0 ++ L1, ⟨some ⟨w.heap.size, 0, none⟩, n, by rw [hd], by omega, by unfold maxLen; omega, _, L0, L1, rfl, by rw [hd]; exact hs, hr⟩, fun y my => ?_⟩
  rcases List.mem_append.1 my with m | m
  · rw [hL0 y m]; exact Nat.le_refl _
  · exact hL1 y m
end
section
open Go.RowKit
theorem infoBoolD : (Try.prog.info? 4).map (fun i => (i.zero, i.size, i.bytes)) = some (some (.bool false), 1, 1) := by kernel_rfl
theorem infoBoolsD : (Try.prog.info? 38).map (fun i => (i.zero, i.size, i.bytes)) = some (some (.slice none 0 0), 1, 24) := by kernel_rfl
theorem take_foldl_succ {α β : Type} {f : β → α → β} {l : List α} {k : Nat} {x : α} {b : β} (h : l[k]? = some x) : (l.take (k + 1)).foldl f b = f ((l.take k).foldl f b) x := by
  rw [List.take_add_one, h, List.foldl_append]; rfl
theorem range_foldl_succ {β : Type} {f : β → Nat → β} {k : Nat} {b : β} : (List.range' 0 (k + 1)).foldl f b = f ((List.range' 0 k).foldl f b) k := by
  rw [List.range'_concat, List.foldl_append]; simp
set_option maxRecDepth 1000000 in
set_option maxHeartbeats 8000000 in
theorem i_dep_walk {b : BeliefsD} (hok : okDep b = true) (w : World) (cs : List Value) (L : List Nat) (hb : cBeliefs.rep w cs b L) :
    Calls Try.prog 45 #[.agg cs.toArray] w (fun e w' => ∃ w0, Below w.heap.size w w0 ∧ e = .returned (.slice (some ⟨w0.heap.size, 0, none⟩) b.nodes.toNat b.nodes.toNat) ∧ MatI w0 w' b.nodes.toNat (depsM b.nodes.toNat b.reasons)) := by
  obtain ⟨A1, c1, L1, e1, e2, n1, m1, s1⟩ := hb
  subst e1 e2
  unfold okDep at hok
  rw [Bool.and_eq_true, decide_eq_true_iff] at hok
  obtain ⟨⟨h0, h24, h60⟩, hr⟩ := hok
  have HR : Hid (∀ r ∈ b.reasons, (0 ≤ r.for_ ∧ r.for_.toNat < b.nodes.toNat) ∧ (∀ y ∈ r.inn, 0 ≤ y ∧ y.toNat < b.nodes.toNat) ∧ ∀ y ∈ r.outs, 0 ≤ y ∧ y.toNat < b.nodes.toNat) := fun r mr => by
    have := List.all_eq_true.1 hr r mr
    rw [Bool.and_eq_true, Bool.and_eq_true, decide_eq_true_iff, List.all_eq_true, List.all_eq_true] at this
    obtain ⟨⟨a1, a2⟩, a3⟩ := this
    refine ⟨by omega, fun y my => ?_, fun y my => ?_⟩
    · have := of_decide_eq_true (a2 y my); omega
    · have := of_decide_eq_true (a3 y my); omega
  clear hr
  have HS : Hid (Sli cReason w A1 b.reasons _) := s1
  clear s1
  have hm0 : b.nodes = ((b.nodes.toNat : Nat) : Int) := by omega
  obtain ⟨n, hn⟩ : ∃ n, b.nodes.toNat = n := ⟨_, rfl⟩
  have HN : Hid (b.nodes.toNat = n) := hn
  rw [hn] at hm0 ⊢
  rw [hm0]
  obtain ⟨m, hm⟩ : ∃ m, b.reasons.length = m := ⟨_, rfl⟩
  have HM : Hid (b.reasons.length = m) := hm
  rw [hm] at n1 h60 ⊢
  have hn24 : n ≤ 24 := by omega
  clear hm hn hm0 h0 h24
  have hmk : ∀ w : World, _ := run_make_row' (P := Try.prog) 79 38 (.slice none 0 0) 24 Try.underlying79 infoBoolsD rfl .i64 .i64 n (by omega) (by omega)
  go_enter Try.func45, Try.ntmps45
  go_wp2
  clear hmk
  obtain ⟨w0, hw0⟩ : ∃ w0, w0 = w.alloc (.cells #[.int .i64 ((n : Nat) : Int), .slice A1 m c1] 26) := ⟨_, rfl⟩
  have hs0 : w0.heap.size = w.heap.size + 1 := by rw [hw0]; simp
  have HB : Hid (Below w.heap.size w w0) := by rw [hw0]; exact (Below.refl _ w).alloc (Nat.le_refl _) _
  have K0 : Hid (Blk w0 w.heap.size 26 #[.int .i64 ((n : Nat) : Int), .slice A1 m c1]) := by rw [hw0]; exact Blk.new _ _ _
  rw [← hw0, ← hs0]
  have H0 : Hid (w0.heap.size = w.heap.size + 1) := hs0
  have hst : Hid (MatN w0 (w0.alloc (.cells (madeCells #[.slice none 0 0] n) 38)) n 0) := matN_start w0 n
  clear hw0 hs0
  go_loopw [19] (fun i wr => ∃ (k : Nat), k ≤ n ∧ i = .int .i64 k ∧ Hid (MatN w0 wr n k)) (fun i _ => n - (intOf i).toNat)
  case atStart => exact ⟨0, Nat.zero_le _, rfl, hst⟩
  case round =>
    clear hst
    obtain ⟨k, hk, rfl, HA⟩ := hrel
    by_cases hlt : k < n
    · have q0 : wr.cell? ⟨w.heap.size, 0, none⟩ = some (.int .i64 ((n : Nat) : Int)) := (HA.out.below.cell (p := ⟨w.heap.size, 0, none⟩) (by show w.heap.size < w0.heap.size; rw [H0.out]; omega)).trans (K0.out.at rfl)
      have hmk : ∀ w : World, _ := run_make_row' (P := Try.prog) 38 4 (.bool false) 1 Try.underlying38 infoBoolD rfl .i64 .i64 n (by omega) (by omega)
      have hst1 : ∀ o, (wr.alloc o).cell? ⟨w0.heap.size, k, none⟩ = some (.slice none 0 0) := fun o => by
        have := (HA.out.top.alloc o).cell hlt
        simpa using this
      have hst2 : ∀ o, (wr.alloc o).frozen? ⟨w0.heap.size, k, none⟩ = false := fun o => (HA.out.top.alloc o).frozen k
      go_wp2
      exact ⟨⟨k + 1, by omega, by simp, HA.out.next⟩, by simp [intOf]; omega⟩
    · obtain rfl : k = n := by omega
      have HD : Hid (MatI w0 wr k (List.replicate k (List.replicate k false))) := HA.out.done
      clear HA
      have q1 : wr.cell? ⟨w.heap.size, 1, none⟩ = some (.slice A1 m c1) := (HD.out.below.cell (p := ⟨w.heap.size, 1, none⟩) (by show w.heap.size < w0.heap.size; rw [H0.out]; omega)).trans (K0.out.at rfl)
      go_wp2
      clear q1 hlt hk
      have hst : Hid (MatI w0 wr k ((b.reasons.take 0).foldl markR (List.replicate k (List.replicate k false)))) := HD
      clear HD
      go_loopw [32] (fun i wr => ∃ (q : Nat), q ≤ m ∧ i = .int .i64 q ∧ Hid (MatI w0 wr k ((b.reasons.take q).foldl markR (List.replicate k (List.replicate k false))))) (fun i _ => m - (intOf i).toNat)
      case atStart => exact ⟨0, Nat.zero_le _, rfl, hst⟩
      case round =>
        clear hst
        obtain ⟨q, hq, rfl, HA⟩ := hrel
        by_cases hlt : q < m
        · obtain ⟨r, hr⟩ : ∃ r, b.reasons[q]? = some r := ⟨_, List.getElem?_eq_getElem (by have := HM.out; omega)⟩
          have hql : q < b.reasons.length := (List.getElem?_eq_some_iff.1 hr).1
          obtain ⟨bb, off, cs, Lk, rfl, hbL, hLk, hrep, hc⟩ := HS.out.at_ hql
          have hre : b.reasons[q] = r := by rw [List.getElem?_eq_getElem hql] at hr; exact Option.some.inj hr
          rw [hre] at hrep
          obtain ⟨Ai, ci, Li, Ao, co, Lo, e1, e2, ni, mi, si, no, mo, so⟩ := hrep
          subst e1
          have hbb : bb < w.heap.size := HS.out.lt _ hbL
          have hcell : ∀ {a : Addr}, a.block < w.heap.size → wr.cell? a = w.cell? a := fun {a} ha => (HA.out.below.cell (p := a) (by rw [H0.out]; omega)).trans (HB.out.cell ha)
          have mr := List.mem_of_getElem? hr
          obtain ⟨⟨f0, f1⟩, f2, f3⟩ := HR.out r mr
          simp only [HN.out] at f1 f2 f3
          obtain ⟨x, hx⟩ : ∃ x : Nat, r.for_ = x := ⟨r.for_.toNat, by omega⟩
          have hxk : x < k := by omega
          have HX : Hid (r.for_.toNat = x) := by show r.for_.toNat = x; omega
          have HIF : Hid (∀ y ∈ r.inn, 0 ≤ y ∧ y.toNat < k) := f2
          have HOF : Hid (∀ y ∈ r.outs, 0 ≤ y ∧ y.toNat < k) := f3
          have HI : Hid (Sli intC w Ai r.inn _) := si
          have HO : Hid (Sli intC w Ao r.outs _) := so
          have HQ : Hid (b.reasons[q]? = some r) := hr
          have p0 : wr.cell? ⟨bb, off + q * 3, none⟩ = some (.int .i64 r.for_) := (hcell hbb).trans (hc 0 _ rfl)
          have p1 : wr.cell? ⟨bb, off + q * 3 + 1, none⟩ = some (.slice Ai r.inn.length ci) := (hcell hbb).trans (hc 1 _ rfl)
          have p2 : wr.cell? ⟨bb, off + q * 3 + 2, none⟩ = some (.slice Ao r.outs.length co) := (hcell hbb).trans (hc 2 _ rfl)
          rw [hx] at p0
          obtain ⟨pi, hpi⟩ : ∃ pi, r.inn.length = pi := ⟨_, rfl⟩
          obtain ⟨po, hpo⟩ : ∃ po, r.outs.length = po := ⟨_, rfl⟩
          rw [hpi] at p1 ni
          rw [hpo] at p2 no
          have hpb : pi ≤ 9223372036854775807 := Nat.le_trans ni (by unfold maxLen at mi; omega)
          have hpc : po ≤ 9223372036854775807 := Nat.le_trans no (by unfold maxLen at mo; omega)
          have HIL : Hid (r.inn.length = pi) := hpi
          have HOL : Hid (r.outs.length = po) := hpo
          clear hc hcell hpi hpo hx f0 f1 f2 f3 si so hr mr hre
          go_wp2
          obtain ⟨D, hD⟩ : ∃ D, D = (b.reasons.take q).foldl markR (List.replicate k (List.replicate k false)) := ⟨_, rfl⟩
          obtain ⟨w1, hw1⟩ : ∃ w1, w1 = wr.alloc (.cells #[.int .i64 ((x : Nat) : Int), .slice Ai pi ci, .slice Ao po co] 47) := ⟨_, rfl⟩
          obtain ⟨g, hg⟩ : ∃ g, g = wr.heap.size := ⟨_, rfl⟩
          have hM1 : Hid (MatI w0 w1 k ((r.inn.take 0).foldl (markRow r.for_.toNat) D)) := by rw [hw1, hD]; exact HA.out.later ((Below.refl _ _).alloc (Nat.le_refl _) _)
          have hK1 : Hid (Blk w1 g 47 #[.int .i64 ((x : Nat) : Int), .slice Ai pi ci, .slice Ao po co]) := by rw [hw1, hg]; exact Blk.new _ _ _
          have HG : Hid (w0.heap.size + 1 + k ≤ g) := by rw [hg]; exact HA.out.size
          rw [← hw1, ← hg]
          have HD0 : Hid (D = (b.reasons.take q).foldl markR (List.replicate k (List.replicate k false))) := hD
          clear HA hw1 hg p0 p1 p2 hD
          go_loopw [39] (fun i wr => ∃ (j : Nat), j ≤ pi ∧ i = .int .i64 j ∧ Hid (MatI w0 wr k ((r.inn.take j).foldl (markRow r.for_.toNat) D)) ∧ Hid (Blk wr g 47 #[.int .i64 ((x : Nat) : Int), .slice Ai pi ci, .slice Ao po co])) (fun i _ => pi - (intOf i).toNat)
          case atStart => exact ⟨0, Nat.zero_le _, rfl, hM1, hK1⟩
          case round =>
            clear hM1 hK1
            obtain ⟨j, hj, rfl, HW, HK⟩ := hrel
            by_cases hlt2 : j < pi
            · have hjl : j < r.inn.length := by have := HIL.out; omega
              obtain ⟨bi, oi, cs2, Lk2, rfl, hbL2, _, hrep2, hc2⟩ := HI.out.at_ hjl
              obtain ⟨e3, _⟩ := hrep2
              subst e3
              have hy := List.getElem?_eq_getElem hjl
              obtain ⟨y0, y1⟩ := HIF.out _ (List.getElem_mem hjl)
              obtain ⟨yn, hyn⟩ : ∃ yn : Nat, r.inn[j] = yn := ⟨r.inn[j].toNat, by omega⟩
              have hyt : r.inn[j].toNat = yn := by omega
              have hyk : yn < k := by omega
              have hbi : bi < w.heap.size := HI.out.lt _ hbL2
              have p3 : wr.cell? ⟨bi, oi + j, none⟩ = some (.int .i64 ((yn : Nat) : Int)) := by
                have h := hc2 0 _ rfl
                rw [show oi + (j * intC.size + 0) = oi + j from by show oi + (j * 1 + 0) = _; omega, hyn] at h
                exact ((HW.out.below.cell (p := ⟨bi, oi + j, none⟩) (by show bi < w0.heap.size; rw [H0.out]; omega)).trans (HB.out.cell (p := ⟨bi, oi + j, none⟩) hbi)).trans h
              have s0 : wr.cell? ⟨g, 0, none⟩ = some (.int .i64 ((x : Nat) : Int)) := HK.out.at rfl
              have s1 : wr.cell? ⟨w0.heap.size, x, none⟩ = some (.slice (some ⟨w0.heap.size + 1 + x, 0, none⟩) k k) := HW.out.top.cell hxk
              have s2 := (HW.out.row x hxk).cell hyk
              have s3 := (HW.out.row x hxk).frozen yn
              have HY : Hid (r.inn[j]? = some r.inn[j] ∧ r.inn[j].toNat = yn) := ⟨hy, hyt⟩
              clear hc2 hy hyt hyn y0 y1
              go_wp2
              refine ⟨⟨j + 1, by omega, by simp, ?_, HK.out.far (by show g ≠ w0.heap.size + 1 + x; have := HG.out; omega) _⟩, by simp [intOf]; omega⟩
              show MatI w0 _ k _
              rw [take_foldl_succ HY.out.1]
              have e : ∀ d, markRow r.for_.toNat d r.inn[j] = setM d x yn true := fun d => by unfold markRow; rw [HX.out, HY.out.2]
              rw [e]
              exact HW.out.set hxk hyk true
            · have hjp : j = pi := by omega
              have q2 : wr.cell? ⟨g, 2, none⟩ = some (.slice Ao po co) := HK.out.at rfl
              go_wp2
              clear q2 hlt2 hj
              have hM1 : Hid (MatI w0 wr k ((r.outs.take 0).foldl (markRow r.for_.toNat) ((r.inn.take pi).foldl (markRow r.for_.toNat) D))) := by rw [← hjp]; exact HW
              have hK1 := HK
              clear HW HK hjp
              go_loopw [54] (fun i wr => ∃ (j : Nat), j ≤ po ∧ i = .int .i64 j ∧ Hid (MatI w0 wr k ((r.outs.take j).foldl (markRow r.for_.toNat) ((r.inn.take pi).foldl (markRow r.for_.toNat) D))) ∧ Hid (Blk wr g 47 #[.int .i64 ((x : Nat) : Int), .slice Ai pi ci, .slice Ao po co])) (fun i _ => po - (intOf i).toNat)
              case atStart => exact ⟨0, Nat.zero_le _, rfl, hM1, hK1⟩
              case round =>
                clear hM1 hK1
                obtain ⟨j, hj, rfl, HW, HK⟩ := hrel
                by_cases hlt2 : j < po
                · have hjl : j < r.outs.length := by have := HOL.out; omega
                  obtain ⟨bi, oi, cs2, Lk2, rfl, hbL2, _, hrep2, hc2⟩ := HO.out.at_ hjl
                  obtain ⟨e3, _⟩ := hrep2
                  subst e3
                  have hy := List.getElem?_eq_getElem hjl
                  obtain ⟨y0, y1⟩ := HOF.out _ (List.getElem_mem hjl)
                  obtain ⟨yn, hyn⟩ : ∃ yn : Nat, r.outs[j] = yn := ⟨r.outs[j].toNat, by omega⟩
                  have hyt : r.outs[j].toNat = yn := by omega
                  have hyk : yn < k := by omega
                  have hbi : bi < w.heap.size := HO.out.lt _ hbL2
                  have p3 : wr.cell? ⟨bi, oi + j, none⟩ = some (.int .i64 ((yn : Nat) : Int)) := by
                    have h := hc2 0 _ rfl
                    rw [show oi + (j * intC.size + 0) = oi + j from by show oi + (j * 1 + 0) = _; omega, hyn] at h
                    exact ((HW.out.below.cell (p := ⟨bi, oi + j, none⟩) (by show bi < w0.heap.size; rw [H0.out]; omega)).trans (HB.out.cell (p := ⟨bi, oi + j, none⟩) hbi)).trans h
                  have s0 : wr.cell? ⟨g, 0, none⟩ = some (.int .i64 ((x : Nat) : Int)) := HK.out.at rfl
                  have s1 : wr.cell? ⟨w0.heap.size, x, none⟩ = some (.slice (some ⟨w0.heap.size + 1 + x, 0, none⟩) k k) := HW.out.top.cell hxk
                  have s2 := (HW.out.row x hxk).cell hyk
                  have s3 := (HW.out.row x hxk).frozen yn
                  have HY : Hid (r.outs[j]? = some r.outs[j] ∧ r.outs[j].toNat = yn) := ⟨hy, hyt⟩
                  clear hc2 hy hyt hyn y0 y1
                  go_wp2
                  refine ⟨⟨j + 1, by omega, by simp, ?_, HK.out.far (by show g ≠ w0.heap.size + 1 + x; have := HG.out; omega) _⟩, by simp [intOf]; omega⟩
                  show MatI w0 _ k _
                  rw [take_foldl_succ HY.out.1]
                  have e : ∀ d, markRow r.for_.toNat d r.outs[j] = setM d x yn true := fun d => by unfold markRow; rw [HX.out, HY.out.2]
                  rw [e]
                  exact HW.out.set hxk hyk true
                · have hjp : j = po := by omega
                  go_wp2
                  refine ⟨⟨q + 1, by omega, by simp, ?_⟩, by simp [intOf]; omega⟩
                  show MatI w0 _ k _
                  rw [take_foldl_succ HQ.out, ← HD0.out]
                  have h := HW.out
                  rw [hjp, List.take_of_length_le (Nat.le_of_eq HOL.out), List.take_of_length_le (Nat.le_of_eq HIL.out)] at h
                  exact h
        · have hqm : q = m := by omega
          have HD : Hid (MatI w0 wr k (b.reasons.foldl markR (List.replicate k (List.replicate k false)))) := by
            have h := HA.out
            rw [hqm, List.take_of_length_le (Nat.le_of_eq HM.out)] at h
            exact h
          clear HA hqm
          go_wp2
          obtain ⟨E, hE⟩ : ∃ E, E = b.reasons.foldl markR (List.replicate k (List.replicate k false)) := ⟨_, rfl⟩
          have HE : Hid (E = b.reasons.foldl markR (List.replicate k (List.replicate k false))) := hE
          have hst : Hid (MatI w0 wr k ((List.range' 0 0).foldl (stepK k) E)) := by rw [hE]; exact HD
          clear HD hE hlt hq
          go_loopw [69] (fun i wr => ∃ (a : Nat), a ≤ k ∧ i = .int .i64 a ∧ Hid (MatI w0 wr k ((List.range' 0 a).foldl (stepK k) E))) (fun i _ => k - (intOf i).toNat)
          case atStart => exact ⟨0, Nat.zero_le _, rfl, hst⟩
          case round =>
            clear hst
            obtain ⟨a, ha, rfl, HA⟩ := hrel
            by_cases hak : a < k
            · go_wp2
              obtain ⟨E1, hE1⟩ : ∃ E1, E1 = (List.range' 0 a).foldl (stepK k) E := ⟨_, rfl⟩
              have HE1 : Hid (E1 = (List.range' 0 a).foldl (stepK k) E) := hE1
              have hst : Hid (MatI w0 wr k ((List.range' 0 0).foldl (stepI k a) E1)) := by rw [hE1]; exact HA
              clear HA hE1
              go_loopw [74] (fun i wr => ∃ (c : Nat), c ≤ k ∧ i = .int .i64 c ∧ Hid (MatI w0 wr k ((List.range' 0 c).foldl (stepI k a) E1))) (fun i _ => k - (intOf i).toNat)
              case atStart => exact ⟨0, Nat.zero_le _, rfl, hst⟩
              case round =>
                clear hst
                obtain ⟨c, hc, rfl, HA⟩ := hrel
                by_cases hck : c < k
                · go_wp2
                  obtain ⟨E2, hE2⟩ : ∃ E2, E2 = (List.range' 0 c).foldl (stepI k a) E1 := ⟨_, rfl⟩
                  have HE2 : Hid (E2 = (List.range' 0 c).foldl (stepI k a) E1) := hE2
                  have hst : Hid (MatI w0 wr k ((List.range' 0 0).foldl (stepJ a c) E2)) := by rw [hE2]; exact HA
                  clear HA hE2
                  go_loopw [79] (fun i wr => ∃ (e : Nat), e ≤ k ∧ i = .int .i64 e ∧ Hid (MatI w0 wr k ((List.range' 0 e).foldl (stepJ a c) E2))) (fun i _ => k - (intOf i).toNat)
                  case atStart => exact ⟨0, Nat.zero_le _, rfl, hst⟩
                  case round =>
                    clear hst
                    obtain ⟨e, he, rfl, HA⟩ := hrel
                    by_cases hek : e < k
                    · obtain ⟨E3, hE3⟩ : ∃ E3, E3 = (List.range' 0 e).foldl (stepJ a c) E2 := ⟨_, rfl⟩
                      have HE3 : Hid (E3 = (List.range' 0 e).foldl (stepJ a c) E2) := hE3
                      have HW : Hid (MatI w0 wr k E3) := by rw [hE3]; exact HA
                      clear HA hE3
                      have s1 : wr.cell? ⟨w0.heap.size, c, none⟩ = some (.slice (some ⟨w0.heap.size + 1 + c, 0, none⟩) k k) := HW.out.top.cell hck
                      have s2 : wr.cell? ⟨w0.heap.size, a, none⟩ = some (.slice (some ⟨w0.heap.size + 1 + a, 0, none⟩) k k) := HW.out.top.cell hak
                      obtain ⟨v1, hv1⟩ : ∃ v, getM E3 c e = v := ⟨_, rfl⟩
                      obtain ⟨v2, hv2⟩ : ∃ v, getM E3 c a = v := ⟨_, rfl⟩
                      obtain ⟨v3, hv3⟩ : ∃ v, getM E3 a e = v := ⟨_, rfl⟩
                      have u1 : wr.cell? ⟨w0.heap.size + 1 + c, e, none⟩ = some (.bool v1) := by rw [← hv1]; exact (HW.out.row c hck).cell hek
                      have u2 : wr.cell? ⟨w0.heap.size + 1 + c, a, none⟩ = some (.bool v2) := by rw [← hv2]; exact (HW.out.row c hck).cell hak
                      have u3 : wr.cell? ⟨w0.heap.size + 1 + a, e, none⟩ = some (.bool v3) := by rw [← hv3]; exact (HW.out.row a hak).cell hek
                      have u4' : wr.frozen? ⟨w0.heap.size + 1 + c, e, none⟩ = false := (HW.out.row c hck).frozen e
                      have hset : Hid (MatI w0 (wr.setCell ⟨w0.heap.size + 1 + c, e, none⟩ (.bool (v1 || (v2 && v3)))).drew k ((List.range' 0 (e + 1)).foldl (stepJ a c) E2)) := by
                        show MatI w0 _ k _
                        rw [range_foldl_succ, ← HE3.out]
                        unfold stepJ
                        rw [hv1, hv2, hv3]
                        exact (HW.out.set hck hek _).drew
                      clear hv1 hv2 hv3
                      go_wp2_with fail
                      cases v1 <;> cases v2 <;> cases v3 <;>
                        (go_big_region
                         go_wp2
                         exact ⟨⟨e + 1, by omega, by simp, hset⟩, by simp [intOf]; omega⟩)
                    · have hee : e = k := by omega
                      go_wp2
                      refine ⟨⟨c + 1, by omega, by simp, ?_⟩, by simp [intOf]; omega⟩
                      show MatI w0 _ k _
                      rw [range_foldl_succ, ← HE2.out]
                      have h := HA.out
                      rw [hee] at h
                      exact h
                · have hcc : c = k := by omega
                  go_wp2
                  refine ⟨⟨a + 1, by omega, by simp, ?_⟩, by simp [intOf]; omega⟩
                  show MatI w0 _ k _
                  rw [range_foldl_succ, ← HE1.out]
                  have h := HA.out
                  rw [hcc] at h
                  exact h
            · have haa : a = k := by omega
              have HF : Hid (MatI w0 wr k (depsM k b.reasons)) := by
                have h := HA.out
                rw [haa, HE.out] at h
                exact h
              clear HA haa
              go_wp2
              go_ret
              exact ⟨w0, HB.out, rfl, HF.out⟩
theorem i_dependencies_ok {b_0 : BeliefsD} {r : List (List Bool)} (h : i_dependencies b_0 = some r) : Sound Try.prog J0 45 [(true, eBeliefs b_0)] [(false, [(true, .sl 38 1 (List.map eSlBool_4 r))])] := by
  unfold i_dependencies at h
  split at h
  · rename_i hok
    obtain rfl := Option.some.inj h
    refine ⟨⟨Try.f45, Try.func45, by kernel_rfl, by kernel_rfl⟩, fun w z vs hj hz ha => ?_⟩
    cases vs with
    | nil => exact ha.elim
    | cons v vs =>
      obtain ⟨ha, hr⟩ := ha
      cases vs with
      | cons _ _ => exact hr.elim
      | nil =>
        rcases ha with ⟨_, cs, L, rfl, hR, _⟩ | ⟨hf, _⟩
        · refine (i_dep_walk hok w cs L (encBeliefs.of hR)).mono ?_
          rintro e w' ⟨w0, hB, rfl, hM⟩
          have h24 : b_0.nodes.toNat ≤ 24 := by
            unfold okDep at hok
            rw [Bool.and_eq_true, decide_eq_true_iff] at hok
            omega
          obtain ⟨L2, hrep, hL2⟩ := hM.rep h24
          have hrc := ((encBool.slice 4).sl 38).1 hrep
          have hno : ∀ y ∈ L2, ¬ z y := fun y my hzy => by
            have h1 := hz y hzy
            have h2 := hL2 y my
            have h3 := hB.size
            omega
          exact ⟨_, z, rfl, ⟨[_], [], ⟨_, [], [], [], rfl, rfl, .inr ⟨rfl, _, rfl, rfl, L2, hrc, hno⟩, rfl, rfl⟩, Own.nil _ _, rfl⟩, fun _ h => h, hB.trans (hM.below.mono hB.size)⟩
        · simp at hf
  · cases h
end
section
open Go.Proofs.Try
set_option linter.unusedSimpArgs false
set_option linter.unusedVariables false
set_option maxRecDepth 1000000
set_option maxHeartbeats 4000000
theorem s_l1Once_ok {c_0 : l1CurD} {n_1 : Int} {r : (Bool × l1CurD)} (h : s_l1Once c_0 n_1 = some r) : SoundH Try.prog J0 JF0 32 (.box 64 (el1Cur c_0)) [(false, [.int .i64 n_1])] [(false, [(false, .bool r.1)])] (.box 64 (el1Cur r.2)) := by
  refine fnh Try.func32 rfl ?_
  unfold s_l1Once at h
  simp only [fnH, f32, handSt, handSV, handOb, go_sem, seval]
  obtain ⟨v1, e1, h⟩ := bind_K h
  refine hand_K (by have hh := s_l1Below_ok e1; first | exact hh | (simp only [go_sem, *] at hh; exact hh)) ?_
  obtain rfl := Option.some.inj h
  try simp only [go_sem, seval, *]
theorem i_IsFrame_ok {f_0 : FrameD} {r : Bool} (h : i_IsFrame f_0 = some r) : Sound Try.prog J0 15 [(true, eFrame f_0)] [(false, [(false, .bool r)])] := by
  refine fnk Try.func15 rfl ?_
  unfold i_IsFrame at h
  simp only [fnS, f15, argSt, go_sem, seval]
  obtain ⟨v1, e1, h⟩ := bind_K h
  refine call_K (by have hh := i_IsBeliefs_ok e1; first | exact hh | (simp only [go_sem, *] at hh; exact hh)) ?_
  try simp only [go_sem, seval, *]
  refine ite_K h (fun c2 h => ?_) (fun c2 h => ?_) <;> try simp only [go_sem, seval, *]
  · refine ite_K h (fun c3 h => ?_) (fun c3 h => ?_) <;> try simp only [go_sem, seval, *]
    · obtain rfl := Option.some.inj h
      try simp only [go_sem, seval, *]
    · obtain ⟨v2, e4, h⟩ := bind_K h
      refine call_K (by have hh := i_ascendingNodes_ok e4; first | exact hh | (simp only [go_sem, *] at hh; exact hh)) ?_
      try simp only [go_sem, seval, *]
      refine ite_K h (fun c5 h => ?_) (fun c5 h => ?_) <;> try simp only [go_sem, seval, *]
      · obtain ⟨v3, e6, h⟩ := bind_K h
        refine call_K (by have hh := i_ascendingNodes_ok e6; first | exact hh | (simp only [go_sem, *] at hh; exact hh)) ?_
        try simp only [go_sem, seval, *]
        refine ite_K h (fun c7 h => ?_) (fun c7 h => ?_) <;> try simp only [go_sem, seval, *]
        · refine swp_for h (fun i _ st => IV [(35, .p false [.c (.sl 47 3 (List.map eReason f_0.beliefs.reasons))]), (36, .p false [.c (.int .i64 ((f_0.beliefs.reasons.length : Nat) : Int))]), (37, .p false [.c (.int .i64 ((i : Nat) : Int))])] [] st) [] [] (by decide) ?_ ?_ ?_
          · simp only [go_sem, seval, *]
          · rintro i7 x8 ⟨⟩ ⟨sl, ob, n⟩ y8 hx9 hI10 hW11 h hy8
            simp only [go_sem, seval, str_len] at hI10
            obtain ⟨⟨g12_35, g12_36, g12_37⟩, hn⟩ := hI10
            subst hn
            have hlhx9 := WF.slotL hW11 g12_35 (j := 0) rfl
            have q13 := lt_t hx9
            have q14 := lt_p hx9
            have q15 := nat_in (lt_n hx9) hlhx9
            try simp only [go_sem, seval, *]
            refine ite_K h (fun c16 h => ?_) (fun c16 h => ?_) <;> try simp only [go_sem, seval, *]
            · replace h := inr_K h hy8
              obtain rfl := Option.some.inj h
              try simp only [go_sem, seval, *]
            · refine ⟨_, [], [], (Option.some.inj h).symm, by decide, ?_⟩
              try simp only [go_sem, seval, *]
          · rintro ⟨⟩ ⟨sl, ob, n⟩ hI17 hW18 h
            simp only [go_sem, seval, str_len] at hI17
            obtain ⟨⟨g19_35, g19_36, g19_37⟩, hn⟩ := hI17
            subst hn
            have q20 := lt_f (f_0.beliefs.reasons.length)
            obtain rfl := Option.some.inj h
            try simp only [go_sem, seval, *]
        · obtain rfl := Option.some.inj h
          try simp only [go_sem, seval, *]
      · obtain rfl := Option.some.inj h
        try simp only [go_sem, seval, *]
  · obtain rfl := Option.some.inj h
    try simp only [go_sem, seval, *]
theorem i_copyBeliefs_ok {b_0 : BeliefsD} {r : BeliefsD} (h : i_copyBeliefs b_0 = some r) : Sound Try.prog J0 16 [(true, eBeliefs b_0)] [(true, [(false, .int .i64 r.nodes), (false, .sl 47 3 (List.map eReason r.reasons))])] := by
  refine fnk Try.func16 rfl ?_
  unfold i_copyBeliefs at h
  simp only [fnS, f16, argSt, go_sem, seval]
  refine swp_for h (fun i row_5 st => IV [(2, .bp 0 0), (3, .bp 1 0), (10, .p false [.c (.sl 47 3 (List.map eReason b_0.reasons))]), (11, .p false [.c (.int .i64 ((b_0.reasons.length : Nat) : Int))]), (12, .p false [.c (.int .i64 ((i : Nat) : Int))])] [.box 26 [.c (.int .i64 0), .nil 47 3], .box 26 [.c (.int .i64 b_0.nodes), .row 2], .row 47 3 (List.map eReason row_5) 2] st) [(true, 80, 1)] [16, 80, 176] (by decide) ?_ ?_ ?_
  · simp only [go_sem, seval, *]
  · rintro i9 x10 row_5 ⟨sl, ob, n⟩ y1 hx2 hI3 hW4 h hy1
    simp only [go_sem, seval, str_len] at hI3
    obtain ⟨⟨g5_2, g5_3, g5_10, g5_11, g5_12⟩, og5_0, og5_1, og5_2, hn⟩ := hI3
    subst hn
    have hlhx2 := WF.slotL hW4 g5_10 (j := 0) rfl
    have q6 := lt_t hx2
    have q7 := lt_p hx2
    have q8 := nat_in (lt_n hx2) hlhx2
    try simp only [go_sem, seval, *]
    obtain ⟨v11, e9, h⟩ := bind_K h
    refine call_K (by have hh := i_copyReason_ok e9; first | exact hh | (simp only [go_sem, *] at hh; exact hh)) ?_
    obtain ⟨p10, h⟩ := chk_K h
    try simp only [Nat.reduceLeDiff] at p10
    try simp only [go_sem, seval, *]
    refine ⟨_, [], [0, 1, 163], (Option.some.inj h).symm, by decide, ?_⟩
    try simp only [go_sem, seval, *]
  · rintro row_5 ⟨sl, ob, n⟩ hI11 hW12 h
    simp only [go_sem, seval, str_len] at hI11
    obtain ⟨⟨g13_2, g13_3, g13_10, g13_11, g13_12⟩, og13_0, og13_1, og13_2, hn⟩ := hI11
    subst hn
    have q14 := lt_f (b_0.reasons.length)
    obtain rfl := Option.some.inj h
    try simp only [go_sem, seval, *]
theorem i_IsStratified_ok {b_0 : BeliefsD} {r : Bool} (h : i_IsStratified b_0 = some r) : Sound Try.prog J0 28 [(true, eBeliefs b_0)] [(false, [(false, .bool r)])] := by
  refine fnk Try.func28 rfl ?_
  unfold i_IsStratified at h
  simp only [fnS, f28, argSt, go_sem, seval]
  obtain ⟨v1, e1, h⟩ := bind_K h
  refine call_K (by have hh := i_IsBeliefs_ok e1; first | exact hh | (simp only [go_sem, *] at hh; exact hh)) ?_
  try simp only [go_sem, seval, *]
  refine ite_K h (fun c2 h => ?_) (fun c2 h => ?_) <;> try simp only [go_sem, seval, *]
  · obtain ⟨v2, e3, h⟩ := bind_K h
    refine frz_K (by have hh := i_dependencies_ok e3; first | exact hh | (simp only [go_sem, *] at hh; exact hh)) ?_
    try simp only [go_sem, seval, *]
    refine swp_for h (fun i _ st => IV [(3, .p false [.c (.sl 38 1 (List.map eSlBool_4 v2))]), (14, .p false [.c (.sl 47 3 (List.map eReason b_0.reasons))]), (15, .p false [.c (.int .i64 ((b_0.reasons.length : Nat) : Int))]), (16, .p false [.c (.int .i64 ((i : Nat) : Int))])] [] st) [] [] (by decide) ?_ ?_ ?_
    · simp only [go_sem, seval, *]
    · rintro i28 x29 ⟨⟩ ⟨sl, ob, n⟩ y4 hx5 hI6 hW7 h hy4
      simp only [go_sem, seval, str_len] at hI6
      obtain ⟨⟨g8_3, g8_14, g8_15, g8_16⟩, hn⟩ := hI6
      subst hn
      have hlhx5 := WF.slotL hW7 g8_14 (j := 0) rfl
      have q9 := lt_t hx5
      have q10 := lt_p hx5
      have q11 := nat_in (lt_n hx5) hlhx5
      try simp only [go_sem, seval, *]
      refine swp_for h (fun i _ st => IV [(3, .p false [.c (.sl 38 1 (List.map eSlBool_4 v2))]), (5, .bp 0 0), (14, .p false [.c (.sl 47 3 (List.map eReason b_0.reasons))]), (15, .p false [.c (.int .i64 ((b_0.reasons.length : Nat) : Int))]), (16, .p false [.c (.int .i64 ((i28 : Nat) : Int))]), (21, .p false [.c (.sl 3 1 (List.map eInt x29.outs))]), (22, .p false [.c (.int .i64 ((x29.outs.length : Nat) : Int))]), (23, .p false [.c (.int .i64 ((i : Nat) : Int))])] [.box 47 [.c (.int .i64 x29.for_), .c (.sl 3 1 (List.map eInt x29.inn)), .c (.sl 3 1 (List.map eInt x29.outs))]] st) [] [48] (by decide) ?_ ?_ ?_
      · simp only [go_sem, seval, *]
      · rintro i37 x38 ⟨⟩ ⟨sl, ob, n⟩ y12 hx13 hI14 hW15 h hy12
        simp only [go_sem, seval, str_len] at hI14
        obtain ⟨⟨g16_3, g16_5, g16_14, g16_15, g16_16, g16_21, g16_22, g16_23⟩, og16_0, hn⟩ := hI14
        subst hn
        have hlhx13 := WF.slotL hW15 g16_21 (j := 0) rfl
        have q17 := lt_t hx13
        have q18 := lt_p hx13
        have q19 := nat_in (lt_n hx13) hlhx13
        try simp only [go_sem, seval, *]
        refine ite_K h (fun c20 h => ?_) (fun c20 h => ?_) <;> try simp only [go_sem, seval, *]
        · replace h := inr_K h hy12
          replace h := inr_K h hy4
          obtain rfl := Option.some.inj h
          try simp only [go_sem, seval, *]
        · obtain ⟨x39, a21, a22, e23, h⟩ := at_K h
          obtain ⟨x40, a24, a25, e26, h⟩ := at_K h
          try simp only [go_sem, seval, *]
          refine ite_K h (fun c27 h => ?_) (fun c27 h => ?_) <;> try simp only [go_sem, seval, *]
          · replace h := inr_K h hy12
            replace h := inr_K h hy4
            obtain rfl := Option.some.inj h
            try simp only [go_sem, seval, *]
          · refine ⟨_, [], [0], (Option.some.inj h).symm, by decide, ?_⟩
            try simp only [go_sem, seval, *]
      · rintro ⟨⟩ ⟨sl, ob, n⟩ hI28 hW29 h
        simp only [go_sem, seval, str_len] at hI28
        obtain ⟨⟨g30_3, g30_5, g30_14, g30_15, g30_16, g30_21, g30_22, g30_23⟩, og30_0, hn⟩ := hI28
        subst hn
        have q31 := lt_f (x29.outs.length)
        try simp only [go_sem, seval, *]
        refine ⟨_, [], [], (Option.some.inj h).symm, by decide, ?_⟩
        try simp only [go_sem, seval, *]
    · rintro ⟨⟩ ⟨sl, ob, n⟩ hI32 hW33 h
      simp only [go_sem, seval, str_len] at hI32
      obtain ⟨⟨g34_3, g34_14, g34_15, g34_16⟩, hn⟩ := hI32
      subst hn
      have q35 := lt_f (b_0.reasons.length)
      obtain rfl := Option.some.inj h
      try simp only [go_sem, seval, *]
  · obtain rfl := Option.some.inj h
    try simp only [go_sem, seval, *]
theorem i_labels_ok {b_0 : BeliefsD} {r : (List Bool)} (h : i_labels b_0 = some r) : Sound Try.prog J0 29 [(true, eBeliefs b_0)] [(false, [(false, .sl 4 1 (List.map eBool r))])] := by
  refine fnk Try.func29 rfl ?_
  unfold i_labels at h
  simp only [fnS, f29, argSt, go_sem, seval]
  obtain ⟨v1, e1, h⟩ := bind_K h
  refine call_K (by have hh := i_rounds_ok e1; first | exact hh | (simp only [go_sem, *] at hh; exact hh)) ?_
  try simp only [go_sem, seval, *]
  refine swp_for h (fun i row_4 st => IV [(3, .p false [.row 0]), (7, .p false [.row 1]), (8, .p false [.c (.int .i64 ((v1.length : Nat) : Int))]), (9, .p false [.c (.int .i64 ((i : Nat) : Int))])] [.row 4 1 (List.map eBool row_4) 2, .row 3 1 (List.map eInt v1) 2] st) [(false, 3, 0)] [112, 64] (by decide) ?_ ?_ ?_
  · simp only [go_sem, seval, *]
  · rintro i7 x8 row_4 ⟨sl, ob, n⟩ y2 hx3 hI4 hW5 h hy2
    simp only [go_sem, seval, str_len] at hI4
    obtain ⟨⟨g6_3, g6_7, g6_8, g6_9⟩, og6_0, og6_1, hn⟩ := hI4
    subst hn
    have hlhx3 := WF.rowL hW5 og6_1
    have q7 := lt_t hx3
    have q8 := lt_p hx3
    have q9 := nat_in (lt_n hx3) hlhx3
    obtain ⟨p10, h⟩ := chk_K h
    try simp only [Nat.reduceLeDiff] at p10
    try simp only [go_sem, seval, *]
    refine ⟨_, [], [130, 1], (Option.some.inj h).symm, by decide, ?_⟩
    try simp only [go_sem, seval, *]
  · rintro row_4 ⟨sl, ob, n⟩ hI11 hW12 h
    simp only [go_sem, seval, str_len] at hI11
    obtain ⟨⟨g13_3, g13_7, g13_8, g13_9⟩, og13_0, og13_1, hn⟩ := hI11
    subst hn
    have q14 := lt_f (v1.length)
    obtain rfl := Option.some.inj h
    try simp only [go_sem, seval, *]
theorem i_DropReasons_ok {b_0 : BeliefsD} {l_1 : (List Int)} {r : BeliefsD} (h : i_DropReasons b_0 l_1 = some r) : Sound Try.prog J0 19 [(true, eBeliefs b_0), (false, [.sl 3 1 (List.map eInt l_1)])] [(true, [(false, .int .i64 r.nodes), (false, .sl 47 3 (List.map eReason r.reasons))])] := by
  refine fnk Try.func19 rfl ?_
  unfold i_DropReasons at h
  simp only [fnS, f19, argSt, go_sem, seval]
  refine swp_for h (fun i row_11 st => IV [(1, .p false [.c (.sl 3 1 (List.map eInt l_1))]), (4, .bp 0 0), (5, .bp 1 0), (12, .p false [.c (.sl 47 3 (List.map eReason b_0.reasons))]), (13, .p false [.c (.int .i64 ((b_0.reasons.length : Nat) : Int))]), (14, .p false [.c (.int .i64 ((i : Nat) : Int))])] [.box 26 [.c (.int .i64 0), .nil 47 3], .box 26 [.c (.int .i64 b_0.nodes), .row 2], .row 47 3 (List.map eReason row_11) 2] st) [(true, 80, 1)] [16, 80, 176] (by decide) ?_ ?_ ?_
  · simp only [go_sem, seval, *]
  · rintro i15 x16 row_11 ⟨sl, ob, n⟩ y1 hx2 hI3 hW4 h hy1
    simp only [go_sem, seval, str_len] at hI3
    obtain ⟨⟨g5_1, g5_4, g5_5, g5_12, g5_13, g5_14⟩, og5_0, og5_1, og5_2, hn⟩ := hI3
    subst hn
    have hlhx2 := WF.slotL hW4 g5_12 (j := 0) rfl
    have q6 := lt_t hx2
    have q7 := lt_p hx2
    have q8 := nat_in (lt_n hx2) hlhx2
    try simp only [go_sem, seval, *]
    obtain ⟨v17, e9, h⟩ := bind_K h
    refine call_K (by have hh := i_hasInt_ok e9; first | exact hh | (simp only [go_sem, *] at hh; exact hh)) ?_
    try simp only [go_sem, seval, *]
    refine ite_K h (fun c10 h => ?_) (fun c10 h => ?_) <;> try simp only [go_sem, seval, *]
    · refine ⟨_, [], [0, 1, 2], (Option.some.inj h).symm, by decide, ?_⟩
      try simp only [go_sem, seval, *]
    · obtain ⟨v18, e11, h⟩ := bind_K h
      refine call_K (by have hh := i_copyReason_ok e11; first | exact hh | (simp only [go_sem, *] at hh; exact hh)) ?_
      obtain ⟨p12, h⟩ := chk_K h
      try simp only [Nat.reduceLeDiff] at p12
      try simp only [go_sem, seval, *]
      refine ⟨_, [], [0, 1, 259], (Option.some.inj h).symm, by decide, ?_⟩
      try simp only [go_sem, seval, *]
  · rintro row_11 ⟨sl, ob, n⟩ hI13 hW14 h
    simp only [go_sem, seval, str_len] at hI13
    obtain ⟨⟨g15_1, g15_4, g15_5, g15_12, g15_13, g15_14⟩, og15_0, og15_1, og15_2, hn⟩ := hI13
    subst hn
    have q16 := lt_f (b_0.reasons.length)
    obtain rfl := Option.some.inj h
    try simp only [go_sem, seval, *]
theorem i_HittingSets_ok {l_0 : (List Int)} {n_1 : Int} {r : (List Int)} (h : i_HittingSets l_0 n_1 = some r) : Sound Try.prog J0 8 [(false, [.sl 3 1 (List.map eInt l_0)]), (false, [.int .i64 n_1])] [(false, [(false, .sl 3 1 (List.map eInt r))])] := by
  refine fnk Try.func8 rfl ?_
  unfold i_HittingSets at h
  simp only [fnS, f8, argSt, go_sem, seval]
  refine ite_K h (fun c1 h => ?_) (fun c1 h => ?_) <;> try simp only [go_sem, seval, *]
  · obtain rfl := Option.some.inj h
    try simp only [go_sem, seval, *]
  · refine ite_K h (fun c2 h => ?_) (fun c2 h => ?_) <;> try simp only [go_sem, seval, *]
    · obtain rfl := Option.some.inj h
      try simp only [go_sem, seval, *]
    · refine swp_for h (fun i _ st => IV [(0, .p false [.c (.sl 3 1 (List.map eInt l_0))]), (1, .p false [.c (.int .i64 n_1)]), (18, .p false [.c (.sl 3 1 (List.map eInt l_0))]), (19, .p false [.c (.int .i64 ((l_0.length : Nat) : Int))]), (20, .p false [.c (.int .i64 ((i : Nat) : Int))])] [] st) [] [] (by decide) ?_ ?_ ?_
      · simp only [go_sem, seval, *]
      · rintro i25 x26 ⟨⟩ ⟨sl, ob, n⟩ y3 hx4 hI5 hW6 h hy3
        simp only [go_sem, seval, str_len] at hI5
        obtain ⟨⟨g7_0, g7_1, g7_18, g7_19, g7_20⟩, hn⟩ := hI5
        subst hn
        have hlhx4 := WF.slotL hW6 g7_0 (j := 0) rfl
        have q8 := lt_t hx4
        have q9 := lt_p hx4
        have q10 := nat_in (lt_n hx4) hlhx4
        try simp only [go_sem, seval, *]
        refine ite_K h (fun c11 h => ?_) (fun c11 h => ?_) <;> try simp only [go_sem, seval, *]
        · replace h := inr_K h hy3
          obtain rfl := Option.some.inj h
          try simp only [go_sem, seval, *]
        · obtain ⟨p12, h⟩ := chk_K h
          try simp only [go_sem, seval, *]
          refine ite_K h (fun c13 h => ?_) (fun c13 h => ?_) <;> try simp only [go_sem, seval, *]
          · replace h := inr_K h hy3
            obtain rfl := Option.some.inj h
            try simp only [go_sem, seval, *]
          · refine ⟨_, [], [], (Option.some.inj h).symm, by decide, ?_⟩
            try simp only [go_sem, seval, *]
      · rintro ⟨⟩ ⟨sl, ob, n⟩ hI14 hW15 h
        simp only [go_sem, seval, str_len] at hI14
        obtain ⟨⟨g16_0, g16_1, g16_18, g16_19, g16_20⟩, hn⟩ := hI14
        subst hn
        have q17 := lt_f (l_0.length)
        obtain ⟨p18, h⟩ := chk_K h
        try simp only [go_sem, seval, *]
        refine swp_iter h (fun s st => match s with | (row_39, u_40) => IV [(0, .p false [.c (.sl 3 1 (List.map eInt l_0))]), (7, .p false [.row 0]), (34, .p false [.c (.int .i64 (shlI .i64 1 n_1))]), (35, .p false [.c (.int .i64 u_40)])] [.row 3 1 (List.map eInt row_39) 2] st) [(false, 7, 0)] [80] (by decide) ?_ ?_
        · simp only [go_sem, seval, *]
        · rintro ⟨row_39, u_40⟩ ⟨sl, ob, n⟩ y19 hI20 hW21 h hy19
          simp only [go_sem, seval, str_len] at hI20
          obtain ⟨⟨g22_0, g22_7, g22_34, g22_35⟩, og22_0, hn⟩ := hI20
          subst hn
          try simp only [go_sem, seval, *]
          refine ite_K h (fun c23 h => ?_) (fun c23 h => ?_) <;> try simp only [go_sem, seval, *]
          · refine swp_for h (fun i hits_43 st => IV [(0, .p false [.c (.sl 3 1 (List.map eInt l_0))]), (7, .p false [.row 0]), (8, .p false [.c (.int .i64 u_40)]), (9, .p false [.c (.bool hits_43)]), (34, .p false [.c (.int .i64 (shlI .i64 1 n_1))]), (35, .p false [.c (.int .i64 u_40)]), (38, .p false [.c (.sl 3 1 (List.map eInt l_0))]), (39, .p false [.c (.int .i64 ((l_0.length : Nat) : Int))]), (40, .p false [.c (.int .i64 ((i : Nat) : Int))])] [.row 3 1 (List.map eInt row_39) 2] st) [] [0] (by decide) ?_ ?_ ?_
            · simp only [go_sem, seval, *]
            · rintro i45 x46 hits_43 ⟨sl, ob, n⟩ y24 hx25 hI26 hW27 h hy24
              simp only [go_sem, seval, str_len] at hI26
              obtain ⟨⟨g28_0, g28_7, g28_8, g28_9, g28_34, g28_35, g28_38, g28_39, g28_40⟩, og28_0, hn⟩ := hI26
              subst hn
              have hlhx25 := WF.slotL hW27 g28_0 (j := 0) rfl
              have q29 := lt_t hx25
              have q30 := lt_p hx25
              have q31 := nat_in (lt_n hx25) hlhx25
              try simp only [go_sem, seval, *]
              refine ite_K h (fun c32 h => ?_) (fun c32 h => ?_) <;> try simp only [go_sem, seval, *]
              · refine ⟨_, [], [0], (Option.some.inj h).symm, by decide, ?_⟩
                try simp only [go_sem, seval, *]
              · refine ⟨_, [], [0], (Option.some.inj h).symm, by decide, ?_⟩
                try simp only [go_sem, seval, *]
            · rintro hits_43 ⟨sl, ob, n⟩ hI33 hW34 h
              simp only [go_sem, seval, str_len] at hI33
              obtain ⟨⟨g35_0, g35_7, g35_8, g35_9, g35_34, g35_35, g35_38, g35_39, g35_40⟩, og35_0, hn⟩ := hI33
              subst hn
              have q36 := lt_f (l_0.length)
              try simp only [go_sem, seval, *]
              refine ite_K h (fun c37 h => ?_) (fun c37 h => ?_) <;> try simp only [go_sem, seval, *]
              · obtain ⟨p38, h⟩ := chk_K h
                try simp only [Nat.reduceLeDiff] at p38
                try simp only [go_sem, seval, *]
                refine ⟨_, [], [81], (Option.some.inj h).symm, by decide, ?_⟩
                try simp only [go_sem, seval, *]
              · refine ⟨_, [], [0], (Option.some.inj h).symm, by decide, ?_⟩
                try simp only [go_sem, seval, *]
          · obtain ⟨v47, e39, h⟩ := bind_K h
            refine call_K (by have hh := i_LeastSets_ok e39; first | exact hh | (simp only [go_sem, *] at hh; exact hh)) ?_
            replace h := inr_K h hy19
            obtain rfl := Option.some.inj h
            try simp only [go_sem, seval, *]
end
section
open Go.Proofs.Try
set_option linter.unusedSimpArgs false
set_option linter.unusedVariables false
set_option maxRecDepth 1000000
set_option maxHeartbeats 4000000
theorem s_l11Nodes_ok {c_0 : l1CurD} {n_1 : Int} {most_2 : Int} {r : ((List Int) × l1CurD)} (h : s_l11Nodes c_0 n_1 most_2 = some r) : SoundH Try.prog J0 JF0 33 (.box 64 (el1Cur c_0)) [(false, [.int .i64 n_1]), (false, [.int .i64 most_2])] [(false, [(false, .sl 3 1 (List.map eInt r.1))])] (.box 64 (el1Cur r.2)) := by
  refine fnh Try.func33 rfl ?_
  unfold s_l11Nodes at h
  simp only [fnH, f33, handSt, handSV, handOb, go_sem, seval]
  refine swp_iter h (fun s st => match s with | (f_2, f_3, f_4, row_5, i_6) => IV [(0, .bp 0 0), (1, .p false [.c (.int .i64 n_1)]), (2, .p false [.c (.int .i64 most_2)]), (7, .p false [.row 1]), (8, .p false [.c (.int .i64 i_6)])] [.box 64 [.c (.sl 5 1 (List.map eByte f_2)), .c (.int .i64 f_3), .c (.int .i64 f_4)], .row 3 1 (List.map eInt row_5) 2] st) [] [0, 17] (by decide) ?_ ?_
  · simp only [go_sem, seval, *]
  · rintro ⟨f_2, f_3, f_4, row_5, i_6⟩ ⟨sl, ob, n⟩ y1 hI2 hW3 h hy1
    simp only [go_sem, seval, str_len] at hI2
    obtain ⟨⟨g4_0, g4_1, g4_2, g4_7, g4_8⟩, og4_0, og4_1, hn⟩ := hI2
    subst hn
    try simp only [go_sem, seval, *]
    refine ite_K h (fun c5 h => ?_) (fun c5 h => ?_) <;> try simp only [go_sem, seval, *]
    · refine ite_K h (fun c6 h => ?_) (fun c6 h => ?_) <;> try simp only [go_sem, seval, *]
      · obtain ⟨v7, e7, h⟩ := bind_K h
        refine hand_K (by have hh := s_l1Once_ok e7; first | exact hh | (simp only [go_sem, *] at hh; exact hh)) ?_
        try simp only [go_sem, seval, *]
        refine ite_K h (fun c8 h => ?_) (fun c8 h => ?_) <;> try simp only [go_sem, seval, *]
        · obtain ⟨p9, h⟩ := chk_K h
          try simp only [Nat.reduceLeDiff] at p9
          try simp only [go_sem, seval, *]
          refine ⟨_, [], [0, 226], (Option.some.inj h).symm, by decide, ?_⟩
          try simp only [go_sem, seval, *]
        · refine ⟨_, [], [0, 1], (Option.some.inj h).symm, by decide, ?_⟩
          try simp only [go_sem, seval, *]
      · replace h := inr_K h hy1
        obtain rfl := Option.some.inj h
        try simp only [go_sem, seval, *]
    · replace h := inr_K h hy1
      obtain rfl := Option.some.inj h
      try simp only [go_sem, seval, *]
theorem i_PremisesFrom_ok {f_0 : FrameD} {r : (BeliefsD × (List Int) × Bool)} (h : i_PremisesFrom f_0 = some r) : Sound Try.prog J0 6 [(true, eFrame f_0)] [(true, [(false, .int .i64 r.1.nodes), (false, .sl 47 3 (List.map eReason r.1.reasons))]), (false, [(false, .sl 3 1 (List.map eInt r.2.1))]), (false, [(false, .bool r.2.2)])] := by
  refine fnk Try.func6 rfl ?_
  unfold i_PremisesFrom at h
  simp only [fnS, f6, argSt, go_sem, seval]
  obtain ⟨v1, e1, h⟩ := bind_K h
  refine call_K (by have hh := i_IsFrame_ok e1; first | exact hh | (simp only [go_sem, *] at hh; exact hh)) ?_
  try simp only [go_sem, seval, *]
  refine ite_K h (fun c2 h => ?_) (fun c2 h => ?_) <;> try simp only [go_sem, seval, *]
  · refine ite_K h (fun c3 h => ?_) (fun c3 h => ?_) <;> try simp only [go_sem, seval, *]
    · obtain rfl := Option.some.inj h
      try simp only [go_sem, seval, *]
    · obtain ⟨v2, e4, h⟩ := bind_K h
      refine call_K (by have hh := i_copyBeliefs_ok e4; first | exact hh | (simp only [go_sem, *] at hh; exact hh)) ?_
      try simp only [go_sem, seval, *]
      refine swp_for h (fun i s st => match s with | (row_5, row_6) => IV [(2, .bp 0 0), (5, .bp 1 0), (6, .p false [.row 3]), (28, .p false [.c (.sl 3 1 (List.map eInt f_0.assumed))]), (29, .p false [.c (.int .i64 ((f_0.assumed.length : Nat) : Int))]), (30, .p false [.c (.int .i64 ((i : Nat) : Int))])] [.box 26 [.c (.int .i64 0), .nil 47 3], .box 26 [.c (.int .i64 v2.nodes), .row 2], .row 47 3 (List.map eReason row_5) 2, .row 3 1 (List.map eInt row_6) 2] st) [(false, 6, 0)] [16, 336, 320, 448] (by decide) ?_ ?_ ?_
      · simp only [go_sem, seval, *]
      · rintro i9 x10 ⟨row_5, row_6⟩ ⟨sl, ob, n⟩ y5 hx6 hI7 hW8 h hy5
        simp only [go_sem, seval, str_len] at hI7
        obtain ⟨⟨g9_2, g9_5, g9_6, g9_28, g9_29, g9_30⟩, og9_0, og9_1, og9_2, og9_3, hn⟩ := hI7
        subst hn
        have hlhx6 := WF.slotL hW8 g9_28 (j := 0) rfl
        have q10 := lt_t hx6
        have q11 := lt_p hx6
        have q12 := nat_in (lt_n hx6) hlhx6
        obtain ⟨p13, h⟩ := chk_K h
        try simp only [Nat.reduceLeDiff] at p13
        obtain ⟨p14, h⟩ := chk_K h
        try simp only [Nat.reduceLeDiff] at p14
        try simp only [go_sem, seval, *]
        refine ⟨_, [], [0, 1, 260, 148], (Option.some.inj h).symm, by decide, ?_⟩
        try simp only [go_sem, seval, *]
      · rintro ⟨row_5, row_6⟩ ⟨sl, ob, n⟩ hI15 hW16 h
        simp only [go_sem, seval, str_len] at hI15
        obtain ⟨⟨g17_2, g17_5, g17_6, g17_28, g17_29, g17_30⟩, og17_0, og17_1, og17_2, og17_3, hn⟩ := hI15
        subst hn
        have q18 := lt_f (f_0.assumed.length)
        obtain rfl := Option.some.inj h
        try simp only [go_sem, seval, *]
  · obtain rfl := Option.some.inj h
    try simp only [go_sem, seval, *]
theorem i_IsCase_ok {b_0 : BeliefsD} {bad_1 : (List Int)} {free_2 : (List Int)} {r : Bool} (h : i_IsCase b_0 bad_1 free_2 = some r) : Sound Try.prog J0 17 [(true, eBeliefs b_0), (false, [.sl 3 1 (List.map eInt bad_1)]), (false, [.sl 3 1 (List.map eInt free_2)])] [(false, [(false, .bool r)])] := by
  refine fnk Try.func17 rfl ?_
  unfold i_IsCase at h
  simp only [fnS, f17, argSt, go_sem, seval]
  obtain ⟨v1, e1, h⟩ := bind_K h
  refine call_K (by have hh := i_IsStratified_ok e1; first | exact hh | (simp only [go_sem, *] at hh; exact hh)) ?_
  try simp only [go_sem, seval, *]
  refine ite_K h (fun c2 h => ?_) (fun c2 h => ?_) <;> try simp only [go_sem, seval, *]
  · obtain ⟨v2, e3, h⟩ := bind_K h
    refine call_K (by have hh := i_ascendingNodes_ok e3; first | exact hh | (simp only [go_sem, *] at hh; exact hh)) ?_
    try simp only [go_sem, seval, *]
    refine ite_K h (fun c4 h => ?_) (fun c4 h => ?_) <;> try simp only [go_sem, seval, *]
    · refine ite_K h (fun c5 h => ?_) (fun c5 h => ?_) <;> try simp only [go_sem, seval, *]
      · obtain rfl := Option.some.inj h
        try simp only [go_sem, seval, *]
      · obtain ⟨v3, e6, h⟩ := bind_K h
        refine call_K (by have hh := i_ascendingNodes_ok e6; first | exact hh | (simp only [go_sem, *] at hh; exact hh)) ?_
        try simp only [go_sem, seval, *]
        refine ite_K h (fun c7 h => ?_) (fun c7 h => ?_) <;> try simp only [go_sem, seval, *]
        · refine swp_for h (fun i _ st => IV [(3, .bp 0 0), (32, .p false [.c (.sl 3 1 (List.map eInt free_2))]), (33, .p false [.c (.int .i64 ((free_2.length : Nat) : Int))]), (34, .p false [.c (.int .i64 ((i : Nat) : Int))])] [.box 26 [.c (.int .i64 b_0.nodes), .c (.sl 47 3 (List.map eReason b_0.reasons))]] st) [] [0] (by decide) ?_ ?_ ?_
          · simp only [go_sem, seval, *]
          · rintro i11 x12 ⟨⟩ ⟨sl, ob, n⟩ y8 hx9 hI10 hW11 h hy8
            simp only [go_sem, seval, str_len] at hI10
            obtain ⟨⟨g12_3, g12_32, g12_33, g12_34⟩, og12_0, hn⟩ := hI10
            subst hn
            have hlhx9 := WF.slotL hW11 g12_32 (j := 0) rfl
            have q13 := lt_t hx9
            have q14 := lt_p hx9
            have q15 := nat_in (lt_n hx9) hlhx9
            obtain ⟨x13, a16, a17, e18, h⟩ := at_K h
            try simp only [go_sem, seval, *]
            obtain ⟨v14, e19, h⟩ := bind_K h
            refine call_K (by have hh := i_IsPremise_ok e19; first | exact hh | (simp only [go_sem, *] at hh; exact hh)) ?_
            try simp only [go_sem, seval, *]
            refine ite_K h (fun c20 h => ?_) (fun c20 h => ?_) <;> try simp only [go_sem, seval, *]
            · refine ⟨_, [], [0], (Option.some.inj h).symm, by decide, ?_⟩
              try simp only [go_sem, seval, *]
            · replace h := inr_K h hy8
              obtain rfl := Option.some.inj h
              try simp only [go_sem, seval, *]
          · rintro ⟨⟩ ⟨sl, ob, n⟩ hI21 hW22 h
            simp only [go_sem, seval, str_len] at hI21
            obtain ⟨⟨g23_3, g23_32, g23_33, g23_34⟩, og23_0, hn⟩ := hI21
            subst hn
            have q24 := lt_f (free_2.length)
            obtain rfl := Option.some.inj h
            try simp only [go_sem, seval, *]
        · obtain rfl := Option.some.inj h
          try simp only [go_sem, seval, *]
    · obtain rfl := Option.some.inj h
      try simp only [go_sem, seval, *]
  · obtain rfl := Option.some.inj h
    try simp only [go_sem, seval, *]
theorem i_badIn_ok {b_0 : BeliefsD} {bad_1 : (List Int)} {r : (List Int)} (h : i_badIn b_0 bad_1 = some r) : Sound Try.prog J0 18 [(true, eBeliefs b_0), (false, [.sl 3 1 (List.map eInt bad_1)])] [(false, [(false, .sl 3 1 (List.map eInt r))])] := by
  refine fnk Try.func18 rfl ?_
  unfold i_badIn at h
  simp only [fnS, f18, argSt, go_sem, seval]
  obtain ⟨v1, e1, h⟩ := bind_K h
  refine call_K (by have hh := i_labels_ok e1; first | exact hh | (simp only [go_sem, *] at hh; exact hh)) ?_
  try simp only [go_sem, seval, *]
  refine swp_for h (fun i row_6 st => IV [(5, .p false [.row 0]), (6, .p false [.row 1]), (11, .p false [.c (.sl 3 1 (List.map eInt bad_1))]), (12, .p false [.c (.int .i64 ((bad_1.length : Nat) : Int))]), (13, .p false [.c (.int .i64 ((i : Nat) : Int))])] [.row 4 1 (List.map eBool v1) 2, .row 3 1 (List.map eInt row_6) 2] st) [(false, 6, 0)] [48, 144] (by decide) ?_ ?_ ?_
  · simp only [go_sem, seval, *]
  · rintro i10 x11 row_6 ⟨sl, ob, n⟩ y2 hx3 hI4 hW5 h hy2
    simp only [go_sem, seval, str_len] at hI4
    obtain ⟨⟨g6_5, g6_6, g6_11, g6_12, g6_13⟩, og6_0, og6_1, hn⟩ := hI4
    subst hn
    have hlhx3 := WF.slotL hW5 g6_11 (j := 0) rfl
    have q7 := lt_t hx3
    have q8 := lt_p hx3
    have q9 := nat_in (lt_n hx3) hlhx3
    obtain ⟨p10, h⟩ := chk_K h
    obtain ⟨x12, e11, h⟩ := bind_K h
    try simp only [go_sem, seval, *]
    refine ite_K h (fun c12 h => ?_) (fun c12 h => ?_) <;> try simp only [go_sem, seval, *]
    · obtain ⟨p13, h⟩ := chk_K h
      try simp only [Nat.reduceLeDiff] at p13
      try simp only [go_sem, seval, *]
      refine ⟨_, [], [0, 178], (Option.some.inj h).symm, by decide, ?_⟩
      try simp only [go_sem, seval, *]
    · refine ⟨_, [], [0, 1], (Option.some.inj h).symm, by decide, ?_⟩
      try simp only [go_sem, seval, *]
  · rintro row_6 ⟨sl, ob, n⟩ hI14 hW15 h
    simp only [go_sem, seval, str_len] at hI14
    obtain ⟨⟨g16_5, g16_6, g16_11, g16_12, g16_13⟩, og16_0, og16_1, hn⟩ := hI14
    subst hn
    have q17 := lt_f (bad_1.length)
    obtain rfl := Option.some.inj h
    try simp only [go_sem, seval, *]
theorem i_under_ok {f_0 : FrameD} {set_1 : Int} {r : (List Bool)} (h : i_under f_0 set_1 = some r) : Sound Try.prog J0 27 [(true, eFrame f_0), (false, [.int .i64 set_1])] [(false, [(false, .sl 4 1 (List.map eBool r))])] := by
  refine fnk Try.func27 rfl ?_
  unfold i_under at h
  simp only [fnS, f27, argSt, go_sem, seval]
  obtain ⟨v1, e1, h⟩ := bind_K h
  refine call_K (by have hh := i_copyBeliefs_ok e1; first | exact hh | (simp only [go_sem, *] at hh; exact hh)) ?_
  try simp only [go_sem, seval, *]
  obtain ⟨v2, e2, h⟩ := bind_K h
  refine call_K (by have hh := i_chosen_ok e2; first | exact hh | (simp only [go_sem, *] at hh; exact hh)) ?_
  try simp only [go_sem, seval, *]
  refine swp_for h (fun i row_4 st => IV [(5, .bp 0 0), (14, .p false [.row 2]), (15, .p false [.c (.int .i64 ((v2.length : Nat) : Int))]), (16, .p false [.c (.int .i64 ((i : Nat) : Int))])] [.box 26 [.c (.int .i64 v1.nodes), .row 1], .row 47 3 (List.map eReason row_4) 2, .row 3 1 (List.map eInt v2) 2] st) [] [80, 64, 160] (by decide) ?_ ?_ ?_
  · simp only [go_sem, seval, *]
  · rintro i8 x9 row_4 ⟨sl, ob, n⟩ y3 hx4 hI5 hW6 h hy3
    simp only [go_sem, seval, str_len] at hI5
    obtain ⟨⟨g7_5, g7_14, g7_15, g7_16⟩, og7_0, og7_1, og7_2, hn⟩ := hI5
    subst hn
    have hlhx4 := WF.rowL hW6 og7_2
    have q8 := lt_t hx4
    have q9 := lt_p hx4
    have q10 := nat_in (lt_n hx4) hlhx4
    obtain ⟨p11, h⟩ := chk_K h
    try simp only [Nat.reduceLeDiff] at p11
    try simp only [go_sem, seval, *]
    refine ⟨_, [], [0, 147, 2], (Option.some.inj h).symm, by decide, ?_⟩
    try simp only [go_sem, seval, *]
  · rintro row_4 ⟨sl, ob, n⟩ hI12 hW13 h
    simp only [go_sem, seval, str_len] at hI12
    obtain ⟨⟨g14_5, g14_14, g14_15, g14_16⟩, og14_0, og14_1, og14_2, hn⟩ := hI12
    subst hn
    have q15 := lt_f (v2.length)
    try simp only [go_sem, seval, *]
    obtain ⟨v10, e16, h⟩ := bind_K h
    refine call_K (by have hh := i_labels_ok e16; first | exact hh | (simp only [go_sem, *] at hh; exact hh)) ?_
    obtain rfl := Option.some.inj h
    try simp only [go_sem, seval, *]
theorem i_LabelsOf_ok {b_0 : BeliefsD} {r : (List Bool)} (h : i_LabelsOf b_0 = some r) : Sound Try.prog J0 11 [(true, eBeliefs b_0)] [(false, [(false, .sl 4 1 (List.map eBool r))])] := by
  refine fnk Try.func11 rfl ?_
  unfold i_LabelsOf at h
  simp only [fnS, f11, argSt, go_sem, seval]
  obtain ⟨v1, e1, h⟩ := bind_K h
  refine call_K (by have hh := i_IsStratified_ok e1; first | exact hh | (simp only [go_sem, *] at hh; exact hh)) ?_
  try simp only [go_sem, seval, *]
  refine ite_K h (fun c2 h => ?_) (fun c2 h => ?_) <;> try simp only [go_sem, seval, *]
  · obtain ⟨v2, e3, h⟩ := bind_K h
    refine call_K (by have hh := i_labels_ok e3; first | exact hh | (simp only [go_sem, *] at hh; exact hh)) ?_
    obtain rfl := Option.some.inj h
    try simp only [go_sem, seval, *]
  · obtain rfl := Option.some.inj h
    try simp only [go_sem, seval, *]
end
section
open Go.Proofs.Try
set_option linter.unusedSimpArgs false
set_option linter.unusedVariables false
set_option maxRecDepth 1000000
set_option maxHeartbeats 4000000
theorem s_l11Draw_ok {append_0 : l1CurD} {String_1 : Int} {a_2 : Bool} {r : (BeliefsD × l1CurD)} (h : s_l11Draw append_0 String_1 a_2 = some r) : SoundH Try.prog J0 JF0 31 (.box 64 (el1Cur append_0)) [(false, [.int .i64 String_1]), (false, [.bool a_2])] [(true, [(false, .int .i64 r.1.nodes), (false, .sl 47 3 (List.map eReason r.1.reasons))])] (.box 64 (el1Cur r.2)) := by
  refine fnh Try.func31 rfl ?_
  unfold s_l11Draw at h
  have kz0 : ¬ ((2 : Int) = 0) := by decide
  simp only [fnH, f31, handSt, handSV, handOb, go_sem, seval, kz0]
  obtain ⟨v1, e1, h⟩ := bind_K h
  refine hand_K (by have hh := s_l1Below_ok e1; first | exact hh | (simp only [go_sem, *] at hh; exact hh)) ?_
  try simp only [go_sem, seval, *]
  obtain ⟨v2, e2, h⟩ := bind_K h
  refine hand_K (by have hh := s_l1Below_ok e2; first | exact hh | (simp only [go_sem, *] at hh; exact hh)) ?_
  try simp only [go_sem, seval, *]
  refine swp_iter h (fun s st => match s with | (f_29, f_30, f_31, row_32, u_33, u_34) => IV [(0, .bp 0 0), (2, .p false [.c (.bool u_33)]), (6, .bp 1 0), (7, .bp 2 0), (8, .p false [.c (.int .i64 u_34)])] [.box 64 [.c (.sl 5 1 (List.map eByte f_29)), .c (.int .i64 f_30), .c (.int .i64 f_31)], .box 26 [.c (.int .i64 0), .nil 47 3], .box 26 [.c (.int .i64 (IntKind.i64.wrap (1 + v1.1))), .row 3], .row 47 3 (List.map eReason row_32) 2] st) [(true, 97, 1)] [0, 1, 97, 209] (by decide) ?_ ?_
  · simp only [go_sem, seval, *]
  · rintro ⟨f_29, f_30, f_31, row_32, u_33, u_34⟩ ⟨sl, ob, n⟩ y3 hI4 hW5 h hy3
    simp only [go_sem, seval, str_len] at hI4
    obtain ⟨⟨g6_0, g6_2, g6_6, g6_7, g6_8⟩, og6_0, og6_1, og6_2, og6_3, hn⟩ := hI4
    subst hn
    try simp only [go_sem, seval, *]
    refine ite_K h (fun c7 h => ?_) (fun c7 h => ?_) <;> try simp only [go_sem, seval, *]
    · obtain ⟨v35, e8, h⟩ := bind_K h
      refine hand_K (by have hh := s_l1Below_ok e8; first | exact hh | (simp only [go_sem, *] at hh; exact hh)) ?_
      try simp only [go_sem, seval, *]
      obtain ⟨v36, e9, h⟩ := bind_K h
      refine hand_K (by have hh := s_l1Once_ok e9; first | exact hh | (simp only [go_sem, *] at hh; exact hh)) ?_
      try simp only [go_sem, seval, *]
      refine ite_K h (fun c10 h => ?_) (fun c10 h => ?_) <;> try simp only [go_sem, seval, *]
      · refine ite_K h (fun c11 h => ?_) (fun c11 h => ?_) <;> try simp only [go_sem, seval, *]
        · obtain ⟨v37, e12, h⟩ := bind_K h
          refine hand_K (by have hh := s_l1Once_ok e12; first | exact hh | (simp only [go_sem, *] at hh; exact hh)) ?_
          try simp only [go_sem, seval, *]
          refine ite_K h (fun c13 h => ?_) (fun c13 h => ?_) <;> try simp only [go_sem, seval, *]
          · obtain ⟨v38, e14, h⟩ := bind_K h
            refine hand_K (by have hh := s_l11Nodes_ok e14; first | exact hh | (simp only [go_sem, *] at hh; exact hh)) ?_
            try simp only [go_sem, seval, *]
            obtain ⟨v39, e15, h⟩ := bind_K h
            refine hand_K (by have hh := s_l1Once_ok e15; first | exact hh | (simp only [go_sem, *] at hh; exact hh)) ?_
            try simp only [go_sem, seval, *]
            refine ite_K h (fun c16 h => ?_) (fun c16 h => ?_) <;> try simp only [go_sem, seval, *]
            · refine ite_K h (fun c17 h => ?_) (fun c17 h => ?_) <;> try simp only [go_sem, seval, *]
              · obtain ⟨v40, e18, h⟩ := bind_K h
                refine hand_K (by have hh := s_l1Below_ok e18; first | exact hh | (simp only [go_sem, *] at hh; exact hh)) ?_
                obtain ⟨p19, h⟩ := chk_K h
                try simp only [Nat.reduceLeDiff] at p19
                try simp only [go_sem, seval, *]
                refine ⟨_, [], [0, 1, 2, 836], (Option.some.inj h).symm, by decide, ?_⟩
                try simp only [go_sem, seval, *]
              · obtain ⟨p20, h⟩ := chk_K h
                try simp only [Nat.reduceLeDiff] at p20
                try simp only [go_sem, seval, *]
                refine ⟨_, [], [0, 1, 2, 612], (Option.some.inj h).symm, by decide, ?_⟩
                try simp only [go_sem, seval, *]
            · obtain ⟨p21, h⟩ := chk_K h
              try simp only [Nat.reduceLeDiff] at p21
              try simp only [go_sem, seval, *]
              refine ⟨_, [], [0, 1, 2, 612], (Option.some.inj h).symm, by decide, ?_⟩
              try simp only [go_sem, seval, *]
          · obtain ⟨v41, e22, h⟩ := bind_K h
            refine hand_K (by have hh := s_l1Once_ok e22; first | exact hh | (simp only [go_sem, *] at hh; exact hh)) ?_
            try simp only [go_sem, seval, *]
            refine ite_K h (fun c23 h => ?_) (fun c23 h => ?_) <;> try simp only [go_sem, seval, *]
            · obtain ⟨p24, h⟩ := chk_K h
              try simp only [Nat.reduceLeDiff] at p24
              try simp only [go_sem, seval, *]
              refine ⟨_, [], [0, 1, 2, 516], (Option.some.inj h).symm, by decide, ?_⟩
              try simp only [go_sem, seval, *]
            · obtain ⟨p25, h⟩ := chk_K h
              try simp only [Nat.reduceLeDiff] at p25
              try simp only [go_sem, seval, *]
              refine ⟨_, [], [0, 1, 2, 516], (Option.some.inj h).symm, by decide, ?_⟩
              try simp only [go_sem, seval, *]
        · obtain ⟨p26, h⟩ := chk_K h
          try simp only [Nat.reduceLeDiff] at p26
          try simp only [go_sem, seval, *]
          refine ⟨_, [], [0, 1, 2, 516], (Option.some.inj h).symm, by decide, ?_⟩
          try simp only [go_sem, seval, *]
      · obtain ⟨v42, e27, h⟩ := bind_K h
        refine hand_K (by have hh := s_l11Nodes_ok e27; first | exact hh | (simp only [go_sem, *] at hh; exact hh)) ?_
        try simp only [go_sem, seval, *]
        refine ite_K h (fun c28 h => ?_) (fun c28 h => ?_) <;> try simp only [go_sem, seval, *]
        · obtain ⟨v43, e29, h⟩ := bind_K h
          refine hand_K (by have hh := s_l1Once_ok e29; first | exact hh | (simp only [go_sem, *] at hh; exact hh)) ?_
          try simp only [go_sem, seval, *]
          refine ite_K h (fun c30 h => ?_) (fun c30 h => ?_) <;> try simp only [go_sem, seval, *]
          · obtain ⟨v44, e31, h⟩ := bind_K h
            refine hand_K (by have hh := s_l11Nodes_ok e31; first | exact hh | (simp only [go_sem, *] at hh; exact hh)) ?_
            try simp only [go_sem, seval, *]
            obtain ⟨v45, e32, h⟩ := bind_K h
            refine hand_K (by have hh := s_l1Once_ok e32; first | exact hh | (simp only [go_sem, *] at hh; exact hh)) ?_
            try simp only [go_sem, seval, *]
            refine ite_K h (fun c33 h => ?_) (fun c33 h => ?_) <;> try simp only [go_sem, seval, *]
            · refine ite_K h (fun c34 h => ?_) (fun c34 h => ?_) <;> try simp only [go_sem, seval, *]
              · obtain ⟨v46, e35, h⟩ := bind_K h
                refine hand_K (by have hh := s_l1Below_ok e35; first | exact hh | (simp only [go_sem, *] at hh; exact hh)) ?_
                obtain ⟨p36, h⟩ := chk_K h
                try simp only [Nat.reduceLeDiff] at p36
                try simp only [go_sem, seval, *]
                refine ⟨_, [], [0, 1, 2, 932], (Option.some.inj h).symm, by decide, ?_⟩
                try simp only [go_sem, seval, *]
              · obtain ⟨p37, h⟩ := chk_K h
                try simp only [Nat.reduceLeDiff] at p37
                try simp only [go_sem, seval, *]
                refine ⟨_, [], [0, 1, 2, 708], (Option.some.inj h).symm, by decide, ?_⟩
                try simp only [go_sem, seval, *]
            · obtain ⟨p38, h⟩ := chk_K h
              try simp only [Nat.reduceLeDiff] at p38
              try simp only [go_sem, seval, *]
              refine ⟨_, [], [0, 1, 2, 708], (Option.some.inj h).symm, by decide, ?_⟩
              try simp only [go_sem, seval, *]
          · obtain ⟨v47, e39, h⟩ := bind_K h
            refine hand_K (by have hh := s_l1Once_ok e39; first | exact hh | (simp only [go_sem, *] at hh; exact hh)) ?_
            try simp only [go_sem, seval, *]
            refine ite_K h (fun c40 h => ?_) (fun c40 h => ?_) <;> try simp only [go_sem, seval, *]
            · obtain ⟨p41, h⟩ := chk_K h
              try simp only [Nat.reduceLeDiff] at p41
              try simp only [go_sem, seval, *]
              refine ⟨_, [], [0, 1, 2, 612], (Option.some.inj h).symm, by decide, ?_⟩
              try simp only [go_sem, seval, *]
            · obtain ⟨p42, h⟩ := chk_K h
              try simp only [Nat.reduceLeDiff] at p42
              try simp only [go_sem, seval, *]
              refine ⟨_, [], [0, 1, 2, 612], (Option.some.inj h).symm, by decide, ?_⟩
              try simp only [go_sem, seval, *]
        · obtain ⟨p43, h⟩ := chk_K h
          try simp only [Nat.reduceLeDiff] at p43
          try simp only [go_sem, seval, *]
          refine ⟨_, [], [0, 1, 2, 612], (Option.some.inj h).symm, by decide, ?_⟩
          try simp only [go_sem, seval, *]
    · replace h := inr_K h hy3
      obtain rfl := Option.some.inj h
      try simp only [go_sem, seval, *]
theorem i_NogoodsOf_1_ok {set_0 : Int} {cap_1 : FrameD} {r : Bool} (h : i_NogoodsOf_1 set_0 cap_1 = some r) : Sound Try.prog J0 25 [(false, [.int .i64 set_0]), (false, [.pt [.int .i64 cap_1.beliefs.nodes, .sl 47 3 (List.map eReason cap_1.beliefs.reasons), .sl 3 1 (List.map eInt cap_1.assumed), .sl 3 1 (List.map eInt cap_1.bad)]])] [(false, [(false, .bool r)])] := by
  refine fnk Try.func25 rfl ?_
  unfold i_NogoodsOf_1 at h
  simp only [fnS, f25, argSt, go_sem, seval]
  obtain ⟨v1, e1, h⟩ := bind_K h
  refine call_K (by have hh := i_under_ok e1; first | exact hh | (simp only [go_sem, *] at hh; exact hh)) ?_
  try simp only [go_sem, seval, *]
  obtain ⟨v2, e2, h⟩ := bind_K h
  refine call_K (by have hh := i_noneIn_ok e2; first | exact hh | (simp only [go_sem, *] at hh; exact hh)) ?_
  obtain rfl := Option.some.inj h
  try simp only [go_sem, seval, *]
theorem i_NodesUnder_ok {f_0 : FrameD} {set_1 : Int} {r : (List Int)} (h : i_NodesUnder f_0 set_1 = some r) : Sound Try.prog J0 12 [(true, eFrame f_0), (false, [.int .i64 set_1])] [(false, [(false, .sl 3 1 (List.map eInt r))])] := by
  refine fnk Try.func12 rfl ?_
  unfold i_NodesUnder at h
  simp only [fnS, f12, argSt, go_sem, seval]
  obtain ⟨v1, e1, h⟩ := bind_K h
  refine call_K (by have hh := i_IsFrame_ok e1; first | exact hh | (simp only [go_sem, *] at hh; exact hh)) ?_
  try simp only [go_sem, seval, *]
  refine ite_K h (fun c2 h => ?_) (fun c2 h => ?_) <;> try simp only [go_sem, seval, *]
  · obtain ⟨v2, e3, h⟩ := bind_K h
    refine call_K (by have hh := i_isSet_ok e3; first | exact hh | (simp only [go_sem, *] at hh; exact hh)) ?_
    try simp only [go_sem, seval, *]
    refine ite_K h (fun c4 h => ?_) (fun c4 h => ?_) <;> try simp only [go_sem, seval, *]
    · obtain ⟨v3, e5, h⟩ := bind_K h
      refine call_K (by have hh := i_under_ok e5; first | exact hh | (simp only [go_sem, *] at hh; exact hh)) ?_
      try simp only [go_sem, seval, *]
      refine swp_for h (fun i row_6 st => IV [(5, .p false [.row 0]), (19, .p false [.row 1]), (20, .p false [.c (.int .i64 ((v3.length : Nat) : Int))]), (21, .p false [.c (.int .i64 ((i : Nat) : Int))])] [.row 3 1 (List.map eInt row_6) 2, .row 4 1 (List.map eBool v3) 2] st) [(false, 5, 0)] [272, 224] (by decide) ?_ ?_ ?_
      · simp only [go_sem, seval, *]
      · rintro i9 x10 row_6 ⟨sl, ob, n⟩ y6 hx7 hI8 hW9 h hy6
        simp only [go_sem, seval, str_len] at hI8
        obtain ⟨⟨g10_5, g10_19, g10_20, g10_21⟩, og10_0, og10_1, hn⟩ := hI8
        subst hn
        have hlhx7 := WF.rowL hW9 og10_1
        have q11 := lt_t hx7
        have q12 := lt_p hx7
        have q13 := nat_in (lt_n hx7) hlhx7
        try simp only [go_sem, seval, *]
        refine ite_K h (fun c14 h => ?_) (fun c14 h => ?_) <;> try simp only [go_sem, seval, *]
        · obtain ⟨p15, h⟩ := chk_K h
          try simp only [Nat.reduceLeDiff] at p15
          try simp only [go_sem, seval, *]
          refine ⟨_, [], [162, 1], (Option.some.inj h).symm, by decide, ?_⟩
          try simp only [go_sem, seval, *]
        · refine ⟨_, [], [0, 1], (Option.some.inj h).symm, by decide, ?_⟩
          try simp only [go_sem, seval, *]
      · rintro row_6 ⟨sl, ob, n⟩ hI16 hW17 h
        simp only [go_sem, seval, str_len] at hI16
        obtain ⟨⟨g18_5, g18_19, g18_20, g18_21⟩, og18_0, og18_1, hn⟩ := hI16
        subst hn
        have q19 := lt_f (v3.length)
        obtain rfl := Option.some.inj h
        try simp only [go_sem, seval, *]
    · obtain rfl := Option.some.inj h
      try simp only [go_sem, seval, *]
  · obtain rfl := Option.some.inj h
    try simp only [go_sem, seval, *]
end
section
open Go.Proofs.Try
set_option linter.unusedSimpArgs false
set_option linter.unusedVariables false
set_option maxRecDepth 1000000
set_option maxHeartbeats 4000000
theorem s_l13Draw_ok {c_0 : l1CurD} {r : (FrameD × l1CurD)} (h : s_l13Draw c_0 = some r) : SoundH Try.prog J0 JF0 13 (.box 64 (el1Cur c_0)) [] [(true, [(false, .int .i64 r.1.beliefs.nodes), (false, .sl 47 3 (List.map eReason r.1.beliefs.reasons)), (false, .sl 3 1 (List.map eInt r.1.assumed)), (false, .sl 3 1 (List.map eInt r.1.bad))])] (.box 64 (el1Cur r.2)) := by
  refine fnh Try.func13 rfl ?_
  unfold s_l13Draw at h
  simp only [fnH, f13, handSt, handSV, handOb, go_sem, seval]
  obtain ⟨v1, e1, h⟩ := bind_K h
  refine hand_K (by have hh := s_l11Draw_ok e1; first | exact hh | (simp only [go_sem, *] at hh; exact hh)) ?_
  try simp only [go_sem, seval, *]
  refine swp_iter h (fun s st => match s with | (f_3, f_4, f_5, row_9, i_6) => IV [(0, .bp 0 0), (2, .bp 1 0), (3, .bp 2 0), (4, .p false [.c (.int .i64 i_6)])] [.box 64 [.c (.sl 5 1 (List.map eByte f_3)), .c (.int .i64 f_4), .c (.int .i64 f_5)], .box 29 [.c (.int .i64 0), .nil 47 3, .nil 3 1, .nil 3 1], .box 29 [.c (.int .i64 v1.1.nodes), .row 3, .row 4, .nil 3 1], .row 47 3 (List.map eReason v1.1.reasons) 2, .row 3 1 (List.map eInt row_9) 2] st) [(true, 65, 2)] [0, 1, 65, 33, 113] (by decide) ?_ ?_
  · simp only [go_sem, seval, *]
  · rintro ⟨f_3, f_4, f_5, row_9, i_6⟩ ⟨sl, ob, n⟩ y2 hI3 hW4 h hy2
    simp only [go_sem, seval, str_len] at hI3
    obtain ⟨⟨g5_0, g5_2, g5_3, g5_4⟩, og5_0, og5_1, og5_2, og5_3, og5_4, hn⟩ := hI3
    subst hn
    try simp only [go_sem, seval, *]
    refine ite_K h (fun c6 h => ?_) (fun c6 h => ?_) <;> try simp only [go_sem, seval, *]
    · refine ite_K h (fun c7 h => ?_) (fun c7 h => ?_) <;> try simp only [go_sem, seval, *]
      · obtain ⟨v10, e8, h⟩ := bind_K h
        refine hand_K (by have hh := s_l1Once_ok e8; first | exact hh | (simp only [go_sem, *] at hh; exact hh)) ?_
        try simp only [go_sem, seval, *]
        refine ite_K h (fun c9 h => ?_) (fun c9 h => ?_) <;> try simp only [go_sem, seval, *]
        · refine ⟨_, [], [0, 1, 2, 3, 4], (Option.some.inj h).symm, by decide, ?_⟩
          try simp only [go_sem, seval, *]
        · obtain ⟨p10, h⟩ := chk_K h
          try simp only [Nat.reduceLeDiff] at p10
          try simp only [go_sem, seval, *]
          refine ⟨_, [], [0, 1, 2, 3, 293], (Option.some.inj h).symm, by decide, ?_⟩
          try simp only [go_sem, seval, *]
      · obtain ⟨v11, e11, h⟩ := bind_K h
        refine hand_K (by have hh := s_l11Nodes_ok e11; first | exact hh | (simp only [go_sem, *] at hh; exact hh)) ?_
        replace h := inr_K h hy2
        obtain rfl := Option.some.inj h
        try simp only [go_sem, seval, *]
    · obtain ⟨v12, e12, h⟩ := bind_K h
      refine hand_K (by have hh := s_l11Nodes_ok e12; first | exact hh | (simp only [go_sem, *] at hh; exact hh)) ?_
      replace h := inr_K h hy2
      obtain rfl := Option.some.inj h
      try simp only [go_sem, seval, *]
theorem i_NogoodsOf_ok {f_0 : FrameD} {r : (List Int)} (h : i_NogoodsOf f_0 = some r) : Sound Try.prog J0 9 [(true, eFrame f_0)] [(false, [(false, .sl 3 1 (List.map eInt r))])] := by
  refine fnk Try.func9 rfl ?_
  unfold i_NogoodsOf at h
  simp only [fnS, f9, argSt, go_sem, seval]
  obtain ⟨v1, e1, h⟩ := bind_K h
  refine call_K (by have hh := i_IsFrame_ok e1; first | exact hh | (simp only [go_sem, *] at hh; exact hh)) ?_
  try simp only [go_sem, seval, *]
  refine ite_K h (fun c2 h => ?_) (fun c2 h => ?_) <;> try simp only [go_sem, seval, *]
  · obtain ⟨v2, e3, h⟩ := bind_K h
    refine call_K (by have hh := i_setsWith_ok (kkeep_1 := 25) (ckeep_1 := [.pt [.int .i64 f_0.beliefs.nodes, .sl 47 3 (List.map eReason f_0.beliefs.reasons), .sl 3 1 (List.map eInt f_0.assumed), .sl 3 1 (List.map eInt f_0.bad)]]) hd_25 (fun hh => i_NogoodsOf_1_ok hh) e3; first | exact hh | (simp only [go_sem, *] at hh; exact hh)) ?_
    try simp only [go_sem, seval, *]
    obtain ⟨v3, e4, h⟩ := bind_K h
    refine call_K (by have hh := i_LeastSets_ok e4; first | exact hh | (simp only [go_sem, *] at hh; exact hh)) ?_
    obtain rfl := Option.some.inj h
    try simp only [go_sem, seval, *]
  · obtain rfl := Option.some.inj h
    try simp only [go_sem, seval, *]
end
section
open Go.Proofs.Try
set_option linter.unusedSimpArgs false
set_option linter.unusedVariables false
set_option maxRecDepth 1000000
set_option maxHeartbeats 4000000
theorem s_DrawGoodFrame_ok {code_0 : (List Int)} {r : FrameD} (h : s_DrawGoodFrame code_0 = some r) : Sound Try.prog J0 5 [(false, [.sl 5 1 (List.map eByte code_0)])] [(true, [(false, .int .i64 r.beliefs.nodes), (false, .sl 47 3 (List.map eReason r.beliefs.reasons)), (false, .sl 3 1 (List.map eInt r.assumed)), (false, .sl 3 1 (List.map eInt r.bad))])] := by
  refine fnk Try.func5 rfl ?_
  unfold s_DrawGoodFrame at h
  simp only [fnS, f5, argSt, go_sem, seval]
  obtain ⟨v1, e1, h⟩ := bind_K h
  refine new_K (by have hh := s_l1New_ok e1; first | exact hh | (simp only [go_sem, *] at hh; exact hh)) ?_
  try simp only [go_sem, seval, *]
  obtain ⟨v2, e2, h⟩ := bind_K h
  refine hand_K (by have hh := s_l13Draw_ok e2; first | exact hh | (simp only [go_sem, *] at hh; exact hh)) ?_
  obtain rfl := Option.some.inj h
  try simp only [go_sem, seval, *]
end
section
open Go.RowKit
/-- the first n parts of a sequence -/
def takeC : Nat → Code → Code
  | n + 1, .seq a b => .seq a (takeC n b)
  | _, _ => .skip
/-- what comes behind them -/
def dropC : Nat → Code → Code
  | n + 1, .seq _ b => dropC n b
  | _, c => c
theorem takeC_zero (c : Code) : takeC 0 c = .skip := _root_.id rfl
theorem takeC_seq (n : Nat) (a b : Code) : takeC (n + 1) (.seq a b) = .seq a (takeC n b) := _root_.id rfl
section
variable {P : Program} {J : World → Prop} {JF : Nat → Prop} {W : Base} {U : Nat → Prop} {st : St} {w w' : World} {a : Act} {tt : Nat → Option TI} {od : OD} {g : Gh}
theorem tail_sound [NW] {od : OD} (htt : MOk P J JF W tt) (hmix : P.follows .mixedOrders = true) {hds : FuncId → Nat} {k0 : Bool} (hk0 : W.hv = none ∨ k0 = true) {N : Nat} {Qs : Ex → St → Prop} {Q : Exit → Act → World → Prop} (hQ : ∀ ex U' st' a' w', ¬ ex = .normal → Inv W U' st' a' w' → (∀ k, st'.n ≤ k → ¬ U' k) → a'.tmps.size = N → Qs ex st' → Q (toExit ex) a' w') : ∀ (n : Nat) (c : Code), codeOk od tt hds k0 N (takeC n c) = true →
    (∀ U' st' a' w', Inv W U' st' a' w' → (∀ k, st'.n ≤ k → ¬ U' k) → a'.tmps.size = N → Qs .normal st' → (dropC n c).wp P Q a' w') →
    ∀ U st a w, Inv W U st a w → (∀ k, st.n ≤ k → ¬ U k) → a.tmps.size = N → swp tt (SC P J JF hds) od (takeC n c) Qs st → c.wp P Q a w := by
  intro n
  induction n with
  | zero =>
    intro c _ hn U st a w hI hk hs h
    have e : dropC 0 c = c := by cases c <;> rfl
    rw [← e]
    have e2 : takeC 0 c = .skip := by cases c <;> rfl
    rw [e2] at h
    exact hn U st a w hI hk hs h
  | succ n ih =>
    intro c hok hn U st a w hI hk hs h
    cases c with
    | seq x y =>
      simp only [takeC, codeOk, Bool.and_eq_true] at hok
      refine wp_seq ?_
      refine swp_sound htt hmix hk0 x hok.1 (thenK (swp tt (SC P J JF hds) od (takeC n y) Qs) Qs) _ ?_ U st a w hI hk hs h
      intro ex U' st' a' w' hI' hk' hs' hq
      cases ex with
      | normal => exact ih y hok.2 hn U' st' a' w' hI' hk' hs' hq
      | exit id => exact hQ (.exit id) U' st' a' w' (by simp) hI' hk' hs' hq
      | ret => exact hQ .ret U' st' a' w' (by simp) hI' hk' hs' hq
    | _ => exact hn U st a w hI hk hs h
/-- the first part ends in a state of which Hk holds -/
def tailK (Hk : St → Prop) : Ex → St → Prop
  | .normal, st => Hk st
  | .exit _, _ => False
  | .ret, _ => False
theorem fn_tail (htt : ∀ t i, tt t = some i → TOk P t i) (hJ : JOk J JF) (hmix : P.follows .mixedOrders = true) {hds : FuncId → Nat} {f : FuncId} {fn : Func} {c : Code} {args : List (Bool × List CT)} {res : List RT} (n : Nat) (Hk : St → Prop) (hf : P.funcs[f]? = some fn) (hname : (fn.name == "runtime.NumGoroutine") = false) (hb : fn.body = some c)
    (hok : codeOk od tt hds false fn.ntmps (takeC n c) = true) (hlen : Nat.ble args.length fn.ntmps = true) (h : swp tt (SC P J JF hds) od (takeC n c) (tailK Hk) (argSt args))
    (ht : ∀ [NW] (W : Base) (U : Nat → Prop) (st : St) (a : Act) (w : World), J W.toWorld → (∀ b, W.z b → b < W.heap.size) → (∀ b, ¬ W.x b) → Inv W U st a w → a.tmps.size = fn.ntmps → Hk st → (dropC n c).wp P (bodyPost P fn fun e w' => ∃ v m, e = .returned v ∧ ResR w' W.heap.size m res v ∧ (∀ b, W.z b → m b) ∧ Below W.heap.size W.toWorld w') a w) : Sound P J f args res := by
  letI : NW := nw0
  refine ⟨⟨fn, hf, hname, by rw [hb]; rfl⟩, fun w z vs hj hz hargs => ?_⟩
  have hlen' : args.length ≤ fn.ntmps := Nat.le_of_ble_eq_true hlen
  have hvl := hargs.len
  refine calls_of_wp hf hb ?_
  let W : Base := { w with z := z, x := fun _ => False, hv := none }
  let g0 : Gh := ⟨fun _ => undef, fun _ => [], fun _ => [], z⟩
  have hg0 : ∀ b, g0.own b → z b := fun b hb => by
    rcases hb with ⟨k, m⟩ | h
    · simp [g0] at m
    · exact h
  have hI0 : Inv W (fun _ => False) (argSt args) { tmps := vs.toArray ++ Array.replicate (fn.ntmps - vs.toArray.size) undef, defers := [] } w := by
    refine ⟨⟨g0, ⟨⟨rfl, rfl, rfl, Nat.le_refl _, fun _ _ _ => rfl⟩, fun k => ⟨rfl, rfl⟩, fun k => by simp [g0], fun k j _ b m => by simp [g0] at m, fun k b m => by simp [g0] at m, rfl, fun b hb => ⟨hz b hb, fun h => h⟩, fun _ _ => Nat.zero_le _⟩, fun t => ?_⟩, ⟨fun t => ?_, fun k => trivial, fun k _ => rfl⟩, rfl, fun v hv => by simp [W] at hv⟩
    · show SVR g0 w (match args[t]? with | some x => .p x.1 (x.2.map unnl) | none => .und) _
      cases ht : args[t]? with
      | none => exact slot_und (by have : args.length ≤ t := by simpa using ht
                                   omega)
      | some x =>
        obtain ⟨v, hv, hr⟩ := hargs.at ht
        show SVR g0 w (.p x.1 (x.2.map unnl)) ((vs.toArray ++ Array.replicate (fn.ntmps - vs.toArray.size) undef).getD t undef)
        rw [slot_arg (args := args) (o := 0) (by omega) v hv]
        exact arg_SVRn hg0 hr
    · show svU _ (match args[t]? with | some x => .p x.1 (x.2.map unnl) | none => .und)
      split
      · exact svU_unnl _
      · trivial
  have hM : MOk P J JF W tt := ⟨htt, fun w' hb => hJ.below (fun _ => False) w w' hj (fun _ h => h.elim) hb.os hb.tape hb.output hb.size (fun k hk hx => hb.block k hk hx), fun b hb => hJ.new w b hj hb, fun b h => h.elim⟩
  refine tail_sound (W := W) hM hmix (.inl rfl) (Qs := tailK Hk) (fun ex U' st' a' w' hne _ _ _ hq => ?_) n c hok (fun U' st' a' w' hI' _ hs' hq => ?_) _ (argSt args) _ w hI0 (fun _ _ h => h) (by simp; omega) h
  · cases ex with
    | normal => exact absurd rfl hne
    | exit id => exact hq.elim
    | ret => exact hq.elim
  · exact ht W U' st' a' w' hj hz (fun _ h => h) hI' hs' hq
end
end
section
open Go.RowKit
set_option linter.unusedSimpArgs false
theorem ltL_step {x y : List Int} {k : Nat} {a b : Int} (hx : x[k]? = some a) (hy : y[k]? = some b) : ltL (x.drop k) (y.drop k) = if a = b then ltL (x.drop (k + 1)) (y.drop (k + 1)) else decide (a < b) := by
  obtain ⟨h1, rfl⟩ := List.getElem?_eq_some_iff.1 hx
  obtain ⟨h2, rfl⟩ := List.getElem?_eq_some_iff.1 hy
  rw [List.drop_eq_getElem_cons h1, List.drop_eq_getElem_cons h2, ltL]
set_option maxRecDepth 1000000 in
set_option maxHeartbeats 4000000 in
/-- the closure: it reads the box, two of the row's cells, and what they lead to -/
theorem lr_less (blk off c Bs size : Nat) (W : World) (V : Nat → Value) (G : Nat → List Int) (hs : W.cell? ⟨Bs, 0, none⟩ = some (.slice (some ⟨blk, off, none⟩) size c)) (hc : ∀ t, t < size → W.cell? ⟨blk, off + t, none⟩ = some (V t)) (hV : ∀ t, t < size → ∃ A cap L, V t = .slice A (G t).length cap ∧ (G t).length ≤ cap ∧ cap ≤ maxLen ∧ Sli intC W A (G t) L) (i j : Nat) (hi : i < size) (hj : j < size) :
    Calls Try.prog 22 #[.int .i64 i, .int .i64 j, .pointer (some ⟨Bs, 0, none⟩)] W fun e w' => e = .returned (.bool (ltR (G i) (G j))) ∧ ∃ q, w' = W.drewN q := by
  have ci := hc i hi
  have cj := hc j hj
  obtain ⟨Ai, ki, Li, ei, li, mi, si⟩ := hV i hi
  obtain ⟨Aj, kj, Lj, ej, lj, mj, sj⟩ := hV j hj
  rw [ei] at ci
  rw [ej] at cj
  generalize G i = x at *
  generalize G j = y at *
  obtain ⟨nx, hnx⟩ : ∃ n, x.length = n := ⟨_, rfl⟩
  obtain ⟨ny, hny⟩ : ∃ n, y.length = n := ⟨_, rfl⟩
  have HX : Hid (x.length = nx) := hnx
  have HY : Hid (y.length = ny) := hny
  have SX := Lib.hid si
  have SY := Lib.hid sj
  rw [hnx] at ci li
  rw [hny] at cj lj
  have hM : nx ≤ 9223372036854775807 := by unfold maxLen at mi; omega
  clear hV ei ej si sj hnx hny hc mi mj
  go_enter Try.func22, Try.ntmps22
  go_wp2
  go_quiet (fail)
  by_cases hn : nx = ny
  · subst hn
    have hR : Hid (ltL (x.drop 0) (y.drop 0) = ltR x y) := by
      show _ = _
      unfold ltR
      rw [if_pos (HX.out.trans HY.out.symm)]
      rfl
    go_wp2
    go_loopw [29] (fun i wr => ∃ k q : Nat, k ≤ nx ∧ i = .int .i64 k ∧ wr = W.drewN q ∧ Hid (ltL (x.drop k) (y.drop k) = ltR x y)) (fun i _ => nx - (intOf i).toNat)
    case atStart => exact ⟨0, nq, Nat.zero_le _, rfl, rfl, hR⟩
    case round =>
      clear hR
      obtain ⟨k, q, hk, rfl, hw, HR⟩ := hrel
      have HW := Lib.hid hw
      have hcell : ∀ p, wr.cell? p = W.cell? p := fun p => by rw [hw]; rfl
      clear hw
      by_cases hlt : k < nx
      · obtain ⟨a, ha⟩ : ∃ a, x[k]? = some a := ⟨_, List.getElem?_eq_getElem (by have := HX.out; omega)⟩
        obtain ⟨d, hd⟩ : ∃ d, y[k]? = some d := ⟨_, List.getElem?_eq_getElem (by have := HY.out; omega)⟩
        obtain ⟨bx, ox, csx, Lx, rfl, _, _, rx, cx⟩ := SX.out.at_ (List.getElem?_eq_some_iff.1 ha).1
        obtain ⟨by_, oy, csy, Ly, rfl, _, _, ry, cy⟩ := SY.out.at_ (List.getElem?_eq_some_iff.1 hd).1
        rw [(List.getElem?_eq_some_iff.1 ha).2] at rx
        rw [(List.getElem?_eq_some_iff.1 hd).2] at ry
        obtain ⟨rfl, _⟩ := rx
        obtain ⟨rfl, _⟩ := ry
        have q1 : wr.cell? ⟨bx, ox + k, none⟩ = some (.int .i64 a) := by
          have := cx 0 _ rfl
          rw [show intC.size = 1 from rfl, Nat.mul_one, Nat.add_zero] at this
          rw [hcell]
          exact this
        have q2 : wr.cell? ⟨by_, oy + k, none⟩ = some (.int .i64 d) := by
          have := cy 0 _ rfl
          rw [show intC.size = 1 from rfl, Nat.mul_one, Nat.add_zero] at this
          rw [hcell]
          exact this
        have HS := Lib.hid (ltL_step ha hd)
        clear cx cy ha hd hcell
        go_wp2
        go_quiet (fail)
        by_cases had : a = d
        · have HN : Hid (ltL (x.drop (k + 1)) (y.drop (k + 1)) = ltR x y) := by
            have h1 := HS.out
            rw [if_pos had, HR.out] at h1
            exact h1.symm
          go_wp2
          exact ⟨⟨k + 1, q + nq, by omega, by simp, by rw [HW.out]; exact World.drewN_drewN _ _ _, HN⟩, by simp [intOf]; omega⟩
        · have HN : Hid (ltR x y = decide (a < d)) := by
            have h1 := HS.out
            rw [if_neg had, HR.out] at h1
            exact h1
          have HQ : Hid (∃ e, wr.drewN nq = W.drewN e) := ⟨q + nq, by rw [HW.out]; exact World.drewN_drewN _ _ _⟩
          obtain ⟨wq, hwq⟩ : ∃ w', w' = wr.drewN nq := ⟨_, rfl⟩
          have q3 : wq.cell? ⟨bx, ox + k, none⟩ = some (.int .i64 a) := by rw [hwq]; exact q1
          have q4 : wq.cell? ⟨by_, oy + k, none⟩ = some (.int .i64 d) := by rw [hwq]; exact q2
          rw [← hwq] at HQ
          go_wp2
          rw [← hwq]
          clear hwq
          go_quiet (fail)
          go_wp2
          go_ret
          obtain ⟨e, he⟩ := HQ.out
          exact ⟨by rw [HN.out]; simp, e + nq, by rw [he]; exact World.drewN_drewN _ _ _⟩
      · have h0 : k = nx := by omega
        subst h0
        have HN : Hid (ltR x y = false) := by
          have h1 := HR.out
          rw [List.drop_of_length_le (by have := HX.out; omega), ltL] at h1
          · exact h1.symm
          · intros; contradiction
        go_wp2
        go_ret
        exact ⟨by rw [HN.out]; simp, q, HW.out⟩
  · have hR : ltR x y = decide (nx < ny) := by
      unfold ltR
      rw [HX.out, HY.out, if_neg hn]
    go_wp2
    go_ret
    exact ⟨by rw [hR]; simp, nq, rfl⟩

/-- the state in which the machine's part ends -/
def LrK (l : List (List Int)) (st : St) : Prop := st.sl 9 = .bp 1 0 ∧ st.ob 1 = .box 33 [.row 2] ∧ st.ob 2 = .row 27 1 (List.map eSlInt_3 l) 2
/-- what the machine's state says of the world -/
theorem lr_facts [NW] {W : Base} {U : Nat → Prop} {st : St} {a : Act} {w : World} {l : List (List Int)} (hx : ∀ b, ¬ W.x b) (hI : Inv W U st a w) (hk : LrK l st) :
    a.defers = [] ∧ ∃ b v cs L, a.tmps.getD 9 undef = .pointer (some ⟨b, 0, none⟩) ∧ Blk w b 33 #[v] ∧ w.ownsV W.heap.size 27 1 v l.length cs ∧ REs w 1 (List.map eSlInt_3 l) cs L ∧ Own w W.heap.size (b :: (v.ownBlock.toList ++ L)) ∧ Bel W w := by
  obtain ⟨g, hH, hS⟩ := hI.ex
  obtain ⟨k1, k2, k3⟩ := hk
  have h9 := hS 9
  rw [k1] at h9
  obtain ⟨b, e1, e2⟩ := h9
  have o1 := hH.obs 1
  rw [k2] at o1
  obtain ⟨b', vs, f1, f2, f3, f4, f5⟩ := o1
  obtain rfl : b = b' := by rw [e1] at f1; simpa using f1
  have o2 := hH.obs 2
  rw [k3] at o2
  obtain ⟨_, cs, L, p1, p2, p3⟩ := o2
  obtain ⟨_, p3, p4⟩ : True ∧ g.O 2 = (g.val 2).ownBlock.toList ∧ g.D 2 = L := by
    rcases p3 with ⟨_, h1, h2⟩ | ⟨h, _⟩ | ⟨h, _⟩
    · exact ⟨trivial, h1, h2⟩
    · simp at h
    · simp at h
  have hv : vs = [g.val 2] := by
    cases vs with
    | nil => exact f5.elim
    | cons v vs =>
      cases vs with
      | nil => rw [f5.1.1]
      | cons _ _ => exact f5.2.elim
  subst hv
  have hge : ∀ k, ∀ y ∈ g.O k ++ g.D k, W.heap.size ≤ y := fun k y m => (hH.plain k y m).1.resolve_right (hx y)
  have hpl1 : ∀ y ∈ g.O 1 ++ g.D 1, ∃ cur e, w.heap[y]? = some (.cells cur e (0, 0)) := fun y m => by
    have h := (hH.plain 1 y m).2
    rw [k2] at h
    exact h
  have hpl2 : ∀ y ∈ g.O 2 ++ g.D 2, ∃ cur e, w.heap[y]? = some (.cells cur e (0, 0)) := fun y m => by
    have h := (hH.plain 2 y m).2
    rw [k3] at h
    exact h
  have hge2 := hge 2
  have hnd2 := hH.nodup 2
  have hap := hH.apart 1 2 (by decide) b (by rw [f2]; simp)
  rw [p3, p4] at hge2 hnd2 hap hpl2
  rw [List.length_map] at p1
  have hgb : W.heap.size ≤ b := hge 1 b (by rw [f2]; simp)
  refine ⟨hI.defers, b, g.val 2, cs, L, e2, f4, own_base p1 fun y m => hge2 y (List.mem_append_left _ m), p2, ⟨List.nodup_cons.2 ⟨hap, hnd2⟩, fun y m => ?_, fun y m => ?_⟩, hH.below⟩
  · rcases List.mem_cons.1 m with rfl | m
    · exact hgb
    · exact hge2 y m
  · rcases List.mem_cons.1 m with rfl | m
    · exact hpl1 y (by rw [f2]; simp)
    · exact hpl2 y m
theorem list_slots {l : List Value} {n : Nat} (h : l.length = n) : ∃ f : Nat → Value, l = (List.range n).map f := by
  refine ⟨fun i => l.getD i undef, List.ext_getElem (by simp [h]) fun i h1 h2 => ?_⟩
  simp [h1]
theorem REs_one {w : World} : ∀ {xs : List (List CT)} {cs : List Value} {L : List Nat}, REs w 1 xs cs L → ∀ (k : Nat) (e : List CT), xs[k]? = some e → ∃ u Lk, cs[k]? = some u ∧ RCs w e [u] Lk ∧ ∀ y ∈ Lk, y ∈ L
  | [], _, _, _, k, e, h => by simp at h
  | x :: xs, _, _, ⟨c1, c2, L1, L2, rfl, rfl, ⟨h3, h4⟩, h5⟩, k, e, h => by
    obtain ⟨u, rfl⟩ := List.length_eq_one_iff.1 h4
    cases k with
    | zero =>
      obtain rfl : x = e := by simpa using h
      exact ⟨u, L1, by simp, h3, fun y m => List.mem_append_left _ m⟩
    | succ k =>
      obtain ⟨v, Lk, q1, q2, q3⟩ := REs_one h5 k e (by simpa using h)
      exact ⟨v, Lk, by simpa using q1, q2, fun y m => List.mem_append_right _ (q3 y m)⟩
theorem nil_row (w : World) : RC w (.sl 3 1 (List.map eInt [])) (.slice none 0 0) [] := ⟨none, 0, [], [], [], rfl, Nat.le_refl _, Nat.zero_le _, rfl, by omega, Sl.zero, rfl, rfl⟩
/-- each row, and the empty one behind them -/
theorem lr_row {w : World} {l : List (List Int)} {cs : List Value} {L : List Nat} (hre : REs w 1 (List.map eSlInt_3 l) cs L) (hc : cs.length = l.length) (k : Nat) : ∃ Lk, RC w (.sl 3 1 (List.map eInt (rowI l k))) ((cs[k]?).getD (.slice none 0 0)) Lk ∧ ∀ y ∈ Lk, y ∈ L := by
  by_cases hk : k < l.length
  · obtain ⟨u, Lk, q1, q2, q3⟩ := REs_one hre k (eSlInt_3 l[k]) (by simp [hk])
    obtain ⟨v, cs', L1, L2, e1, rfl, r1, e2, rfl⟩ := q2
    subst e2
    obtain rfl : u = v := by simpa using e1
    refine ⟨L1, ?_, fun y m => q3 y (by simp [m])⟩
    rw [q1]
    have : rowI l k = l[k] := by simp [rowI, hk]
    rw [this]
    exact r1
  · have e1 : cs[k]? = none := List.getElem?_eq_none (by omega)
    have e2 : rowI l k = [] := by unfold rowI; rw [List.getElem?_eq_none (by omega)]; rfl
    rw [e1, e2]
    exact ⟨[], nil_row w, by simp⟩
theorem rows_rc {w : World} {B g o c : Nat} {V : Nat → Value} {G : Nat → List Int} (hg : B ≤ g) : ∀ {idx : List Nat}, (∀ k ∈ idx, ∃ Lk, RC w (.sl 3 1 (List.map eInt (G k))) (V k) Lk ∧ ∀ y ∈ Lk, B ≤ y) → ∃ L', REs w 1 ((idx.map G).map eSlInt_3) (idx.map V) L' ∧ ∀ y ∈ L', B ≤ y
  | [], _ => ⟨[], ⟨rfl, rfl⟩, by simp⟩
  | k :: r, h => by
    obtain ⟨L2, h2, h3⟩ := rows_rc (c := c) (o := o) hg (idx := r) fun j m => h j (List.mem_cons_of_mem _ m)
    obtain ⟨L1, h4, h5⟩ := h k (List.mem_cons_self ..)
    exact ⟨L1 ++ L2, ⟨[V k], r.map V, L1, L2, rfl, rfl, ⟨RCs.solo h4, rfl⟩, h2⟩, fun y m => (List.mem_append.1 m).elim (h5 y) (h3 y)⟩
theorem sw_heap {α : Type} [Inhabited α] (enc : α → Value) (w : World) (g o m : Nat) (dk : Array α) (os : Array Obj) (y : Nat) (hy : y < w.heap.size) (hn : y ≠ g) : (sortWorld enc w g o m dk os).heap[y]? = w.heap[y]? := by
  unfold sortWorld
  rw [Go.Sort.heap_grow_old _ _ (by rw [Go.Sort.size_putRow]; exact hy)]
  unfold Go.Sort.putRow Go.Sort.mapBlock
  show (w.heap.modify g _)[y]? = _
  rw [Array.getElem?_modify, if_neg (fun e => hn e.symm)]
noncomputable def lrT : TypeInfo := (Try.prog.info? 33).get (by kernel_rfl)
noncomputable def lrE : TypeInfo := (Try.prog.info? 27).get (by kernel_rfl)
theorem lrK (n : Nat) : Lib.swapperK n lrE 23 = if n = 0 then 1 else if n = 1 then 2 else 9 := by
  have a : lrE.hasPointers = true := by kernel_rfl
  have b : lrE.bytes = 24 := by kernel_rfl
  unfold Lib.swapperK
  by_cases h0 : n = 0
  · subst h0; rfl
  · by_cases h1 : n = 1
    · subst h1; rfl
    · have c : (n == 0) = false := by simp [h0]
      have d : (n == 1) = false := by simp [h1]
      simp [a, b, c, d, h0, h1]
theorem range_at {n t : Nat} (h : t < n) : (Array.range n)[t]! = t := by
  rw [getElem!_pos (Array.range n) t (by simpa using h)]
  simp
set_option maxRecDepth 1000000 in
set_option maxHeartbeats 4000000 in
/-- the sort: the row holds its elements in order -/
theorem lr_sort {w : World} {B b : Nat} {v : Value} {cs : List Value} {L : List Nat} {l : List (List Int)} (hblk : Blk w b 33 #[v]) (hown : w.ownsV B 27 1 v l.length cs) (hre : REs w 1 (List.map eSlInt_3 l) cs L) (hO : Own w B (b :: (v.ownBlock.toList ++ L))) (h20 : l.length ≤ 20) :
    Calls Try.prog 21 #[.iface 33 v, .func (.func 22) #[] #[.pointer (some ⟨b, 0, none⟩)]] w fun e w' => e = .returned (.tuple #[]) ∧ w'.cell? ⟨b, 0, none⟩ = some v ∧ (∃ L', RC w' (.sl 27 1 (List.map eSlInt_3 (sortR l))) v L' ∧ ∀ y ∈ L', B ≤ y) ∧ Below B w w' := by
  have hcs : cs.length = l.length := by rw [hown.1, Nat.mul_one]
  obtain ⟨A, c, rfl, hnc, hcm⟩ := ownV_slice hown
  obtain ⟨hnb, hnd⟩ := List.nodup_cons.1 hO.nodup
  by_cases h2 : l.length ≤ 1
  · have hf : ∃ f, Try.prog.funcs.findIdx? (·.name == "internal/reflectlite" ++ ".Swapper$" ++ toString (Lib.swapperK l.length lrE 23)) = some f := by
      rw [lrK]
      by_cases h0 : l.length = 0
      · rw [if_pos h0]; exact ⟨49, by kernel_rfl⟩
      · rw [if_neg h0, if_pos (by omega)]; exact ⟨50, by kernel_rfl⟩
    obtain ⟨f, hf⟩ := hf
    have hT := Any.sort_SliceStable_tiny Try.laysGt8 33 27 lrT lrE (by kernel_rfl) (by kernel_rfl) (by kernel_rfl) (by kernel_rfl) 23 (fun _ => by kernel_rfl) A l.length c h2 f hf (.func 22) #[] #[.pointer (some ⟨b, 0, none⟩)] w
    refine (show Calls _ 21 _ _ _ from hT).mono ?_
    rintro e w' ⟨rfl, os, rfl⟩
    obtain ⟨A', c', L0, e0, _, _, hsl, hsub⟩ := Sl.row hown
    have hrc : RC w (.sl 27 1 (List.map eSlInt_3 l)) (.slice A l.length c) (L0 ++ L) := by
      simp only [Value.slice.injEq, true_and] at e0
      obtain ⟨rfl, rfl⟩ := e0
      exact ⟨A, c, cs, L0, L, by rw [List.length_map], by rw [List.length_map]; exact hnc, hcm, rfl, by omega, by rw [List.length_map]; exact hsl, hre⟩
    have hge : ∀ y ∈ L0 ++ L, B ≤ y := fun y m => hO.ge y (List.mem_cons_of_mem _ ((List.mem_append.1 m).elim (fun m => List.mem_append_left _ (hsub.subset m)) fun m => List.mem_append_right _ m))
    refine ⟨rfl, (Go.Sort.cell?_grow _ _ _ hblk.lt).trans (hblk.at (i := 0) rfl), ⟨L0 ++ L, ?_, hge⟩, ⟨rfl, rfl, rfl, by rw [Go.Sort.size_grow]; omega, fun k hk => ?_⟩⟩
    · rw [sortR_few h2]
      exact hrc.keep fun y m => Go.Sort.heap_grow_old _ _ (hrc.lt y m)
    · have : B ≤ b := hO.ge b (List.mem_cons_self ..)
      exact Go.Sort.heap_grow_old _ _ (by have := hblk.lt; omega)
  · rcases hown.2 with ⟨h0, h1⟩ | ⟨g, o, cap, cur, hv, hb, hg, hnc', hm, hs, ht⟩
    · omega
    simp only [Value.slice.injEq, true_and] at hv
    obtain ⟨rfl, rfl⟩ := hv
    have hgb : g ≠ b := fun e => hnb (by rw [← e]; simp [Value.ownBlock])
    have hgl : g < w.heap.size := (Array.getElem?_eq_some_iff.1 hg).1
    have hgL : ∀ y ∈ L, y ≠ g := fun y m e => (List.nodup_append.1 hnd).2.2 g (by simp [Value.ownBlock]) y m e.symm
    have hrow := lr_row hre hcs
    have hLlt : ∀ y ∈ L, y < w.heap.size := fun y m => hO.lt y (by simp [m])
    have hd : (Array.range l.length).size = l.length := by simp
    have hH : Go.Sort.Holds (fun k => (cs[k]?).getD (.slice none 0 0)) w g o (Array.range l.length) := fun j hj => by
      rw [hd] at hj
      rw [range_at hj]
      obtain ⟨u, hu⟩ : ∃ u, cs[j]? = some u := ⟨_, List.getElem?_eq_getElem (by omega)⟩
      refine ⟨?_, Blk.frozen hg _⟩
      show _ = some ((cs[j]?).getD _)
      rw [hu]
      exact ownsV_at hown rfl j u hu
    have hless : LessReads Try.prog 22 #[.pointer (some ⟨b, 0, none⟩)] (fun k => (cs[k]?).getD (.slice none 0 0)) (ltI l) g o (Array.range l.length).size w := by
      intro m os dk hs' i j hi hj
      rw [hd] at hs' hi hj
      have hsw := sw_heap (fun k => (cs[k]?).getD (.slice none 0 0)) w g o m dk os
      refine lr_less g o c b l.length _ (fun t => (cs[dk[t]!]?).getD (.slice none 0 0)) (fun t => rowI l dk[t]!) ?_ (fun t ht => ?_) (fun t ht => ?_) i j hi hj
      · exact (World.cell?_of_block (a := ⟨b, 0, none⟩) (hsw b hblk.lt (fun e => hgb e.symm))).trans (hblk.at (i := 0) rfl)
      · unfold sortWorld
        rw [Go.Sort.cell?_grow _ _ _ (by rw [Go.Sort.size_putRow]; exact hgl)]
        exact Go.Sort.cell?_putRow _ _ g o (Array.range l.length) dk (Go.Sort.holds_ahead _ _ _ _ _ _ hH) (by rw [hd]; exact hs') t (by omega)
      · obtain ⟨Lk, q1, q2⟩ := hrow dk[t]!
        have q3 := (encInt.sl 3).2 (q1.keep fun y m => hsw y (q1.lt y m) (hgL y (q2 y m)))
        obtain ⟨A, cp, e, _⟩ := id q3
        obtain ⟨r1, r2, r3⟩ := sliceC_out (by rw [← e]; exact q3)
        exact ⟨A, cp, Lk, by simpa using e, r1, r2, r3⟩
    have hS := Any.sort_SliceStable_small Try.laysGt8 33 27 lrT lrE (by kernel_rfl) (by kernel_rfl) (by kernel_rfl) (by kernel_rfl) 23 (fun _ => by kernel_rfl) (by kernel_rfl) (fun _ => by kernel_rfl) (fun k => (cs[k]?).getD (.slice none 0 0)) (fun k => by obtain ⟨Lk, q1, _⟩ := hrow k; exact q1.one) (ltI l) 22 _
      (enters_of Try.func22 (by kernel_rfl) rfl) g o c (Array.range l.length) (by omega) (by omega) 57 (by rw [lrK, hd, if_neg (by omega), if_neg (by omega)]; kernel_rfl) false
      (fun args W => run_callFunc_extern Try.func57 (by kernel_rfl) (by kernel_rfl) (by kernel_rfl) (e := Extern.ReflectliteSwapper.swap false) (by kernel_rfl) args W) w hless hH hgl
    rw [hd] at hS
    refine (show Calls _ 21 _ _ _ from hS).mono ?_
    rintro e w' ⟨rfl, n, os, rfl⟩
    have hsw := sw_heap (fun k => (cs[k]?).getD (.slice none 0 0)) w g o n (sortI l) os
    obtain ⟨hsz, _⟩ := sortI_perm l
    have hB : B ≤ b := hO.ge b (List.mem_cons_self ..)
    obtain ⟨L', hL', hge⟩ := rows_rc (w := sortWorld (fun k => (cs[k]?).getD (.slice none 0 0)) w g o n (sortI l) os) (B := B) (g := g) (o := o) (c := c) (V := fun k => (cs[k]?).getD (.slice none 0 0)) (G := rowI l) hb (idx := (sortI l).toList) fun k _ => by
      obtain ⟨Lk, q1, q2⟩ := hrow k
      exact ⟨Lk, q1.keep fun y m => hsw y (q1.lt y m) (hgL y (q2 y m)), fun y m => hO.ge y (by simp [q2 y m])⟩
    refine ⟨rfl, (World.cell?_of_block (a := ⟨b, 0, none⟩) (hsw b hblk.lt (fun e => hgb e.symm))).trans (hblk.at (i := 0) rfl), ⟨[g] ++ L', ?_, ?_⟩, ⟨rfl, rfl, rfl, ?_, fun k hk => hsw k (by have := hblk.lt; omega) (by omega)⟩⟩
    · have hlen : (List.map eSlInt_3 (sortR l)).length = l.length := by rw [List.length_map, sortR_len]
      refine ⟨some ⟨g, o, none⟩, c, (sortI l).toList.map fun k => (cs[k]?).getD (.slice none 0 0), [g], L', by rw [hlen], by rw [hlen]; exact hnc, hcm, rfl, by omega, ?_, by rw [sortR_eq]; exact hL'⟩
      rw [hlen]
      refine ⟨by simp [hsz], .inr ⟨by omega, g, o, rfl, rfl, fun j u hu => ?_⟩⟩
      have hj : j < (sortI l).size := by
        have := (List.getElem?_eq_some_iff.1 hu).1
        simpa using this
      rw [Go.Sort.cell?_grow _ _ _ (by rw [Go.Sort.size_putRow]; exact hgl)]
      change (Go.Sort.putRow _ _ g o (sortI l)).cell? _ = _
      rw [Go.Sort.cell?_putRow _ _ g o (Array.range l.length) (sortI l) (Go.Sort.holds_ahead _ _ _ _ _ _ hH) (by rw [hd]; exact hsz) j hj]
      rw [List.getElem?_map, Array.getElem?_toList, Array.getElem?_eq_getElem hj] at hu
      rw [getElem!_pos (sortI l) j hj]
      exact hu
    · intro y m
      rcases List.mem_append.1 m with m | m
      · simp at m; subst m; exact hb
      · exact hge y m
    · rw [Go.Sort.size_grow, Go.Sort.size_putRow]
      show w.heap.size ≤ w.heap.size + os.size
      omega
set_option maxRecDepth 1000000 in
set_option maxHeartbeats 8000000 in
theorem lr_ok {b_0 : BeliefsD} {bad_1 free_2 : List Int} {r : List (List Int)} (e1 : i_IsCase b_0 bad_1 free_2 = some true) (h : i_RepairsU b_0 bad_1 free_2 = some r) (h20 : r.length ≤ 20) : Sound Try.prog J0 7 [(true, eBeliefs b_0), (false, [.sl 3 1 (List.map eInt bad_1)]), (false, [.sl 3 1 (List.map eInt free_2)])] [(false, [(true, .sl 27 1 (List.map eSlInt_3 (sortR r)))])] := by
  refine fn_tail (od := fun _ => none) (hds := hds) htt hJ0 hmix 6 (LrK r) Try.func7 (by kernel_rfl) rfl (by kernel_rfl) (by kernel_rfl) ?_ ?_
  · unfold i_RepairsU at h
    simp only [takeC_seq, takeC_zero, Try.f7, argSt, go_sem, seval]
    refine call_K (by have hh := i_IsCase_ok e1; first | exact hh | (simp only [go_sem, *] at hh; exact hh)) ?_
    try simp only [go_sem, seval, *]
    obtain ⟨p3, h⟩ := chk_K h
    try simp only [go_sem, seval, *]
    refine swp_iter h (fun s st => match s with | (row_8, u_9) => IV [(1, .p false [.c (.sl 3 1 (List.map eInt bad_1))]), (2, .p false [.c (.sl 3 1 (List.map eInt free_2))]), (3, .bp 0 0), (7, .p false [.row 1]), (22, .p false [.c (.int .i64 (shlI .i64 1 ((free_2.length : Nat) : Int)))]), (23, .p false [.c (.int .i64 u_9)])] [.box 26 [.c (.int .i64 b_0.nodes), .c (.sl 47 3 (List.map eReason b_0.reasons))], .row 3 1 (List.map eInt row_8) 2] st) [(false, 7, 0)] [0, 192] (by decide) ?_ ?_
    · simp only [go_sem, seval, *]
    · rintro ⟨row_8, u_9⟩ ⟨sl, ob, n⟩ y4 hI5 hW6 h hy4
      simp only [go_sem, seval, str_len] at hI5
      obtain ⟨⟨g7_1, g7_2, g7_3, g7_7, g7_22, g7_23⟩, og7_0, og7_1, hn⟩ := hI5
      subst hn
      try simp only [go_sem, seval, *]
      refine ite_K h (fun c8 h => ?_) (fun c8 h => ?_) <;> try simp only [go_sem, seval, *]
      · obtain ⟨v10, e9, h⟩ := bind_K h
        refine call_K (by have hh := i_chosen_ok e9; first | exact hh | (simp only [go_sem, *] at hh; exact hh)) ?_
        try simp only [go_sem, seval, *]
        obtain ⟨v11, e10, h⟩ := bind_K h
        refine call_K (by have hh := i_DropReasons_ok e10; first | exact hh | (simp only [go_sem, *] at hh; exact hh)) ?_
        try simp only [go_sem, seval, *]
        obtain ⟨v12, e11, h⟩ := bind_K h
        refine call_K (by have hh := i_badIn_ok e11; first | exact hh | (simp only [go_sem, *] at hh; exact hh)) ?_
        try simp only [go_sem, seval, *]
        refine ite_K h (fun c12 h => ?_) (fun c12 h => ?_) <;> try simp only [go_sem, seval, *]
        · obtain ⟨p13, h⟩ := chk_K h
          try simp only [Nat.reduceLeDiff] at p13
          try simp only [go_sem, seval, *]
          refine ⟨_, [], [0, 242], (Option.some.inj h).symm, by decide, ?_⟩
          try simp only [go_sem, seval, *]
        · refine ⟨_, [], [0, 1], (Option.some.inj h).symm, by decide, ?_⟩
          try simp only [go_sem, seval, *]
      · refine swp_for h (fun i row_31 st => IV [(2, .p false [.c (.sl 3 1 (List.map eInt free_2))]), (7, .p false [.row 0]), (9, .bp 1 0), (40, .p false [.row 0]), (41, .p false [.c (.int .i64 ((row_8.length : Nat) : Int))]), (42, .p false [.c (.int .i64 ((i : Nat) : Int))])] [.row 3 1 (List.map eInt row_8) 2, .box 33 [.row 2], .row 27 1 (List.map eSlInt_3 row_31) 2] st) [(true, 18, 0)] [1, 18, 82] (by decide) ?_ ?_ ?_
        · simp only [go_sem, seval, *]
        · rintro i43 x44 row_31 ⟨sl, ob, n⟩ y14 hx15 hI16 hW17 h hy14
          simp only [go_sem, seval, str_len] at hI16
          obtain ⟨⟨g18_2, g18_7, g18_9, g18_40, g18_41, g18_42⟩, og18_0, og18_1, og18_2, hn⟩ := hI16
          subst hn
          have hlhx15 := WF.rowL hW17 og18_0
          have q19 := lt_t hx15
          have q20 := lt_p hx15
          have q21 := nat_in (lt_n hx15) hlhx15
          try simp only [go_sem, seval, *]
          refine swp_for h (fun i u_48 st => IV [(2, .p false [.c (.sl 3 1 (List.map eInt free_2))]), (7, .p false [.row 0]), (9, .bp 1 0), (11, .p false [.c (.int .i64 x44)]), (12, .p false [.c (.bool u_48)]), (40, .p false [.row 0]), (41, .p false [.c (.int .i64 ((row_8.length : Nat) : Int))]), (42, .p false [.c (.int .i64 ((i43 : Nat) : Int))]), (46, .p false [.row 0]), (47, .p false [.c (.int .i64 ((row_8.length : Nat) : Int))]), (48, .p false [.c (.int .i64 ((i : Nat) : Int))])] [.row 3 1 (List.map eInt row_8) 2, .box 33 [.row 2], .row 27 1 (List.map eSlInt_3 row_31) 2] st) [] [0, 1, 2] (by decide) ?_ ?_ ?_
          · simp only [go_sem, seval, *]
          · rintro i51 x52 u_48 ⟨sl, ob, n⟩ y22 hx23 hI24 hW25 h hy22
            simp only [go_sem, seval, str_len] at hI24
            obtain ⟨⟨g26_2, g26_7, g26_9, g26_11, g26_12, g26_40, g26_41, g26_42, g26_46, g26_47, g26_48⟩, og26_0, og26_1, og26_2, hn⟩ := hI24
            subst hn
            have hlhx23 := WF.rowL hW25 og26_0
            have q27 := lt_t hx23
            have q28 := lt_p hx23
            have q29 := nat_in (lt_n hx23) hlhx23
            try simp only [go_sem, seval, *]
            refine ite_K h (fun c30 h => ?_) (fun c30 h => ?_) <;> try simp only [go_sem, seval, *]
            · refine ite_K h (fun c31 h => ?_) (fun c31 h => ?_) <;> try simp only [go_sem, seval, *]
              · refine ⟨_, [], [0, 1, 2], (Option.some.inj h).symm, by decide, ?_⟩
                try simp only [go_sem, seval, *]
              · refine ⟨_, [], [0, 1, 2], (Option.some.inj h).symm, by decide, ?_⟩
                try simp only [go_sem, seval, *]
            · refine ⟨_, [], [0, 1, 2], (Option.some.inj h).symm, by decide, ?_⟩
              try simp only [go_sem, seval, *]
          · rintro u_48 ⟨sl, ob, n⟩ hI32 hW33 h
            simp only [go_sem, seval, str_len] at hI32
            obtain ⟨⟨g34_2, g34_7, g34_9, g34_11, g34_12, g34_40, g34_41, g34_42, g34_46, g34_47, g34_48⟩, og34_0, og34_1, og34_2, hn⟩ := hI32
            subst hn
            have q35 := lt_f (row_8.length)
            try simp only [go_sem, seval, *]
            refine ite_K h (fun c36 h => ?_) (fun c36 h => ?_) <;> try simp only [go_sem, seval, *]
            · obtain ⟨v53, e37, h⟩ := bind_K h
              refine call_K (by have hh := i_chosen_ok e37; first | exact hh | (simp only [go_sem, *] at hh; exact hh)) ?_
              obtain ⟨p38, h⟩ := chk_K h
              try simp only [Nat.reduceLeDiff] at p38
              try simp only [go_sem, seval, *]
              refine ⟨_, [], [0, 1, 115], (Option.some.inj h).symm, by decide, ?_⟩
              try simp only [go_sem, seval, *]
            · refine ⟨_, [], [0, 1, 2], (Option.some.inj h).symm, by decide, ?_⟩
              try simp only [go_sem, seval, *]
        · rintro row_31 ⟨sl, ob, n⟩ hI39 hW40 h
          simp only [go_sem, seval, str_len] at hI39
          obtain ⟨⟨g41_2, g41_7, g41_9, g41_40, g41_41, g41_42⟩, og41_0, og41_1, og41_2, hn⟩ := hI39
          subst hn
          have q42 := lt_f (row_8.length)
          replace h := inr_K h hy4
          obtain rfl := Option.some.inj h
          try simp only [go_sem, seval, *]
          show LrK _ _
          exact ⟨by first | exact g41_9 | simp only [go_sem, seval, *], by first | exact og41_1 | simp only [go_sem, seval, *], by first | exact og41_2 | simp only [go_sem, seval, *]⟩
  · intro _ W U st a w hJ hz hx hI hN hk
    obtain ⟨hdf, b, v, cs, L, h9, hblk, hown, hre, hO, hbel⟩ := lr_facts hx hI hk
    simp only [dropC]
    obtain ⟨tm0, df⟩ := a
    obtain ⟨tm, rfl⟩ : ∃ l, tm0 = List.toArray l := ⟨tm0.toList, by simp⟩
    obtain rfl : df = [] := hdf
    have hN : tm.length = 79 := hN
    clear hI hk
    obtain ⟨f, rfl⟩ := list_slots hN
    have hf : f 9 = .pointer (some ⟨b, 0, none⟩) := h9
    clear h9 hN
    have hS := lr_sort hblk hown hre hO h20
    have k0 : w.cell? ⟨b, 0, none⟩ = some v := hblk.at (i := 0) rfl
    have HBW := Lib.hid hbel
    have HX := Lib.hid hx
    have HZ := Lib.hid hz
    clear hblk hown hre hO hbel hx hz
    simp only [List.range, List.range.loop, List.map, hf]
    go_wp2_with (go_at_call 21; refine hS.mono ?_; rintro e w' ⟨rfl, k1, hrc, hbw⟩)
    clear hS k0
    have HR := Lib.hid hrc
    have HW := Lib.hid hbw
    clear hrc hbw
    go_wp2
    go_ret
    obtain ⟨L', h1, h2⟩ := HR.out
    refine ⟨v, W.z, rfl, ⟨[_], [], ⟨_, [], [], [], rfl, rfl, .inr ⟨rfl, _, rfl, rfl, L', h1, fun y m hy => ?_⟩, rfl, rfl⟩, Own.nil _ _, rfl⟩, fun _ h => h, ?_⟩
    · have := HZ.out y hy
      have := h2 y m
      omega
    · exact ⟨HW.out.os.trans HBW.out.os, HW.out.tape.trans HBW.out.tape, HW.out.output.trans HBW.out.output, Nat.le_trans HBW.out.size HW.out.size, fun k hk => (HW.out.block k hk).trans (HBW.out.block k hk (HX.out k))⟩
theorem i_LeastRepairs_ok {b_0 : BeliefsD} {bad_1 free_2 : List Int} {r : List (List Int)} (h : i_LeastRepairs b_0 bad_1 free_2 = some r) : Sound Try.prog J0 7 [(true, eBeliefs b_0), (false, [.sl 3 1 (List.map eInt bad_1)]), (false, [.sl 3 1 (List.map eInt free_2)])] [(false, [(true, .sl 27 1 (List.map eSlInt_3 r))])] := by
  unfold i_LeastRepairs at h
  obtain ⟨v1, e1, h⟩ := bind_K h
  cases v1 with
  | true =>
    rw [if_pos rfl] at h
    obtain ⟨l, e2, h⟩ := bind_K h
    by_cases h20 : l.length ≤ 20
    · rw [if_pos h20] at h
      obtain rfl := Option.some.inj h
      exact lr_ok e1 e2 h20
    · rw [if_neg h20] at h; cases h
  | false =>
    obtain rfl := Option.some.inj h
    refine fnk Try.func7 rfl ?_
    simp only [fnS, Try.f7, argSt, go_sem, seval]
    refine call_K (by have hh := i_IsCase_ok e1; first | exact hh | (simp only [go_sem, *] at hh; exact hh)) ?_
    try simp only [go_sem, seval, *]
end
section
open Go.Proofs.Try
set_option linter.unusedSimpArgs false
set_option linter.unusedVariables false
set_option maxRecDepth 1000000
set_option maxHeartbeats 4000000
theorem w_FnRepairsHit_ok {append_0 : (List Int)} {r : Bool} (h : w_FnRepairsHit append_0 = some r) : Sound Try.prog J0 3 [(false, [.sl 5 1 (List.map eByte append_0)])] [(false, [(false, .bool r)])] := by
  refine fnk Try.func3 rfl ?_
  unfold w_FnRepairsHit at h
  have kn0 : ¬ ((0 : Int) < 0) := by decide
  simp only [fnS, f3, argSt, go_sem, seval, kn0]
  obtain ⟨v1, e1, h⟩ := bind_K h
  refine call_K (by have hh := w_big_ok e1; first | exact hh | (simp only [go_sem, *] at hh; exact hh)) ?_
  try simp only [go_sem, seval, *]
  refine ite_K h (fun c2 h => ?_) (fun c2 h => ?_) <;> try simp only [go_sem, seval, *]
  · obtain rfl := Option.some.inj h
    try simp only [go_sem, seval, *]
  · obtain ⟨v2, e3, h⟩ := bind_K h
    refine call_K (by have hh := s_DrawGoodFrame_ok e3; first | exact hh | (simp only [go_sem, *] at hh; exact hh)) ?_
    try simp only [go_sem, seval, *]
    obtain ⟨v3, e4, h⟩ := bind_K h
    refine call_K (by have hh := i_PremisesFrom_ok e4; first | exact hh | (simp only [go_sem, *] at hh; exact hh)) ?_
    try simp only [go_sem, seval, *]
    refine ite_K h (fun c5 h => ?_) (fun c5 h => ?_) <;> try simp only [go_sem, seval, *]
    · refine ite_K h (fun c6 h => ?_) (fun c6 h => ?_) <;> try simp only [go_sem, seval, *]
      · obtain rfl := Option.some.inj h
        try simp only [go_sem, seval, *]
      · obtain ⟨v4, e7, h⟩ := bind_K h
        refine frz_K (by have hh := i_LeastRepairs_ok e7; first | exact hh | (simp only [go_sem, *] at hh; exact hh)) ?_
        try simp only [go_sem, seval, *]
        obtain ⟨v5, e8, h⟩ := bind_K h
        refine call_K (by have hh := i_NogoodsOf_ok e8; first | exact hh | (simp only [go_sem, *] at hh; exact hh)) ?_
        try simp only [go_sem, seval, *]
        obtain ⟨v6, e9, h⟩ := bind_K h
        refine call_K (by have hh := i_HittingSets_ok e9; first | exact hh | (simp only [go_sem, *] at hh; exact hh)) ?_
        try simp only [go_sem, seval, *]
        refine ite_K h (fun c10 h => ?_) (fun c10 h => ?_) <;> try simp only [go_sem, seval, *]
        · obtain rfl := Option.some.inj h
          try simp only [go_sem, seval, *]
        · refine swp_for h (fun i _ st => IV [(3, .bp 0 0), (4, .bp 4 0), (5, .p false [.row 6]), (7, .p false [.c (.sl 27 1 (List.map eSlInt_3 v4))]), (8, .p false [.row 7]), (9, .p false [.c (.int .i64 ((i : Nat) : Int))])] [.box 29 [.c (.int .i64 v2.beliefs.nodes), .row 1, .row 2, .row 3], .row 47 3 (List.map eReason v2.beliefs.reasons) 2, .row 3 1 (List.map eInt v2.assumed) 2, .row 3 1 (List.map eInt v2.bad) 0, .box 26 [.c (.int .i64 v3.1.nodes), .row 5], .row 47 3 (List.map eReason v3.1.reasons) 0, .row 3 1 (List.map eInt v3.2.1) 0, .row 3 1 (List.map eInt v6) 2] st) [] [80, 64, 65, 66, 208, 128, 129, 592] (by decide) ?_ ?_ ?_
          · simp only [go_sem, seval, *]
          · rintro i46 x47 ⟨⟩ ⟨sl, ob, n⟩ y11 hx12 hI13 hW14 h hy11
            simp only [go_sem, seval, str_len] at hI13
            obtain ⟨⟨g15_3, g15_4, g15_5, g15_7, g15_8, g15_9⟩, og15_0, og15_1, og15_2, og15_3, og15_4, og15_5, og15_6, og15_7, hn⟩ := hI13
            subst hn
            have hlhx12 := WF.slotL hW14 g15_7 (j := 0) rfl
            have q16 := lt_t hx12
            have q17 := lt_p hx12
            have q18 := nat_in (lt_n hx12) hlhx12
            try simp only [go_sem, seval, *]
            refine swp_for h (fun i u_50 st => IV [(3, .bp 0 0), (4, .bp 4 0), (5, .p false [.row 6]), (7, .p false [.c (.sl 27 1 (List.map eSlInt_3 v4))]), (8, .p false [.row 7]), (9, .p false [.c (.int .i64 ((i46 : Nat) : Int))]), (10, .p false [.c (.int .i64 u_50)]), (11, .p false [.c (.int .i64 ((i : Nat) : Int))])] [.box 29 [.c (.int .i64 v2.beliefs.nodes), .row 1, .row 2, .row 3], .row 47 3 (List.map eReason v2.beliefs.reasons) 2, .row 3 1 (List.map eInt v2.assumed) 2, .row 3 1 (List.map eInt v2.bad) 0, .box 26 [.c (.int .i64 v3.1.nodes), .row 5], .row 47 3 (List.map eReason v3.1.reasons) 0, .row 3 1 (List.map eInt v3.2.1) 0, .row 3 1 (List.map eInt v6) 2] st) [] [0, 1, 2, 3, 4, 5, 6, 7] (by decide) ?_ ?_ ?_
            · simp only [go_sem, seval, *]
            · rintro i55 x56 u_50 ⟨sl, ob, n⟩ y19 hx20 hI21 hW22 h hy19
              simp only [go_sem, seval, str_len] at hI21
              obtain ⟨⟨g23_3, g23_4, g23_5, g23_7, g23_8, g23_9, g23_10, g23_11⟩, og23_0, og23_1, og23_2, og23_3, og23_4, og23_5, og23_6, og23_7, hn⟩ := hI21
              subst hn
              have hlhx20 := WF.rowL hW22 og23_6
              have q24 := lt_t hx20
              have q25 := lt_p hx20
              have q26 := nat_in (lt_n hx20) hlhx20
              try simp only [go_sem, seval, *]
              obtain ⟨v57, e27, h⟩ := bind_K h
              refine call_K (by have hh := w_hasInt_ok e27; first | exact hh | (simp only [go_sem, *] at hh; exact hh)) ?_
              try simp only [go_sem, seval, *]
              refine ite_K h (fun c28 h => ?_) (fun c28 h => ?_) <;> try simp only [go_sem, seval, *]
              · obtain ⟨p29, h⟩ := chk_K h
                try simp only [go_sem, seval, *]
                refine ⟨_, [], [0, 1, 2, 3, 4, 5, 6, 7], (Option.some.inj h).symm, by decide, ?_⟩
                try simp only [go_sem, seval, *]
              · refine ⟨_, [], [0, 1, 2, 3, 4, 5, 6, 7], (Option.some.inj h).symm, by decide, ?_⟩
                try simp only [go_sem, seval, *]
            · rintro u_50 ⟨sl, ob, n⟩ hI30 hW31 h
              simp only [go_sem, seval, str_len] at hI30
              obtain ⟨⟨g32_3, g32_4, g32_5, g32_7, g32_8, g32_9, g32_10, g32_11⟩, og32_0, og32_1, og32_2, og32_3, og32_4, og32_5, og32_6, og32_7, hn⟩ := hI30
              subst hn
              have q33 := lt_f (v3.2.1.length)
              try simp only [go_sem, seval, *]
              obtain ⟨v58, e34, h⟩ := bind_K h
              refine call_K (by have hh := w_hasInt_ok e34; first | exact hh | (simp only [go_sem, *] at hh; exact hh)) ?_
              try simp only [go_sem, seval, *]
              refine ite_K h (fun c35 h => ?_) (fun c35 h => ?_) <;> try simp only [go_sem, seval, *]
              · refine ⟨_, [], [0, 1, 2, 3, 4, 5, 6, 7], (Option.some.inj h).symm, by decide, ?_⟩
                try simp only [go_sem, seval, *]
              · replace h := inr_K h hy11
                obtain rfl := Option.some.inj h
                try simp only [go_sem, seval, *]
          · rintro ⟨⟩ ⟨sl, ob, n⟩ hI36 hW37 h
            simp only [go_sem, seval, str_len] at hI36
            obtain ⟨⟨g38_3, g38_4, g38_5, g38_7, g38_8, g38_9⟩, og38_0, og38_1, og38_2, og38_3, og38_4, og38_5, og38_6, og38_7, hn⟩ := hI36
            subst hn
            have q39 := lt_f (v4.length)
            try simp only [go_sem, seval, *]
            obtain ⟨v59, e40, h⟩ := bind_K h
            refine call_K (by have hh := i_LabelsOf_ok e40; first | exact hh | (simp only [go_sem, *] at hh; exact hh)) ?_
            obtain ⟨p41, h⟩ := chk_K h
            try simp only [go_sem, seval, *]
            obtain ⟨v60, e42, h⟩ := bind_K h
            refine call_K (by have hh := i_NodesUnder_ok e42; first | exact hh | (simp only [go_sem, *] at hh; exact hh)) ?_
            try simp only [go_sem, seval, *]
            refine swp_for h (fun i _ st => IV [(3, .bp 0 0), (12, .p false [.row 4]), (13, .p false [.row 5]), (14, .p false [.c (.int .i64 ((i : Nat) : Int))])] [.box 29 [.c (.int .i64 v2.beliefs.nodes), .row 1, .row 2, .row 3], .row 47 3 (List.map eReason v2.beliefs.reasons) 2, .row 3 1 (List.map eInt v2.assumed) 2, .row 3 1 (List.map eInt v2.bad) 0, .row 4 1 (List.map eBool v59) 2, .row 3 1 (List.map eInt v60) 2] st) [] [0, 1, 2, 3, 88, 200] (by decide) ?_ ?_ ?_
            · simp only [go_sem, seval, *]
            · rintro i66 x67 ⟨⟩ ⟨sl, ob, n⟩ y43 hx44 hI45 hW46 h hy43
              simp only [go_sem, seval, str_len] at hI45
              obtain ⟨⟨g47_3, g47_12, g47_13, g47_14⟩, og47_0, og47_1, og47_2, og47_3, og47_4, og47_5, hn⟩ := hI45
              subst hn
              have hlhx44 := WF.rowL hW46 og47_4
              have q48 := lt_t hx44
              have q49 := lt_p hx44
              have q50 := nat_in (lt_n hx44) hlhx44
              try simp only [go_sem, seval, *]
              obtain ⟨v68, e51, h⟩ := bind_K h
              refine call_K (by have hh := w_hasInt_ok e51; first | exact hh | (simp only [go_sem, *] at hh; exact hh)) ?_
              try simp only [go_sem, seval, *]
              refine ite_K h (fun c52 h => ?_) (fun c52 h => ?_) <;> try simp only [go_sem, seval, *]
              · refine ⟨_, [], [0, 1, 2, 3, 4, 5], (Option.some.inj h).symm, by decide, ?_⟩
                try simp only [go_sem, seval, *]
              · replace h := inr_K h hy43
                obtain rfl := Option.some.inj h
                try simp only [go_sem, seval, *]
            · rintro ⟨⟩ ⟨sl, ob, n⟩ hI53 hW54 h
              simp only [go_sem, seval, str_len] at hI53
              obtain ⟨⟨g55_3, g55_12, g55_13, g55_14⟩, og55_0, og55_1, og55_2, og55_3, og55_4, og55_5, hn⟩ := hI53
              subst hn
              have q56 := lt_f (v59.length)
              obtain rfl := Option.some.inj h
              try simp only [go_sem, seval, *]
    · obtain rfl := Option.some.inj h
      try simp only [go_sem, seval, *]
end
section
open Go.RowKit Go.Deep

def Opens {α : Type} (P : Program) (t : TypeId) (c : Codec α) (wf : α → Prop) : Prop :=
  ∀ {H : Type} {enc : TypeId × Value → H} {w : World} {base : Nat} {spare : Nat → Bool} {held : Bool} {fuel : Nat} {cs : List Value} {x : DataW H × List MemPlace},
    DataW.trod enc P w base spare held fuel t cs = some x → ∃ d L, c.rep w cs d L ∧ wf d

theorem opens_byte {P : Program} {t : TypeId} (ht : P.underlying t = some (.int .u8)) : Opens P t byteC (fun n => 0 ≤ n ∧ n ≤ 255) := by
  intro H enc w base spare held fuel cs x h
  obtain ⟨n, rfl, _, hw⟩ := DataW.trod_int ht h
  refine ⟨n, [], ⟨rfl, rfl⟩, ?_⟩
  simp [Lit.wf, IntKind.min, IntKind.max, IntKind.signed, IntKind.bits] at hw
  exact ⟨by omega, by omega⟩
theorem opens_slice {α : Type} {c : Codec α} {wf : α → Prop} {P : Program} {t e : TypeId} (ht : P.underlying t = some (.slice e)) (hc : P.cellsOf e = c.size) (ho : Opens P e c wf) : Opens P t (sliceC c) (fun ds => ∀ d ∈ ds, wf d) := by
  intro H enc w base spare held fuel cs x h
  rcases open_slice ht h with ⟨rfl, _⟩ | ⟨a, len, cap, m, n, D, Pl, rfl, hb, hl, hm, hmm, _, hx⟩
  · exact ⟨[], [], ⟨none, 0, rfl, Nat.le_refl _, Nat.zero_le _, Sli.nil _ _⟩, by simp⟩
  · have hlm : len ≤ m := by rw [hmm]; split <;> omega
    have key : ∀ q, q ≤ len → ∃ (xs : List Value) (ds : List α) (L : List Nat), ds.length = q ∧ (∀ j u, xs[j]? = some u → w.cell? (a.add j) = some u) ∧ c.reps w xs ds L ∧ ∀ d ∈ ds, wf d := by
      intro q
      induction q with
      | zero => exact fun _ => ⟨[], [], [], rfl, by simp, ⟨rfl, rfl⟩, by simp⟩
      | succ q ih =>
        intro hq
        obtain ⟨xs, ds, L, hd, hcell, hr, hwf⟩ := ih (by omega)
        obtain ⟨cs', h1, h2⟩ := hx q (by omega)
        obtain ⟨d, Lq, hrep, hwd⟩ := ho h2
        obtain ⟨_, hlen, hat⟩ := World.cells?_some h1
        refine ⟨xs ++ cs', ds ++ [d], L ++ Lq, by simp [hd], fun j u hu => ?_, reps_append hr (reps_one_of hrep), ?_⟩
        · have hxl : xs.length = q * c.size := by rw [reps_len hr, hd]
          rw [List.getElem?_append] at hu
          split at hu
          · exact hcell j u hu
          · rename_i hj
            have hj2 := (List.getElem?_eq_some_iff.1 hu).1
            have := hat (j - xs.length) (by omega)
            rw [← hu, ← this, Go.Deep.add_add, hc, ← hxl]
            congr 2
            omega
        · intro y hy
          rcases List.mem_append.1 hy with hy | hy
          · exact hwf y hy
          · simp at hy; subst hy; exact hwd
    obtain ⟨xs, ds, L, hd, hcell, hr, hwf⟩ := key len (Nat.le_refl _)
    have hxl := reps_len hr
    rcases Nat.eq_zero_or_pos len with h0 | h0
    · have : ds = [] := List.eq_nil_of_length_eq_zero (by omega)
      subst this
      refine ⟨[], [], ⟨some a, cap, by simp at hd; rw [← hd]; rfl, by simp, hm, Sli.nil _ _⟩, by simp⟩
    · obtain ⟨b, off, sp⟩ := a
      have hp : 0 < xs.length := by rw [hxl, hd]; exact Nat.mul_pos h0 c.pos
      have hsp : sp = none := by
        have h1 := hcell 0 _ (List.getElem?_eq_getElem hp)
        have e : (⟨b, off, sp⟩ : Addr).add 0 = ⟨b, off, sp⟩ := by simp [Addr.add]
        rw [e] at h1
        cases sp with
        | none => rfl
        | some q =>
          simp only [World.cell?] at h1
          split at h1 <;> simp at h1
      subst hsp
      refine ⟨ds, [b] ++ L, ⟨some ⟨b, off, none⟩, cap, by rw [hd], by omega, hm, xs, [b], L, rfl, ⟨by rw [hxl], .inr ⟨by omega, b, off, rfl, rfl, fun j u hu => ?_⟩⟩, hr⟩, hwf⟩
      have := hcell j u hu
      rwa [add_lit0] at this
end
section
open Go.RowKit

theorem FnRepairsHit_walk (w : World) (A : Option Addr) (c : Nat) (code : List Int) (L : List Nat) (h : (sliceC byteC).rep w [.slice A code.length c] code L) :
    Calls Try.prog 3 #[.slice A code.length c] w (fun e w' => e = .returned (.bool true) ∧ Below w.heap.size w w') :=
  Sound.givesB (w_FnRepairsHit_ok (FnRepairsHit_plain code)) trivial (vs := [_]) ⟨arg_sl encByte _ h, trivial⟩
end
end Go.Proofs.Ytnacpkmpdlodoaa
