/- Texts of this proof, joined: P1, E2, E3, E15, P5, F3, F4, P14, R14, S14, F6, F7, BInv, BRun, BOps1, BOps2. What each holds is said at its theorems. -/
import Derived.Test.YtlkgkkacnoaeaaaGreatDoorPossibleFactsQ1
import Derived.Lib.Bytealg
import Derived.Laws.CopyRow
import Derived.Laws.OwnMore
import Derived.Laws.StructEq
set_option linter.unusedSimpArgs false
set_option linter.unusedVariables false
namespace Go.Proofs.YtlkgkkacnoaeaaaGreatDoor

def atomByte (b : UInt8) : Bool := (decide (97 ≤ b.toNat) && decide (b.toNat ≤ 122)) || (decide (48 ≤ b.toNat) && decide (b.toNat ≤ 57))

def isAtomB (s : ByteArray) : Bool := decide (1 ≤ s.size) && decide (s.size ≤ 8) && (toL s).all atomByte

theorem s_l1In_eq (x a b : Int) : s_l1In x a b = some (decide (a ≤ x) && decide (x ≤ b)) := by
  unfold s_l1In
  by_cases h : a ≤ x <;> simp [h]

theorem wrap_byte (b : UInt8) : IntKind.i64.wrap ((b.toNat : Nat) : Int) = ((b.toNat : Nat) : Int) := wrap_ok (by omega) (by have := b.toNat_lt; omega)

theorem atomByte_iff {b : UInt8} : atomByte b = true ↔ (97 ≤ b.toNat ∧ b.toNat ≤ 122) ∨ (48 ≤ b.toNat ∧ b.toNat ≤ 57) := by
  simp only [atomByte, Bool.or_eq_true, Bool.and_eq_true, decide_eq_true_eq]

theorem s_IsAtom_eq (s : ByteArray) : s_IsAtom s = some (isAtomB s) := by
  unfold s_IsAtom isAtomB
  rw [show s.data.toList = toL s from rfl, forL_all (p := atomByte) (r := false)]
  · simp only [s_l1In_eq, Option.bind_some]
    cases (toL s).all atomByte with
    | true =>
      simp only [if_true, Bool.and_true]
      congr 1
      rw [Bool.eq_iff_iff]
      simp only [Bool.and_eq_true, decide_eq_true_eq]
      omega
    | false => simp
  · intro i x _
    simp only [s_l1In_eq, Option.bind_some, wrap_byte, Bool.and_eq_true, decide_eq_true_eq]
    cases hp : atomByte x with
    | true =>
      have := atomByte_iff.1 hp
      repeat' split
      all_goals first | rfl | (exfalso; omega) | (exfalso; simp_all; done)
    | false =>
      have := mt (atomByte_iff (b := x)).2 (by simp [hp])
      repeat' split
      all_goals first | rfl | (exfalso; omega) | (exfalso; simp_all; done)

theorem i_IsAtom_eq (s : ByteArray) : i_IsAtom s = some (isAtomB s) := by
  unfold i_IsAtom isAtomB
  simp only [decide_eq_true_eq]
  rw [show s.data.toList = toL s from rfl, forL_all (p := atomByte) (r := false)]
  · repeat' split
    · rw [decide_eq_false (show ¬ 1 ≤ s.size by omega)]; rfl
    · rw [decide_eq_false (show ¬ s.size ≤ 8 by omega)]; simp
    · rename_i h; rw [h, decide_eq_true (show 1 ≤ s.size by omega), decide_eq_true (show s.size ≤ 8 by omega)]; rfl
    · rename_i h; rw [eq_false_of_ne_true h]; simp
  · intro i x _
    cases hp : atomByte x with
    | true =>
      have := atomByte_iff.1 hp
      repeat' split
      all_goals first | rfl | (exfalso; omega) | (exfalso; simp_all; done)
    | false =>
      have := mt (atomByte_iff (b := x)).2 (by simp [hp])
      repeat' split
      all_goals first | rfl | (exfalso; omega) | (exfalso; simp_all; done)

def headB (s : ByteArray) : UInt8 := (toL s).headD 0

theorem sAt_zero {s : ByteArray} (h : 1 ≤ s.size) : sAt s 0 = some (headB s) := by
  unfold sAt headB
  have hl : 0 < (toL s).length := by rw [toL_len]; omega
  have : (toL s)[0]? = some ((toL s).headD 0) := by
    cases hh : toL s with
    | nil => rw [hh] at hl; simp at hl
    | cons a r => simp
  rw [if_pos (by omega)]
  exact str_at this

def isNameB (s : ByteArray) : Bool := isAtomB s && decide (97 ≤ (headB s).toNat)

theorem isAtomB_size {s : ByteArray} (h : isAtomB s = true) : 1 ≤ s.size ∧ s.size ≤ 8 := by
  simp only [isAtomB, Bool.and_eq_true, decide_eq_true_eq] at h
  exact h.1

theorem isAtomB_head {s : ByteArray} (h : isAtomB s = true) : atomByte (headB s) = true := by
  have hs := isAtomB_size h
  simp only [isAtomB, Bool.and_eq_true] at h
  have hl : 0 < (toL s).length := by rw [toL_len]; omega
  refine List.all_eq_true.1 h.2 _ ?_
  unfold headB
  cases hh : toL s with
  | nil => rw [hh] at hl; simp at hl
  | cons a r => simp

theorem s_IsName_eq (s : ByteArray) : s_IsName s = some (isNameB s) := by
  unfold s_IsName isNameB
  rw [s_IsAtom_eq, Option.bind_some]
  cases h : isAtomB s with
  | false => simp
  | true =>
    simp only [if_true, sAt_zero (isAtomB_size h).1, Option.bind_some, s_l1In_eq, wrap_byte, Bool.true_and]
    have hb := atomByte_iff.1 (isAtomB_head h)
    congr 1
    rw [Bool.eq_iff_iff]
    simp only [Bool.and_eq_true, decide_eq_true_eq]
    omega

theorem i_IsName_eq (s : ByteArray) : i_IsName s = some (isNameB s) := by
  unfold i_IsName isNameB
  rw [i_IsAtom_eq, Option.bind_some]
  cases h : isAtomB s with
  | false => simp
  | true =>
    simp only [if_true, sAt_zero (isAtomB_size h).1, Option.bind_some, Bool.true_and]
    congr 1
    rw [Bool.eq_iff_iff]
    simp only [decide_eq_true_eq]
    omega

def tailB (s : ByteArray) : ByteArray := s.extract 1 s.size

def isVarB (s : ByteArray) : Bool := decide (1 < s.size) && decide ((headB s).toNat = 63) && isAtomB (tailB s)

theorem s_IsVar_eq (s : ByteArray) : s_IsVar s = some (isVarB s) := by
  unfold s_IsVar isVarB tailB
  by_cases h : 1 < s.size
  · have h' : (1 : Int) < ((s.size : Nat) : Int) := by omega
    simp only [h', h, decide_true, if_true, sAt_zero (show 1 ≤ s.size by omega), Option.bind_some, Bool.true_and]
    rw [chk_pos _ ⟨by omega, by omega⟩, show Int.toNat 1 = 1 from rfl, s_IsAtom_eq, Option.bind_some]
    by_cases h2 : (headB s).toNat = 63
    · simp [h2]
    · have : ¬ ((headB s).toNat : Int) = 63 := by omega
      simp [h2, this]
  · have h' : ¬ (1 : Int) < ((s.size : Nat) : Int) := by omega
    simp [h', h]

theorem i_IsVar_eq (s : ByteArray) : i_IsVar s = some (isVarB s) := by
  unfold i_IsVar isVarB tailB
  by_cases h : 1 < s.size
  · have h' : (1 : Int) < ((s.size : Nat) : Int) := by omega
    simp only [h', h, decide_true, if_true, sAt_zero (show 1 ≤ s.size by omega), Option.bind_some, Bool.true_and]
    rw [chk_pos _ ⟨by omega, by omega⟩, show Int.toNat 1 = 1 from rfl, i_IsAtom_eq, Option.bind_some]
    by_cases h2 : (headB s).toNat = 63
    · simp [h2]
    · have : ¬ ((headB s).toNat : Int) = 63 := by omega
      simp [h2, this]
  · have h' : ¬ (1 : Int) < ((s.size : Nat) : Int) := by omega
    simp [h', h]

def isTermB (s : ByteArray) : Bool := isAtomB s || isVarB s

theorem s_IsTerm_eq (s : ByteArray) : s_IsTerm s = some (isTermB s) := by
  unfold s_IsTerm isTermB
  rw [s_IsAtom_eq, s_IsVar_eq]
  cases isAtomB s <;> simp

theorem i_IsTerm_eq (s : ByteArray) : i_IsTerm s = some (isTermB s) := by
  unfold i_IsTerm isTermB
  rw [i_IsAtom_eq, i_IsVar_eq]
  cases isAtomB s <;> simp

theorem s_l1HasText_eq (l : List ByteArray) (s : ByteArray) : s_l1HasText l s = some (hasT l s) := by
  unfold s_l1HasText hasT
  rw [forL_any (p := fun x => sEq x s) (r := true)]
  · cases l.any fun x => sEq x s <;> simp
  · intro i x _
    cases sEq x s <;> simp

theorem i_hasText_eq (l : List ByteArray) (s : ByteArray) : i_hasText l s = some (hasT l s) := by
  unfold i_hasText hasT
  rw [forL_any (p := fun x => sEq x s) (r := true)]
  · cases l.any fun x => sEq x s <;> simp
  · intro i x _
    cases sEq x s <;> simp

theorem s_l1Put_eq (l : List ByteArray) (s : ByteArray) (h : l.length + 1 ≤ 1073741824) : s_l1Put l s = some (putT l s) := by
  unfold s_l1Put
  refine (forL_rec (fun l _ (st : List ByteArray × Bool) => some (if st.2 = true then st.1 ++ l else st.1 ++ putT l s)) (fun l _ (st : List ByteArray × Bool) => st.1.length + l.length + (if st.2 = true then 0 else 1) ≤ 1073741824) ?_ ?_ l 0 ([], false) (by simpa using h)).trans (by simp)
  · rintro i ⟨row, d⟩ hI
    cases d with
    | true => simp
    | false => simp only [Bool.false_eq_true, if_false, putT]; simp at hI; rw [chk_pos _ (by omega)]
  · rintro x l i ⟨row, d⟩ hI
    left
    cases d with
    | true =>
      simp at hI
      exact ⟨(row ++ [x], true), by simp only [if_true]; rw [chk_pos _ (by omega)], by simp; omega, by simp⟩
    | false =>
      simp at hI
      cases h1 : sLt x s with
      | true => exact ⟨(row ++ [x], false), by simp only [Bool.false_eq_true, if_false, if_true]; rw [chk_pos _ (by omega)], by simp; omega, by simp [putT, h1]⟩
      | false =>
        cases h2 : sEq x s with
        | true => exact ⟨(row ++ [x], true), by simp only [Bool.false_eq_true, if_false, if_true]; rw [chk_pos _ (by omega)], by simp; omega, by simp [putT, h1, h2]⟩
        | false => exact ⟨(row ++ [s] ++ [x], true), by simp only [Bool.false_eq_true, if_false]; rw [chk_pos _ (by omega), chk_pos _ (by omega)], by simp; omega, by simp [putT, h1, h2]⟩

/-- of equal neighbours the first -/
def uniqFrom : ByteArray → List ByteArray → List ByteArray
  | _, [] => []
  | y, x :: r => if sEq y x = true then uniqFrom x r else x :: uniqFrom x r

def uniqT : List ByteArray → List ByteArray
  | [] => []
  | x :: r => x :: uniqFrom x r

theorem uniqFrom_mem {z : ByteArray} : ∀ {l : List ByteArray} {y : ByteArray}, z ∈ uniqFrom y l → z ∈ l
  | [], _, h => by simp [uniqFrom] at h
  | x :: r, y, h => by
    simp only [uniqFrom] at h
    split at h
    · exact List.mem_cons_of_mem _ (uniqFrom_mem h)
    · rcases List.mem_cons.1 h with rfl | h
      · simp
      · exact List.mem_cons_of_mem _ (uniqFrom_mem h)

theorem uniqFrom_has {z : ByteArray} : ∀ {l : List ByteArray} {y : ByteArray}, z ∈ l → z = y ∨ z ∈ uniqFrom y l
  | [], _, h => by simp at h
  | x :: r, y, h => by
    simp only [uniqFrom]
    rcases List.mem_cons.1 h with rfl | h
    · split
      · rename_i e; exact .inl (sEq_iff.1 e).symm
      · simp
    · rcases uniqFrom_has (y := x) h with rfl | h'
      · split
        · rename_i e; exact .inl (sEq_iff.1 e).symm
        · simp
      · split
        · exact .inr h'
        · exact .inr (List.mem_cons_of_mem _ h')

theorem uniqFrom_asc : ∀ {l : List ByteArray} {y : ByteArray}, (y :: l).Pairwise (fun a b => sLt b a = false) → Asc (y :: uniqFrom y l)
  | [], _, _ => by simp [uniqFrom, Asc]
  | x :: r, y, h => by
    rw [List.pairwise_cons] at h
    have ih := uniqFrom_asc h.2
    simp only [uniqFrom]
    split
    · rename_i e
      have e' := sEq_iff.1 e
      subst e'
      exact ih
    · rename_i e
      have hyx : sLt y x = true := sLt_total (h.1 x (by simp)) (fun h => e (sEq_iff.2 h.symm))
      refine List.pairwise_cons.2 ⟨fun z mz => ?_, ih⟩
      rcases List.mem_cons.1 mz with rfl | mz
      · exact hyx
      · exact sLt_trans hyx ((List.pairwise_cons.1 ih).1 z mz)

theorem uniqT_sorted (l : List ByteArray) : uniqT (sortB l) = sortedT l := by
  have hs := sortB_le l
  refine sortedT_of ?_ fun x => ?_
  · cases h : sortB l with
    | nil => simp [uniqT, Asc]
    | cons y r => rw [h] at hs; exact uniqFrom_asc hs
  · rw [← mem_sortB (l := l)]
    cases h : sortB l with
    | nil => simp [uniqT]
    | cons y r =>
      simp only [uniqT, List.mem_cons]
      constructor
      · rintro (rfl | h)
        · exact .inl rfl
        · exact .inr (uniqFrom_mem h)
      · rintro (rfl | h)
        · exact .inl rfl
        · exact uniqFrom_has h

theorem i_SortedTexts_eq (l : List ByteArray) (h : l.length ≤ 1073741824) : i_SortedTexts l = some (sortedT l) := by
  unfold i_SortedTexts
  rw [chk_pos _ h, x_sortStrings, chk_pos _ (by omega), Option.bind_some]
  have hl := sortB_len l
  rw [← uniqT_sorted]
  generalize sortB l = v at hl
  refine (forL_rec (fun r i (row : List ByteArray) => some (row ++ match i with | 0 => uniqT r | i + 1 => (match v[i]? with | some y => uniqFrom y r | none => []))) (fun r i row => v.drop i = r ∧ row.length ≤ i ∧ i ≤ v.length) ?_ ?_ v 0 [] ⟨by simp, by simp, by simp⟩).trans (by simp)
  · rintro i row ⟨h1, h2, h3⟩
    cases i with
    | zero => simp [uniqT]
    | succ i => cases hv : v[i]? <;> simp [uniqFrom, hv]
  · rintro x r i row ⟨h1, h2, h3⟩
    left
    have hi : v[i]? = some x := by have := congrArg (fun l => l[0]?) h1; simpa using this
    have hlt : i < v.length := (List.getElem?_eq_some_iff.1 hi).1
    have hr : v.drop (i + 1) = r := by have := congrArg List.tail h1; simpa using this
    cases i with
    | zero =>
      refine ⟨row ++ [x], ?_, ⟨hr, by simp at h2 ⊢; simp [h2], by omega⟩, ?_⟩
      · simp only [Int.natCast_zero, beq_self_eq_true, if_true]
        rw [chk_pos _ (by omega)]
      · simp [uniqT, hi]
    | succ i =>
      have hw : IntKind.i64.wrap (((i + 1 : Nat) : Int) - 1) = ((i : Nat) : Int) := by rw [wrap_ok (by omega) (by omega)]; omega
      have hne : ((((i + 1 : Nat) : Int)) == 0) = false := by rw [beq_eq_false_iff_ne]; omega
      obtain ⟨y, hy⟩ : ∃ y, v[i]? = some y := ⟨v[i], by simp⟩
      simp only [hne, Bool.false_eq_true, if_false, hw, Int.toNat_natCast, hy, Option.bind_some]
      cases he : sEq y x with
      | true =>
        refine ⟨row, ?_, ⟨hr, by omega, by omega⟩, ?_⟩
        · rw [chk_pos _ ⟨by omega, by omega⟩]; rfl
        · simp [uniqFrom, he, hi]
      | false =>
        refine ⟨row ++ [x], ?_, ⟨hr, by simp; omega, by omega⟩, ?_⟩
        · rw [chk_pos _ ⟨by omega, by omega⟩]
          simp only [Bool.false_eq_true, if_false]
          rw [chk_pos _ (by omega)]
        · simp [uniqFrom, he, hi]

theorem i_copyTexts_eq (l : List ByteArray) (h : l.length ≤ 1073741824) : i_copyTexts l = some l := by
  unfold i_copyTexts
  rw [chk_pos _ h]

theorem s_l1Texts_eq (l : List ByteArray) (h : l.length ≤ 1073741824) : s_l1Texts l = some l := by
  unfold s_l1Texts
  rw [chk_pos _ h]

/-- putting the texts of a list, one by one -/
theorem forL_put {ρ : Type} {fin : List ByteArray → Option ρ} {body : Nat → ByteArray → List ByteArray → Option (List ByteArray ⊕ ρ)} (hb : ∀ j x s, body j x s = (s_l1Put s x).bind fun v => some (.inl v)) {l acc : List ByteArray} (h : acc.length + l.length ≤ 1073741824) : forL body fin l 0 acc = fin (l.foldl putT acc) := by
  refine forL_fold (f := putT) (fun j s => s.length ≤ acc.length + j) (by omega) fun j x s mx hj hl hI => ?_
  have hp := putT_len x s
  exact ⟨by rw [hb, s_l1Put_eq _ _ (by omega)]; rfl, by omega⟩

end Go.Proofs.YtlkgkkacnoaeaaaGreatDoor

namespace Go.Proofs.YtlkgkkacnoaeaaaGreatDoor
/-- a loop whose state is told by what it has passed -/
theorem forL_walk {α σ ρ : Type} {body : Nat → α → σ → Option (σ ⊕ ρ)} {fin : σ → Option ρ} (st : List α → σ) (l : List α) (h : ∀ p x q, l = p ++ x :: q → body p.length x (st p) = some (.inl (st (p ++ [x])))) : forL body fin l 0 (st []) = fin (st l) := by
  have key : ∀ (q p : List α), l = p ++ q → forL body fin q p.length (st p) = fin (st l) := by
    intro q
    induction q with
    | nil => intro p e; rw [forL_nil, e, List.append_nil]
    | cons x q ih =>
      intro p e
      rw [forL_next (h p x q e)]
      have := ih (p ++ [x]) (by rw [e]; simp)
      simpa using this
  exact key l [] rfl
/-- a valid fact -/
def isFactB (f : FactD) : Bool := isNameB f.rel && decide (f.args.length ≤ 3) && f.args.all isAtomB
theorem s_IsFact_eq (f : FactD) : s_IsFact f = some (isFactB f) := by
  unfold s_IsFact isFactB
  rw [forL_all (p := isAtomB) (r := false)]
  · rw [s_IsName_eq, Option.bind_some]
    cases isNameB f.rel <;> cases h : f.args.all isAtomB <;> simp <;> omega
  · intro i x _
    rw [s_IsAtom_eq, Option.bind_some]
    cases isAtomB x <;> rfl
theorem i_IsFact_eq (f : FactD) : i_IsFact f = some (isFactB f) := by
  unfold i_IsFact isFactB
  rw [i_IsName_eq, Option.bind_some]
  cases isNameB f.rel with
  | false => rfl
  | true =>
    rw [if_pos rfl]
    by_cases h : f.args.length ≤ 3
    · rw [if_neg (by simp; omega), forL_all (p := isAtomB) (r := false)]
      · cases h2 : f.args.all isAtomB <;> simp [h]
      · intro i x _
        rw [i_IsAtom_eq, Option.bind_some]
        cases isAtomB x <;> rfl
    · rw [if_pos (by simp; omega)]
      simp [h]
end Go.Proofs.YtlkgkkacnoaeaaaGreatDoor

namespace Go.Proofs.YtlkgkkacnoaeaaaGreatDoor
/-- comparing is an order in which only equal things are alike -/
structure IsCmp {α : Type} (c : α → α → Int) : Prop where
  eq : ∀ a b, c a b = 0 ↔ a = b
  anti : ∀ a b, c b a = - c a b
  tr : ∀ a b d, c a b < 0 → c b d < 0 → c a d < 0
/-- texts, byte by byte -/
def cmpB (a b : ByteArray) : Int := Lib.compareBytes (toL a) (toL b)
theorem compare_bytes : ∀ (x y : List UInt8), Lib.compareBytes x y = if Op.bytesLess x y = true then -1 else if x = y then 0 else 1
  | [], [] => by simp [Lib.compareBytes, Op.bytesLess]
  | [], _ :: _ => by simp [Lib.compareBytes, Op.bytesLess]
  | _ :: _, [] => by simp [Lib.compareBytes, Op.bytesLess]
  | a :: x, b :: y => by
    have ih := compare_bytes x y
    unfold Lib.compareBytes Op.bytesLess
    by_cases h1 : a < b
    · simp [h1]
    · rw [if_neg h1]
      by_cases h2 : b < a
      · have h3 : ¬ a = b := fun e => by rw [e] at h2; exact absurd h2 (UInt8.lt_irrefl _)
        rw [if_pos h2]
        simp [h1, h3]
      · have h3 : a = b := by
          apply UInt8.toNat_inj.1
          rw [UInt8.lt_iff_toNat_lt] at h1 h2
          omega
        subst h3
        rw [if_neg h2, ih]
        simp [h1]
theorem cmpB_eq (a b : ByteArray) : cmpB a b = if sLt a b = true then -1 else if a = b then 0 else 1 := by
  unfold cmpB
  rw [compare_bytes]
  have h1 : Op.bytesLess (toL a) (toL b) = sLt a b := by unfold sLt toL; rw [ByteArray.toList_eq, ByteArray.toList_eq]
  rw [h1]
  by_cases h : a = b
  · subst h; simp
  · rw [if_neg h, if_neg (fun e => h (toL_inj e))]
theorem cmpB_ok : IsCmp cmpB where
  eq := fun a b => by
    rw [cmpB_eq]
    by_cases h : sLt a b = true
    · simp [h, sLt_ne h]
    · rw [if_neg h]
      by_cases h2 : a = b <;> simp [h2]
  anti := fun a b => by
    rw [cmpB_eq, cmpB_eq]
    by_cases h : sLt a b = true
    · have h2 := sLt_asymm h
      have h3 := sLt_ne h
      rw [if_pos h, if_neg (by simp [h2]), if_neg (fun e => h3 e.symm)]; rfl
    · rw [if_neg h]
      by_cases h2 : a = b
      · subst h2; rw [if_neg h]; simp
      · rw [if_pos (sLt_total (by simpa using h) h2), if_neg h2]
  tr := fun a b d h1 h2 => by
    have key : ∀ x y, cmpB x y < 0 → sLt x y = true := fun x y h => by
      rw [cmpB_eq] at h
      by_cases hx : sLt x y = true
      · exact hx
      · rw [if_neg hx] at h; split at h <;> omega
    rw [cmpB_eq, if_pos (sLt_trans (key _ _ h1) (key _ _ h2))]
    omega
theorem s_l1Cmp_eq (a b : ByteArray) : s_l1Cmp a b = some (cmpB a b) := by
  unfold s_l1Cmp
  rw [cmpB_eq]
  by_cases h : sLt a b = true
  · rw [if_pos h, if_pos h]
  · rw [if_neg h, if_neg h]
    by_cases h2 : a = b
    · subst h2; rw [if_pos (by rw [sEq_self]; simp), if_pos rfl]
    · rw [if_neg (by simp only [Bool.or_eq_true, sEq_iff]; rintro (h3 | h3); exact h h3; exact h2 h3), if_neg h2]
theorem x_Compare_eq (a b : ByteArray) : x_Compare a b = some (cmpB a b) := rfl
/- numbers -/
theorem decDigits_mem {u : Nat} {b : UInt8} (h : b ∈ Lib.decDigits u) : 48 ≤ b.toNat ∧ b.toNat ≤ 57 := by
  rw [Lib.decDigits_eq, List.mem_map] at h
  obtain ⟨t, _, rfl⟩ := h
  unfold Lib.dg
  have : u / 10 ^ (Lib.nDigits u - 1 - t) % 10 < 10 := Nat.mod_lt _ (by omega)
  rw [UInt8.toNat_ofNat']
  omega
/-- the number that a text is, if it is one of at most four digits -/
def numN (s : ByteArray) : Option Nat :=
  if 1 ≤ s.size ∧ s.size ≤ 4 then (match Lib.decNat (toL s) with | some n => if ofL (Lib.decDigits n) = s then some n else none | none => none) else none
def numR (s : ByteArray) : Int × Bool := match numN s with | some n => ((n : Int), true) | none => (0, false)
theorem numN_some {s : ByteArray} {n : Nat} (h : numN s = some n) : s = ofL (Lib.decDigits n) ∧ n ≤ 9999 := by
  unfold numN at h
  split at h
  · rename_i hs
    split at h
    · split at h
      · rename_i m _ he
        obtain rfl := Option.some.inj h
        refine ⟨he.symm, ?_⟩
        have hl : Lib.nDigits m ≤ 4 := by
          have := congrArg ByteArray.size he
          rw [ofL_size, Lib.decDigits_length] at this
          omega
        have := Lib.lt_pow_nDigits m
        have h2 : 10 ^ Lib.nDigits m ≤ 10 ^ 4 := Nat.pow_le_pow_right (by omega) hl
        omega
      · simp at h
    · simp at h
  · simp at h
theorem numN_inj {a b : ByteArray} {n : Nat} (h1 : numN a = some n) (h2 : numN b = some n) : a = b := (numN_some h1).1.trans (numN_some h2).1.symm
/-- the reference's loop over digits -/
theorem dec_loop {body : Nat → UInt8 → Int → Option (Int ⊕ (Int × Bool))} {fin : Int → Option (Int × Bool)}
    (hb : ∀ i (x : UInt8) n, body i x n = if (decide (((x.toNat : Nat) : Int) < 48)) = true then some (.inr (0, false)) else if (decide (57 < ((x.toNat : Nat) : Int))) = true then some (.inr (0, false)) else some (.inl (IntKind.i64.wrap ((IntKind.i64.wrap (10 * n)) + IntKind.i64.wrap (IntKind.u8.wrap (((x.toNat : Nat) : Int) - 48)))))) :
    ∀ (l : List UInt8) (i acc : Nat), (acc + 1) * 10 ^ l.length ≤ 100000 → forL body fin l i (acc : Int) = match Lib.decFrom acc l with | some n => fin (n : Int) | none => some (0, false)
  | [], i, acc, _ => rfl
  | x :: l, i, acc, h => by
    unfold Lib.decFrom Lib.digitVal
    by_cases h1 : 48 ≤ x.toNat ∧ x.toNat ≤ 57
    · have e : body i x (acc : Int) = some (.inl ((acc * 10 + (x.toNat - 48) : Nat) : Int)) := by
        have hp : 1 ≤ 10 ^ (x :: l).length := Nat.one_le_pow _ _ (by omega)
        have h2 : acc + 1 ≤ 100000 := Nat.le_trans (Nat.le_mul_of_pos_right _ hp) h
        rw [hb, if_neg (by simp; omega), if_neg (by simp; omega), wrap_in (n := 10 * (acc : Int)) (by omega) (by omega), IntKind.wrap_u8, wrap_in (n := (((x.toNat : Nat) : Int) - 48) % 256) (by omega) (by omega), wrap_in (by omega) (by omega)]
        congr 2
        omega
      rw [forL_next e, if_pos h1]
      refine dec_loop hb l (i + 1) _ ?_
      rw [List.length_cons, Nat.pow_succ] at h
      refine Nat.le_trans ?_ h
      rw [show (acc + 1) * (10 ^ l.length * 10) = ((acc + 1) * 10) * 10 ^ l.length by rw [Nat.mul_assoc, Nat.mul_comm 10]]
      exact Nat.mul_le_mul_right _ (by omega)
    · have e : body i x (acc : Int) = some (.inr (0, false)) := by
        rw [hb]
        by_cases h2 : x.toNat < 48
        · rw [if_pos (by simp; omega)]
        · rw [if_neg (by simp; omega), if_pos (by simp; omega)]
      rw [forL_stop e, if_neg h1]
theorem s_In_num (n a b : Int) : s_l1In n a b = some (decide (a ≤ n) && decide (n ≤ b)) := by
  unfold s_l1In
  by_cases h : a ≤ n <;> simp [h]
theorem s_ParseInt_eq (s : ByteArray) : s_ParseInt s = some (numR s) := by
  unfold s_ParseInt numR numN
  rw [s_In_num, Option.bind_some]
  by_cases hs : 1 ≤ s.size ∧ s.size ≤ 4
  · rw [if_pos (by simp; omega), if_pos hs]
    have hl : s.data.toList.length = s.size := toL_len s
    refine (dec_loop (fun _ _ _ => rfl) s.data.toList 0 0 (by
      rw [hl, Nat.zero_add, Nat.one_mul]
      exact Nat.le_trans (Nat.pow_le_pow_right (by omega) hs.2) (by omega))).trans ?_
    have hd : Lib.decNat (toL s) = Lib.decFrom 0 s.data.toList := by
      unfold Lib.decNat
      rw [if_neg]
      · rfl
      · intro e
        have := toL_len s
        rw [List.isEmpty_iff.1 e] at this
        simp at this; omega
    rw [hd]
    cases hv : Lib.decFrom 0 s.data.toList with
    | none => rfl
    | some n =>
      have hb : n < 1000000000000000000 := Lib.decFrom_lt18 hv (by omega)
      show (s_FormatInt ((n : Nat) : Int)).bind _ = _
      rw [s_FormatInt_eq ⟨by omega, by omega⟩, Option.bind_some, Lib.itoa_nonneg]
      by_cases he : ofL (Lib.decDigits n) = s
      · rw [if_pos (sEq_iff.2 he)]
        simp only [he, if_true]
      · rw [if_neg (by rw [sEq_iff]; exact he)]
        simp only [he, if_false]
  · rw [if_neg (by simp; omega), if_neg hs]
theorem dec_sign {b : UInt8} {r : List UInt8} (h : b = 45 ∨ b = 43) : Lib.decNat (b :: r) = none := by
  rcases h with rfl | rfl <;> simp [Lib.decNat, Lib.decFrom, Lib.digitVal]
theorem numN_none {s : ByteArray} (h : Lib.decNat (toL s) = none) : numN s = none := by
  unfold numN
  rw [h]
  split <;> rfl
theorem i_ParseInt_eq (s : ByteArray) : i_ParseInt s = some (numR s) := by
  unfold i_ParseInt
  by_cases h1 : s.size < 1
  · rw [if_pos (by simp; omega)]
    unfold numR numN
    rw [if_neg (by omega)]
  by_cases h2 : 4 < s.size
  · rw [if_neg (by simp; omega), if_pos (by simp; omega)]
    unfold numR numN
    rw [if_neg (by omega)]
  rw [if_neg (by simp; omega), if_neg (by simp; omega)]
  have hl := toL_len s
  have hx : x_Atoi s = some (match Lib.atoi (toL s) with | some n => (n, true) | none => (0, false)) := by
    unfold x_Atoi
    exact chk_pos _ (by omega)
  rw [hx, Option.bind_some]
  cases hL : toL s with
  | nil => rw [hL] at hl; simp at hl; omega
  | cons b r =>
    have sgn : b = 45 ∨ b = 43 → numR s = (0, false) := fun h => by
      unfold numR
      rw [numN_none (by rw [hL]; exact dec_sign h)]
    have bad : ∀ m, (b = 45 ∨ b = 43) → ¬ ofL (Lib.decDigits m) = s := fun m h e => by
      have hm : b ∈ Lib.decDigits m := by
        have : toL s = Lib.decDigits m := by rw [← e, toL_ofL]
        rw [← this, hL]; simp
      have := decDigits_mem hm
      rcases h with rfl | rfl <;> simp at this
    by_cases hb1 : b = 45
    · rw [sgn (.inl hb1)]
      cases hd : Lib.decNat r with
      | none => simp [Lib.atoi, hb1, hd]
      | some m =>
        have e : Lib.atoi (b :: r) = some (-(m : Int)) := by simp [Lib.atoi, hb1, hd]
        rw [e]
        simp only [if_true]
        by_cases hm : m = 0
        · subst hm
          rw [if_neg (by simp), if_neg (by simp)]
          show (i_FormatInt ((0 : Nat) : Int)).bind _ = _
          rw [i_FormatInt_eq ⟨by omega, by omega⟩, Option.bind_some, Lib.itoa_nonneg, if_neg (by rw [sEq_iff]; exact bad 0 (.inl hb1))]
        · rw [if_pos (by simp; omega)]
    · by_cases hb2 : b = 43
      · rw [sgn (.inr hb2)]
        cases hd : Lib.decNat r with
        | none => simp [Lib.atoi, hb2, hd]
        | some m =>
          have e : Lib.atoi (b :: r) = some (m : Int) := by simp [Lib.atoi, hb2, hd]
          rw [e]
          simp only [if_true]
          rw [if_neg (by simp)]
          by_cases hm : 9999 < m
          · rw [if_pos (by simp; omega)]
          · rw [if_neg (by simp; omega), i_FormatInt_eq ⟨by omega, by omega⟩, Option.bind_some, Lib.itoa_nonneg, if_neg (by rw [sEq_iff]; exact bad m (.inr hb2))]
      · have e : Lib.atoi (b :: r) = (Lib.decNat (b :: r)).map fun (m : Nat) => (m : Int) := by simp [Lib.atoi, hb1, hb2]
        rw [e]
        cases hd : Lib.decNat (b :: r) with
        | none =>
          unfold numR
          rw [numN_none (by rw [hL]; exact hd)]
          rfl
        | some m =>
          simp only [Option.map_some, if_true]
          rw [if_neg (by simp)]
          have hn : numN s = if ofL (Lib.decDigits m) = s then some m else none := by
            unfold numN
            rw [if_pos (by omega), hL, hd]
          by_cases hm : 9999 < m
          · rw [if_pos (by simp; omega)]
            have : numN s = none := by
              cases hq : numN s with
              | none => rfl
              | some n =>
                have h3 := (numN_some hq).2
                rw [hn] at hq
                split at hq
                · obtain rfl := Option.some.inj hq; omega
                · simp at hq
            unfold numR
            rw [this]
          · rw [if_neg (by simp; omega), i_FormatInt_eq ⟨by omega, by omega⟩, Option.bind_some, Lib.itoa_nonneg]
            unfold numR
            rw [hn]
            by_cases he : ofL (Lib.decDigits m) = s
            · rw [if_pos (sEq_iff.2 he), if_pos he]
            · rw [if_neg (by rw [sEq_iff]; exact he), if_neg he]
/-- numbers -/
def cmpN (x y : Nat) : Int := if x < y then -1 else if y < x then 1 else 0
theorem cmpN_ok : IsCmp cmpN where
  eq := fun a b => by unfold cmpN; split <;> (try split) <;> omega
  anti := fun a b => by unfold cmpN; split <;> (try split) <;> (try split) <;> omega
  tr := fun a b d h1 h2 => by
    unfold cmpN at *
    split at h1
    · split at h2
      · rw [if_pos (by omega)]; omega
      · split at h2 <;> omega
    · split at h1 <;> omega
/-- atoms: numbers ahead of other texts -/
def cmpA (a b : ByteArray) : Int :=
  match numN a, numN b with
  | some x, some y => cmpN x y
  | some _, none => -1
  | none, some _ => 1
  | none, none => cmpB a b
theorem cmpA_ok : IsCmp cmpA where
  eq := fun a b => by
    unfold cmpA
    cases ha : numN a with
    | none =>
      cases hb : numN b with
      | none => exact cmpB_ok.eq a b
      | some y => simp only; exact ⟨fun h => by omega, fun h => by rw [h, hb] at ha; simp at ha⟩
    | some x =>
      cases hb : numN b with
      | none => simp only; exact ⟨fun h => by omega, fun h => by rw [h, hb] at ha; simp at ha⟩
      | some y =>
        simp only
        rw [cmpN_ok.eq]
        exact ⟨fun h => numN_inj ha (h ▸ hb), fun h => by rw [h, hb] at ha; exact (Option.some.inj ha).symm⟩
  anti := fun a b => by
    unfold cmpA
    cases numN a <;> cases numN b <;> simp only
    · exact cmpB_ok.anti a b
    · rfl
    · exact cmpN_ok.anti _ _
  tr := fun a b d h1 h2 => by
    unfold cmpA at *
    cases ha : numN a <;> cases hb : numN b <;> cases hd : numN d <;> simp only [ha, hb, hd] at h1 h2 ⊢ <;> first | omega | exact cmpB_ok.tr a b d h1 h2 | exact cmpN_ok.tr _ _ _ h1 h2
theorem i_compareInts_eq (x y : Nat) : i_compareInts (x : Int) (y : Int) = some (cmpN x y) := by
  unfold i_compareInts cmpN
  by_cases h1 : x < y
  · rw [if_pos (by simpa using h1), if_pos h1]
  · rw [if_neg (by simpa using h1), if_neg h1]
    by_cases h2 : y < x
    · rw [if_pos (by simpa using h2), if_pos h2]
    · rw [if_neg (by simpa using h2), if_neg h2]
theorem s_CompareAtoms_eq (a b : ByteArray) : s_CompareAtoms a b = some (cmpA a b) := by
  unfold s_CompareAtoms cmpA
  rw [s_ParseInt_eq, Option.bind_some, s_ParseInt_eq, Option.bind_some]
  unfold numR
  cases numN a with
  | none =>
    cases numN b with
    | none => simp only [Bool.false_eq_true, if_false]; rw [s_l1Cmp_eq]; rfl
    | some y => rfl
  | some x =>
    cases numN b with
    | none => rfl
    | some y =>
      simp only [if_true]
      unfold cmpN
      by_cases h1 : x < y
      · rw [if_pos (by simpa using h1), if_pos h1]
      · rw [if_neg (by simpa using h1), if_neg h1]
        by_cases h2 : y < x
        · rw [if_pos (by simpa using h2), if_pos h2]
        · rw [if_neg (by simpa using h2), if_neg h2]
theorem i_CompareAtoms_eq (a b : ByteArray) : i_CompareAtoms a b = some (cmpA a b) := by
  unfold i_CompareAtoms cmpA
  rw [i_ParseInt_eq, Option.bind_some, i_ParseInt_eq, Option.bind_some]
  unfold numR
  cases numN a with
  | none =>
    cases numN b with
    | none => simp only [Bool.false_eq_true, if_false]; rw [x_Compare_eq]; rfl
    | some y => rfl
  | some x =>
    cases numN b with
    | none => rfl
    | some y => simp only [if_true]; rw [i_compareInts_eq]; rfl
/-- lists, the first difference decides -/
def cmpL {α : Type} (c : α → α → Int) : List α → List α → Int
  | [], [] => 0
  | [], _ :: _ => -1
  | _ :: _, [] => 1
  | x :: l, y :: r => if c x y = 0 then cmpL c l r else c x y
theorem cmpL_ok {α : Type} {c : α → α → Int} (h : IsCmp c) : IsCmp (cmpL c) where
  eq := fun a => by
    induction a with
    | nil => intro b; cases b <;> simp [cmpL]
    | cons x l ih =>
      intro b
      cases b with
      | nil => simp [cmpL]
      | cons y r =>
        simp only [cmpL]
        by_cases hx : c x y = 0
        · rw [if_pos hx, ih, (h.eq x y).1 hx]; simp
        · rw [if_neg hx]
          exact ⟨fun e => absurd e hx, fun e => absurd ((h.eq x y).2 (by simp at e; exact e.1)) hx⟩
  anti := fun a => by
    induction a with
    | nil => intro b; cases b <;> simp [cmpL]
    | cons x l ih =>
      intro b
      cases b with
      | nil => simp [cmpL]
      | cons y r =>
        simp only [cmpL]
        have hy := h.anti x y
        by_cases hx : c x y = 0
        · rw [if_pos hx, if_pos (by omega), ih]
        · rw [if_neg hx, if_neg (by omega), hy]
  tr := fun a => by
    induction a with
    | nil =>
      intro b d h1 h2
      cases b with
      | nil => simp [cmpL] at h1
      | cons y r => cases d with
        | nil => simp [cmpL] at h2
        | cons z q => simp [cmpL]
    | cons x l ih =>
      intro b d h1 h2
      cases b with
      | nil => simp [cmpL] at h1
      | cons y r => cases d with
        | nil => simp [cmpL] at h2
        | cons z q =>
          simp only [cmpL] at h1 h2 ⊢
          by_cases hx : c x y = 0
          · rw [if_pos hx] at h1
            obtain rfl := (h.eq x y).1 hx
            by_cases hz : c x z = 0
            · rw [if_pos hz] at h2 ⊢; exact ih r q h1 h2
            · rw [if_neg hz] at h2 ⊢; exact h2
          · rw [if_neg hx] at h1
            by_cases hz : c y z = 0
            · obtain rfl := (h.eq y z).1 hz
              rw [if_neg hx]; exact h1
            · rw [if_neg hz] at h2
              have := h.tr x y z h1 h2
              rw [if_neg (by omega)]; exact this
/-- facts -/
def cmpF (a b : FactD) : Int := if cmpB a.rel b.rel = 0 then cmpL cmpA a.args b.args else cmpB a.rel b.rel
theorem fact_ext {a b : FactD} (h1 : a.rel = b.rel) (h2 : a.args = b.args) : a = b := by cases a; cases b; simp_all
theorem cmpF_ok : IsCmp cmpF where
  eq := fun a b => by
    unfold cmpF
    by_cases h : cmpB a.rel b.rel = 0
    · rw [if_pos h, (cmpL_ok cmpA_ok).eq]
      exact ⟨fun e => fact_ext ((cmpB_ok.eq _ _).1 h) e, fun e => by rw [e]⟩
    · rw [if_neg h]
      exact ⟨fun e => absurd e h, fun e => absurd ((cmpB_ok.eq _ _).2 (by rw [e])) h⟩
  anti := fun a b => by
    unfold cmpF
    have hy := cmpB_ok.anti a.rel b.rel
    by_cases h : cmpB a.rel b.rel = 0
    · rw [if_pos h, if_pos (by omega), (cmpL_ok cmpA_ok).anti]
    · rw [if_neg h, if_neg (by omega), hy]
  tr := fun a b d h1 h2 => by
    unfold cmpF at *
    by_cases hx : cmpB a.rel b.rel = 0
    · rw [if_pos hx] at h1
      have e := (cmpB_ok.eq _ _).1 hx
      rw [e]
      by_cases hz : cmpB b.rel d.rel = 0
      · rw [if_pos hz] at h2 ⊢; exact (cmpL_ok cmpA_ok).tr _ _ _ h1 h2
      · rw [if_neg hz] at h2 ⊢; exact h2
    · rw [if_neg hx] at h1
      by_cases hz : cmpB b.rel d.rel = 0
      · rw [← (cmpB_ok.eq _ _).1 hz, if_neg hx]; exact h1
      · rw [if_neg hz] at h2
        have := cmpB_ok.tr _ _ _ h1 h2
        rw [if_neg (by omega)]; exact this
theorem atI_nat {α : Type} (l : List α) (i : Nat) : atI l (i : Int) = l[i]? := by unfold atI; rw [if_pos (by omega), Int.toNat_natCast]
/-- the walk over the arguments -/
theorem args_loop {A B : List ByteArray} {body : Nat → ByteArray → Unit → Option (Unit ⊕ Int)} {fin : Unit → Option Int}
    (hlt : ∀ i x y, B[i]? = some y → body i x () = if cmpA x y = 0 then some (.inl ()) else some (.inr (cmpA x y))) (hge : ∀ x, B.length < A.length → body B.length x () = some (.inr 1)) (hfin : A.length ≤ B.length → fin () = some (if A.length < B.length then -1 else 0)) :
    ∀ (l : List ByteArray) (i : Nat), i + l.length = A.length → i ≤ B.length → forL body fin l i () = some (cmpL cmpA l (B.drop i))
  | [], i, h, hi => by
    simp at h
    rw [forL_nil, hfin (by omega)]
    by_cases hb : A.length < B.length
    · rw [if_pos hb]
      cases hd : B.drop i with
      | nil => have := congrArg List.length hd; simp at this; omega
      | cons y r => rfl
    · rw [if_neg hb, List.drop_eq_nil_of_le (by omega)]
      rfl
  | x :: l, i, h, hi => by
    simp only [List.length_cons] at h
    by_cases hb : i < B.length
    · have hy : B[i]? = some B[i] := List.getElem?_eq_getElem hb
      rw [List.drop_eq_getElem_cons hb]
      simp only [cmpL]
      by_cases hc : cmpA x B[i] = 0
      · rw [forL_next (by rw [hlt i x _ hy, if_pos hc]), if_pos hc]
        exact args_loop hlt hge hfin l (i + 1) (by omega) (by omega)
      · rw [forL_stop (by rw [hlt i x _ hy, if_neg hc]), if_neg hc]
    · obtain rfl : i = B.length := by omega
      rw [forL_stop (hge x (by omega)), List.drop_eq_nil_of_le (Nat.le_refl _)]
      rfl
theorem s_CompareFacts_eq (a b : FactD) : s_CompareFacts a b = some (cmpF a b) := by
  unfold s_CompareFacts cmpF
  by_cases h : a.rel = b.rel
  · rw [if_pos (sEq_iff.2 h), if_pos ((cmpB_ok.eq _ _).2 h)]
    refine args_loop (A := a.args) (B := b.args) (fun i x y hy => ?_) (fun x hx => ?_) (fun hx => ?_) a.args 0 (by simp) (Nat.zero_le _)
    · have hi := (List.getElem?_eq_some_iff.1 hy).1
      rw [if_pos (by simpa using hi), atI_nat, hy, Option.bind_some, s_CompareAtoms_eq, Option.bind_some]
      by_cases hc : cmpA x y = 0
      · rw [hc]; rfl
      · rw [if_pos (by simpa using hc), if_neg hc]
    · rw [if_neg (by simp), if_neg (by simp; omega), if_pos (by simpa using hx)]
    · by_cases h2 : a.args.length < b.args.length
      · rw [if_pos (by simpa using h2), if_pos h2]
      · rw [if_neg (by simpa using h2), if_neg (by simp; omega), if_neg h2]
  · rw [if_neg (by rw [sEq_iff]; exact h), if_neg (fun e => h ((cmpB_ok.eq _ _).1 e)), s_l1Cmp_eq]
    rfl
theorem i_CompareFacts_eq (a b : FactD) : i_CompareFacts a b = some (cmpF a b) := by
  unfold i_CompareFacts cmpF
  rw [x_Compare_eq, Option.bind_some]
  by_cases h : cmpB a.rel b.rel = 0
  · rw [if_neg (by simpa using h), if_pos h]
    refine args_loop (A := a.args) (B := b.args) (fun i x y hy => ?_) (fun x hx => ?_) (fun hx => ?_) a.args 0 (by simp) (Nat.zero_le _)
    · have hi := (List.getElem?_eq_some_iff.1 hy).1
      rw [if_pos (by simpa using hi), atI_nat, hy, Option.bind_some, i_CompareAtoms_eq, Option.bind_some]
      by_cases hc : cmpA x y = 0
      · rw [hc]; rfl
      · rw [if_pos (by simpa using hc), if_neg hc]
    · rw [if_neg (by simp), i_compareInts_eq]
      unfold cmpN
      rw [if_neg (by omega), if_pos hx]
      rfl
    · rw [i_compareInts_eq]
      unfold cmpN
      by_cases h2 : a.args.length < b.args.length
      · rw [if_pos h2, if_pos h2]; rfl
      · rw [if_neg h2, if_neg (by omega), if_neg h2]; rfl
  · rw [if_pos (by simpa using h), if_neg h]
end Go.Proofs.YtlkgkkacnoaeaaaGreatDoor

namespace Go.Proofs.YtlkgkkacnoaeaaaGreatDoor
theorem s_l2Copy_eq (f : FactD) (h : f.args.length ≤ 1048576) : s_l2Copy f = some f := by
  unfold s_l2Copy
  rw [s_l1Texts_eq _ (by omega)]
  rfl
theorem i_copyFact_eq (f : FactD) (h : f.args.length ≤ 1048576) : i_copyFact f = some f := by
  unfold i_copyFact
  rw [i_copyTexts_eq _ (by omega)]
  rfl
theorem texts_loop {B : List ByteArray} {body : Nat → ByteArray → Unit → Option (Unit ⊕ Bool)} (hb : ∀ i x y, B[i]? = some y → body i x () = if x = y then some (.inl ()) else some (.inr false)) :
    ∀ (l : List ByteArray) (i : Nat), i + l.length = B.length → forL body (fun _ => some true) l i () = some (decide (l = B.drop i))
  | [], i, h => by
    simp at h
    rw [forL_nil, List.drop_eq_nil_of_le (by omega)]
    simp
  | x :: l, i, h => by
    simp only [List.length_cons] at h
    have hi : i < B.length := by omega
    have hd : (x :: l = B.drop i) ↔ (x = B[i] ∧ l = B.drop (i + 1)) := by rw [List.drop_eq_getElem_cons hi, List.cons.injEq]
    rw [Bool.eq_iff_iff.2 (show decide (x :: l = B.drop i) = true ↔ decide (x = B[i] ∧ l = B.drop (i + 1)) = true by rw [decide_eq_true_iff, decide_eq_true_iff]; exact hd)]
    by_cases hx : x = B[i]
    · rw [forL_next (by rw [hb i x _ (List.getElem?_eq_getElem hi), if_pos hx]), texts_loop hb l (i + 1) (by omega)]
      simp [hx]
    · rw [forL_stop (by rw [hb i x _ (List.getElem?_eq_getElem hi), if_neg hx])]
      simp [hx]
theorem i_sameTexts_eq (a b : List ByteArray) : i_sameTexts a b = some (decide (a = b)) := by
  unfold i_sameTexts
  by_cases h : a.length = b.length
  · rw [if_neg (by simp; omega)]
    have := texts_loop (B := b) (body := fun i6 x7 _ => (atI b ((i6 : Nat) : Int)).bind fun x8 => if (sEq x7 x8) = true then some (.inl ()) else some (.inr false)) (fun i x y hy => by
      show (atI b ((i : Nat) : Int)).bind _ = _
      rw [atI_nat, hy, Option.bind_some]
      by_cases hx : x = y
      · rw [if_pos (sEq_iff.2 hx), if_pos hx]
      · rw [if_neg (by rw [sEq_iff]; exact hx), if_neg hx]) a 0 (by omega)
    simpa using this
  · rw [if_pos (by simp; omega), decide_eq_false (fun e => h (by rw [e]))]
open Classical
theorem i_sameFact_eq (a b : FactD) : i_sameFact a b = some (decide (a = b)) := by
  unfold i_sameFact
  by_cases h : a.rel = b.rel
  · rw [if_pos (sEq_iff.2 h), i_sameTexts_eq, Option.bind_some]
    congr 1
    rw [Bool.eq_iff_iff, decide_eq_true_iff, decide_eq_true_iff]
    exact ⟨fun e => fact_ext h e, fun e => by rw [e]⟩
  · rw [if_neg (by rw [sEq_iff]; exact h), decide_eq_false (fun e => h (by rw [e]))]
theorem i_FindFact_eq (l : List FactD) (f : FactD) : ∃ z, i_FindFact l f = some z ∧ (z < 0 ↔ f ∉ l) := by
  unfold i_FindFact
  have key : ∀ (l : List FactD) (i : Nat), ∃ z, forL (σ := Unit) (fun (i6 : Nat) (x7 : FactD) _ => (i_sameFact x7 f).bind fun v8 => if v8 = true then some (.inr ((i6 : Nat) : Int)) else some (.inl ())) (fun _ => some (-1)) l i () = some z ∧ (z < 0 ↔ f ∉ l) := by
    intro l
    induction l with
    | nil => intro i; exact ⟨-1, rfl, by simp⟩
    | cons x l ih =>
      intro i
      by_cases hx : x = f
      · refine ⟨(i : Int), forL_stop (by rw [i_sameFact_eq, Option.bind_some, if_pos (decide_eq_true hx)]), by simp [hx]⟩
      · obtain ⟨z, e, hz⟩ := ih (i + 1)
        refine ⟨z, (forL_next (by rw [i_sameFact_eq, Option.bind_some, if_neg (by simpa using hx)])).trans e, ?_⟩
        rw [hz, List.mem_cons]
        exact ⟨fun h => by rintro (h1 | h1); exact hx h1.symm; exact h h1, fun h h1 => h (.inr h1)⟩
  exact key l 0
/-- into ascending facts, unless it is there -/
def insF : List FactD → FactD → List FactD
  | [], f => [f]
  | x :: l, f => if cmpF x f < 0 then x :: insF l f else if cmpF x f = 0 then x :: l else f :: x :: l
def AscF (l : List FactD) : Prop := l.Pairwise fun x y => cmpF x y < 0
theorem mem_insF {y f : FactD} : ∀ {l : List FactD}, y ∈ insF l f ↔ y = f ∨ y ∈ l
  | [] => by simp [insF]
  | x :: l => by
    simp only [insF]
    split
    · rw [List.mem_cons, mem_insF, List.mem_cons]
      exact ⟨fun h => by rcases h with h | h | h <;> simp [h], fun h => by rcases h with h | h | h <;> simp [h]⟩
    · split
      · rename_i h
        have e := (cmpF_ok.eq _ _).1 h
        rw [List.mem_cons, e]
        exact ⟨fun h => by rcases h with h | h <;> simp [h], fun h => by rcases h with h | h | h <;> simp [h]⟩
      · rw [List.mem_cons]
theorem insF_len (f : FactD) : ∀ l : List FactD, (insF l f).length ≤ l.length + 1
  | [] => by simp [insF]
  | x :: l => by
    have := insF_len f l
    simp only [insF]
    split
    · simp; omega
    · split <;> simp
theorem asc_insF {f : FactD} : ∀ {l : List FactD}, AscF l → AscF (insF l f)
  | [], _ => by simp [insF, AscF]
  | x :: l, h => by
    unfold AscF at *
    rw [List.pairwise_cons] at h
    simp only [insF]
    split
    · rename_i hx
      rw [List.pairwise_cons]
      refine ⟨fun y my => ?_, asc_insF h.2⟩
      rcases mem_insF.1 my with rfl | my
      · exact hx
      · exact h.1 y my
    · rename_i hx
      split
      · rw [List.pairwise_cons]; exact h
      · rename_i h0
        have hfx : cmpF f x < 0 := by rw [cmpF_ok.anti x f]; omega
        rw [List.pairwise_cons, List.pairwise_cons]
        refine ⟨fun y my => ?_, h⟩
        rcases List.mem_cons.1 my with rfl | my
        · exact hfx
        · exact cmpF_ok.tr _ _ _ hfx (h.1 y my)
theorem s_l2Put_eq (l : List FactD) (f : FactD) (hl : l.length ≤ 1048576) (ha : ∀ x ∈ l, x.args.length ≤ 1048576) (hf : f.args.length ≤ 1048576) : s_l2Put l f = some (insF l f) := by
  unfold s_l2Put
  rw [forL_rec (fun l _ s => some (s.1 ++ (if s.2 = true then l else insF l f))) (fun l _ s => s.1.length + 2 * l.length + 1 ≤ 4000000 ∧ ∀ x ∈ l, x.args.length ≤ 1048576) ?_ ?_ l 0 ([], false) ⟨by simp; omega, ha⟩]
  · simp
  · rintro i ⟨row, done⟩ ⟨h1, _⟩
    cases done with
    | true => simp
    | false =>
      simp only [Bool.false_eq_true, if_false]
      simp only [List.length_nil] at h1
      rw [s_l2Copy_eq f hf, Option.bind_some, chk_pos _ (by omega)]
      rfl
  · rintro x l i ⟨row, done⟩ ⟨h1, h2⟩
    simp only [List.length_cons] at h1
    have hx := h2 x (by simp)
    left
    cases done with
    | true =>
      simp only [if_true]
      rw [s_l2Copy_eq x hx, Option.bind_some, chk_pos _ (by omega)]
      exact ⟨_, rfl, ⟨by simp; omega, fun y my => h2 y (by simp [my])⟩, by simp⟩
    | false =>
      simp only [Bool.false_eq_true, if_false]
      rw [s_CompareFacts_eq, Option.bind_some]
      by_cases hlt : cmpF x f < 0
      · rw [if_neg (by simp; omega), s_l2Copy_eq x hx, Option.bind_some, chk_pos _ (by omega)]
        exact ⟨_, rfl, ⟨by simp; omega, fun y my => h2 y (by simp [my])⟩, by simp [insF, hlt]⟩
      · rw [if_pos (by simp; omega), Option.bind_some]
        by_cases h0 : cmpF x f = 0
        · rw [if_neg (by simp; omega), s_l2Copy_eq x hx, Option.bind_some, chk_pos _ (by omega)]
          exact ⟨_, rfl, ⟨by simp; omega, fun y my => h2 y (by simp [my])⟩, by simp [insF, h0]⟩
        · rw [if_pos (by simp; omega), s_l2Copy_eq f hf, Option.bind_some, chk_pos _ (by omega), s_l2Copy_eq x hx, Option.bind_some, chk_pos _ (by omega)]
          exact ⟨_, rfl, ⟨by simp; omega, fun y my => h2 y (by simp [my])⟩, by simp [insF, h0, hlt]⟩
theorem i_putFact_eq (l : List FactD) (f : FactD) (hn : f ∉ l) (hl : l.length ≤ 1048576) (ha : ∀ x ∈ l, x.args.length ≤ 1048576) (hf : f.args.length ≤ 1048576) : i_putFact l f = some (insF l f) := by
  unfold i_putFact
  rw [forL_rec (fun l _ s => some (s.1 ++ (if s.2 = true then l else insF l f))) (fun l _ s => s.1.length + 2 * l.length + 1 ≤ 4000000 ∧ f ∉ l ∧ ∀ x ∈ l, x.args.length ≤ 1048576) ?_ ?_ l 0 ([], false) ⟨by simp; omega, hn, ha⟩]
  · simp
  · rintro i ⟨row, done⟩ ⟨h1, _⟩
    cases done with
    | true => simp
    | false =>
      simp only [Bool.false_eq_true, if_false]
      simp only [List.length_nil] at h1
      rw [i_copyFact_eq f hf, Option.bind_some, chk_pos _ (by omega)]
      rfl
  · rintro x l i ⟨row, done⟩ ⟨h1, h3, h2⟩
    simp only [List.length_cons] at h1
    have hx := h2 x (by simp)
    have h3' : f ∉ l := fun m => h3 (by simp [m])
    left
    cases done with
    | true =>
      simp only [if_true]
      rw [i_copyFact_eq x hx, Option.bind_some, chk_pos _ (by omega)]
      exact ⟨_, rfl, ⟨by simp; omega, h3', fun y my => h2 y (by simp [my])⟩, by simp⟩
    | false =>
      simp only [Bool.false_eq_true, if_false]
      rw [i_CompareFacts_eq, Option.bind_some]
      have h0 : ¬ cmpF x f = 0 := fun e => h3 (by rw [(cmpF_ok.eq _ _).1 e]; simp)
      by_cases hlt : cmpF x f < 0
      · rw [if_neg (by simp; omega), i_copyFact_eq x hx, Option.bind_some, chk_pos _ (by omega)]
        exact ⟨_, rfl, ⟨by simp; omega, h3', fun y my => h2 y (by simp [my])⟩, by simp [insF, hlt]⟩
      · rw [if_pos (by simp; omega), i_copyFact_eq f hf, Option.bind_some, chk_pos _ (by omega), i_copyFact_eq x hx, Option.bind_some, chk_pos _ (by omega)]
        exact ⟨_, rfl, ⟨by simp; omega, h3', fun y my => h2 y (by simp [my])⟩, by simp [insF, h0, hlt]⟩
end Go.Proofs.YtlkgkkacnoaeaaaGreatDoor

namespace Go.Proofs.YtlkgkkacnoaeaaaGreatDoor

def isPatternB (p : PatternD) : Bool := isNameB p.rel && decide (p.args.length ≤ 3) && p.args.all isTermB

theorem s_IsPattern_eq (p : PatternD) : s_IsPattern p = some (isPatternB p) := by
  unfold s_IsPattern isPatternB
  rw [forL_all (p := isTermB) (r := false)]
  · simp only [s_IsName_eq, Option.bind_some]
    have : decide (((p.args.length : Nat) : Int) ≤ 3) = decide (p.args.length ≤ 3) := by rw [Bool.eq_iff_iff]; simp only [decide_eq_true_eq]; omega
    rw [this]
    cases p.args.all isTermB <;> cases isNameB p.rel <;> simp
  · intro i x _
    rw [s_IsTerm_eq]
    cases isTermB x <;> simp

theorem i_IsPattern_eq (p : PatternD) : i_IsPattern p = some (isPatternB p) := by
  unfold i_IsPattern isPatternB
  rw [i_IsName_eq, forL_all (p := isTermB) (r := false)]
  · by_cases h : p.args.length ≤ 3
    · have h' : ¬ (3 : Int) < ((p.args.length : Nat) : Int) := by omega
      cases p.args.all isTermB <;> cases isNameB p.rel <;> simp [h, h']
    · have h' : (3 : Int) < ((p.args.length : Nat) : Int) := by omega
      cases isNameB p.rel <;> simp [h, h']
  · intro i x _
    rw [i_IsTerm_eq]
    cases isTermB x <;> simp

def zeroPatternB (p : PatternD) : Bool := sEq p.rel ⟨#[]⟩ && decide (p.args.length = 0)

theorem len0 {α : Type} (l : List α) : ((((l.length : Nat) : Int)) == 0) = decide (l.length = 0) := by
  rw [Bool.eq_iff_iff, beq_iff_eq, decide_eq_true_eq]; omega

theorem i_zeroPattern_eq (p : PatternD) : i_zeroPattern p = some (zeroPatternB p) := by
  unfold i_zeroPattern zeroPatternB
  rw [len0]
  cases sEq p.rel ⟨#[]⟩ <;> simp

def isCondB (x : CondD) : Bool :=
  if x.kind = 1 ∨ x.kind = 2 then isPatternB x.pattern && sEq x.left ⟨#[]⟩ && sEq x.right ⟨#[]⟩
  else if x.kind = 3 ∨ x.kind = 4 ∨ x.kind = 5 then zeroPatternB x.pattern && isTermB x.left && isTermB x.right
  else false

theorem s_IsCond_eq (x : CondD) : s_IsCond x = some (isCondB x) := by
  unfold s_IsCond isCondB
  simp only [s_IsPattern_eq, s_IsTerm_eq, Option.bind_some, zeroPatternB, len0, beq_iff_eq]
  by_cases h1 : x.kind = 1
  · simp only [h1, if_true, true_or]; cases isPatternB x.pattern <;> cases sEq x.left ⟨#[]⟩ <;> simp
  by_cases h2 : x.kind = 2
  · simp only [h2, if_true, or_true]; cases isPatternB x.pattern <;> cases sEq x.left ⟨#[]⟩ <;> simp
  simp only [h1, h2, if_false, or_self]
  by_cases h3 : x.kind = 3
  · simp only [h3, if_true, true_or]; cases sEq x.pattern.rel ⟨#[]⟩ <;> cases decide (x.pattern.args.length = 0) <;> cases isTermB x.left <;> simp
  by_cases h4 : x.kind = 4
  · simp only [h4, if_true, true_or, or_true]; cases sEq x.pattern.rel ⟨#[]⟩ <;> cases decide (x.pattern.args.length = 0) <;> cases isTermB x.left <;> simp
  by_cases h5 : x.kind = 5
  · simp only [h5, if_true, or_true]; cases sEq x.pattern.rel ⟨#[]⟩ <;> cases decide (x.pattern.args.length = 0) <;> cases isTermB x.left <;> simp
  simp [h3, h4, h5]

theorem i_IsCond_eq (x : CondD) : i_IsCond x = some (isCondB x) := by
  unfold i_IsCond isCondB
  simp only [i_IsPattern_eq, i_IsTerm_eq, i_zeroPattern_eq, Option.bind_some, beq_iff_eq]
  by_cases h1 : x.kind = 1
  · simp only [h1, if_true, true_or]; cases isPatternB x.pattern <;> cases sEq x.left ⟨#[]⟩ <;> simp
  by_cases h2 : x.kind = 2
  · simp only [h2, if_true, or_true]; cases isPatternB x.pattern <;> cases sEq x.left ⟨#[]⟩ <;> simp
  simp only [h1, h2, if_false, or_self]
  by_cases h3 : x.kind = 3
  · simp only [h3, if_true, true_or]; cases zeroPatternB x.pattern <;> cases isTermB x.left <;> cases isTermB x.right <;> simp
  by_cases h4 : x.kind = 4
  · simp only [h4, if_true, true_or, or_true]; cases zeroPatternB x.pattern <;> cases isTermB x.left <;> cases isTermB x.right <;> simp
  by_cases h5 : x.kind = 5
  · simp only [h5, if_true, or_true]; cases zeroPatternB x.pattern <;> cases isTermB x.left <;> cases isTermB x.right <;> simp
  simp [h3, h4, h5]

theorem isCondB_kind {x : CondD} (h : isCondB x = true) : x.kind = 1 ∨ x.kind = 2 ∨ x.kind = 3 ∨ x.kind = 4 ∨ x.kind = 5 := by
  unfold isCondB at h
  split at h
  · rename_i h1; omega
  · split at h
    · rename_i h1; omega
    · simp at h

theorem s_IsTest_eq (x : CondD) : s_IsTest x = some (isCondB x && decide (3 ≤ x.kind)) := by
  unfold s_IsTest
  rw [s_IsCond_eq]
  cases isCondB x <;> simp

def isActionB (a : ActionD) : Bool :=
  if a.kind = 1 ∨ a.kind = 2 then isPatternB a.pattern else if a.kind = 3 then zeroPatternB a.pattern else false

theorem s_IsAction_eq (a : ActionD) : s_IsAction a = some (isActionB a) := by
  unfold s_IsAction isActionB
  simp only [s_IsPattern_eq, Option.bind_some, zeroPatternB, len0, beq_iff_eq]
  by_cases h1 : a.kind = 1
  · simp [h1]
  by_cases h2 : a.kind = 2
  · simp [h2]
  by_cases h3 : a.kind = 3
  · simp only [h3, if_true]; cases sEq a.pattern.rel ⟨#[]⟩ <;> simp
  simp [h1, h2, h3]

theorem i_IsAction_eq (a : ActionD) : i_IsAction a = some (isActionB a) := by
  unfold i_IsAction isActionB
  simp only [i_IsPattern_eq, i_zeroPattern_eq, Option.bind_some, beq_iff_eq]
  by_cases h1 : a.kind = 1
  · simp [h1]
  by_cases h2 : a.kind = 2
  · simp [h2]
  by_cases h3 : a.kind = 3
  · simp [h3]
  simp [h1, h2, h3]

def varsA (l : List ByteArray) : List ByteArray := l.filter isVarB

theorem varsA_len (l : List ByteArray) : (varsA l).length ≤ l.length := List.length_filter_le _ _

theorem mem_varsA {x : ByteArray} {l : List ByteArray} : x ∈ varsA l ↔ x ∈ l ∧ isVarB x = true := by simp [varsA]

theorem i_varsAmong_eq (l : List ByteArray) (h : l.length ≤ 1073741824) : i_varsAmong l = some (varsA l) := by
  unfold i_varsAmong
  rw [forL_filter (p := isVarB)]
  · simp [varsA]
  · intro j x s _ hs
    rw [i_IsVar_eq, Option.bind_some]
    split
    · rw [chk_pos _ (by simp at hs; omega)]
    · rfl

theorem fold_filter {p : ByteArray → Bool} : ∀ (l acc : List ByteArray), l.foldl (fun s x => if p x = true then putT s x else s) acc = (l.filter p).foldl putT acc
  | [], _ => rfl
  | x :: l, acc => by
    rw [List.foldl_cons, fold_filter l]
    by_cases h : p x = true <;> simp [h]

theorem s_VarsOf_eq (p : PatternD) (h : p.args.length ≤ 1073741823) : s_VarsOf p = some (sortedT (varsA p.args)) := by
  unfold s_VarsOf
  rw [forL_fold (f := fun s x => if isVarB x = true then putT s x else s) (fun j s => s.length ≤ j) (by simp)]
  · rw [fold_filter]; rfl
  · intro j x s _ _ hl hI
    simp at hl
    have := putT_len x s
    rw [s_IsVar_eq, Option.bind_some]
    split
    · rw [s_l1Put_eq _ _ (by omega)]
      exact ⟨rfl, by omega⟩
    · exact ⟨rfl, by omega⟩

def termsD (x : CondD) : List ByteArray := x.pattern.args ++ [x.left, x.right]

def condV (x : CondD) : List ByteArray := sortedT (varsA (termsD x))

theorem i_CondVars_eq (x : CondD) (h : x.pattern.args.length ≤ 1073741822) : i_CondVars x = some (condV x) := by
  unfold i_CondVars i_termsOf
  rw [i_copyTexts_eq _ (by omega), Option.bind_some, chk_pos _ (by omega), Option.bind_some, i_varsAmong_eq _ (by simp; omega), Option.bind_some]
  have := varsA_len (x.pattern.args ++ [x.left, x.right])
  simp at this
  rw [i_SortedTexts_eq _ (by omega)]
  rfl

theorem s_CondVars_eq (x : CondD) (h : x.pattern.args.length ≤ 1073741820) : s_CondVars x = some (condV x) := by
  unfold s_CondVars
  have h1 := sortedT_len (varsA x.pattern.args)
  have h2 := varsA_len x.pattern.args
  have h3 := putT_len x.left (sortedT (varsA x.pattern.args))
  have key : ∀ l : List ByteArray, (∀ y, y ∈ l ↔ y ∈ varsA (termsD x)) → Asc l → l = condV x := fun l hm ha => sortedT_of ha hm
  rw [s_VarsOf_eq _ (by omega), Option.bind_some, s_IsVar_eq, Option.bind_some, s_IsVar_eq]
  simp only [Option.bind_some]
  rw [s_l1Put_eq _ _ (by omega), Option.bind_some, s_l1Put_eq (putT _ _) _ (by omega), Option.bind_some, s_l1Put_eq _ x.right (by omega), Option.bind_some]
  cases hl : isVarB x.left <;> cases hr : isVarB x.right <;> simp only [if_true, Bool.false_eq_true, if_false] <;> congr 1 <;> apply key <;> (try intro y) <;> (try simp only [mem_putT, mem_sortedT, mem_varsA, termsD, List.mem_append, List.mem_cons, List.not_mem_nil, or_false])
  all_goals first
    | exact asc_sortedT _
    | exact asc_putT (asc_sortedT _)
    | exact asc_putT (asc_putT (asc_sortedT _))
    | skip
  · constructor
    · rintro ⟨a, b⟩; exact ⟨.inl a, b⟩
    · rintro ⟨a | rfl | rfl, b⟩
      · exact ⟨a, b⟩
      · rw [hl] at b; simp at b
      · rw [hr] at b; simp at b
  · constructor
    · rintro (rfl | ⟨a, b⟩)
      · exact ⟨by simp, hr⟩
      · exact ⟨.inl a, b⟩
    · rintro ⟨a | rfl | rfl, b⟩
      · exact .inr ⟨a, b⟩
      · rw [hl] at b; simp at b
      · exact .inl rfl
  · constructor
    · rintro (rfl | ⟨a, b⟩)
      · exact ⟨by simp, hl⟩
      · exact ⟨.inl a, b⟩
    · rintro ⟨a | rfl | rfl, b⟩
      · exact .inr ⟨a, b⟩
      · exact .inl rfl
      · rw [hr] at b; simp at b
  · constructor
    · rintro (rfl | rfl | ⟨a, b⟩)
      · exact ⟨by simp, hr⟩
      · exact ⟨by simp, hl⟩
      · exact ⟨.inl a, b⟩
    · rintro ⟨a | rfl | rfl, b⟩
      · exact .inr (.inr ⟨a, b⟩)
      · exact .inr (.inl rfl)
      · exact .inl rfl

theorem condV_len (x : CondD) : (condV x).length ≤ x.pattern.args.length + 2 := by
  have h1 := sortedT_len (varsA (termsD x))
  have h2 := varsA_len (termsD x)
  have h3 : (termsD x).length = x.pattern.args.length + 2 := by simp [termsD]
  unfold condV
  omega

theorem condV_var {x : CondD} {v : ByteArray} (h : v ∈ condV x) : isVarB v = true := (mem_varsA.1 (mem_sortedT.1 h)).2

/-- rules that are not too large to be looked at -/
structure SmallR (r : RuleD) : Prop where
  cl : r.cond.length ≤ 1048576
  tl : r.thn.length ≤ 1048576
  ca : ∀ x ∈ r.cond, x.pattern.args.length ≤ 1048576
  ta : ∀ a ∈ r.thn, a.pattern.args.length ≤ 1048576

/-- the variables of the presences among conditions -/
def hasVars (l : List CondD) : List ByteArray := l.flatMap fun x => if x.kind = 1 then varsA x.pattern.args else []

def boundV (r : RuleD) (n : Nat) : List ByteArray := sortedT (hasVars (r.cond.take n))

theorem i_BoundVars_eq (r : RuleD) (n : Int) (h : SmallR r) (h4 : r.cond.length ≤ 4) : i_BoundVars r n = some (boundV r n.toNat) := by
  unfold i_BoundVars boundV
  refine (forL_rec (fun l i (row : List ByteArray) => some (sortedT (row ++ hasVars (l.take (n.toNat - i))))) (fun l i row => r.cond.drop i = l ∧ row.length ≤ 1048576 * i ∧ i ≤ r.cond.length) ?_ ?_ r.cond 0 [] ⟨by simp, by simp, by simp⟩).trans (by simp)
  · rintro i row ⟨h1, h2, h3⟩
    rw [i_SortedTexts_eq _ (by omega)]
    simp [hasVars]
  · rintro x l i row ⟨h1, h2, h3⟩
    left
    have hi : r.cond[i]? = some x := by have := congrArg (fun l => l[0]?) h1; simpa using this
    have hlt : i < r.cond.length := (List.getElem?_eq_some_iff.1 hi).1
    have hr : r.cond.drop (i + 1) = l := by have := congrArg List.tail h1; simpa using this
    have hx := h.ca x (List.mem_of_getElem? hi)
    have hv := varsA_len x.pattern.args
    by_cases hn : ((i : Nat) : Int) < n
    · have e : n.toNat - i = (n.toNat - (i + 1)) + 1 := by omega
      by_cases hk : x.kind = 1
      · refine ⟨row ++ varsA x.pattern.args, ?_, ⟨hr, by simp; omega, by omega⟩, ?_⟩
        · simp only [hn, hk, decide_true, beq_self_eq_true, if_true]
          rw [i_varsAmong_eq _ (by omega), Option.bind_some, chk_pos _ (by omega)]
        · rw [e]; simp [hasVars, hk]
      · refine ⟨row, ?_, ⟨hr, by omega, by omega⟩, ?_⟩
        · simp [hn, hk]
        · rw [e]; simp [hasVars, hk]
    · have e : n.toNat - i = 0 := by omega
      have e' : n.toNat - (i + 1) = 0 := by omega
      refine ⟨row, ?_, ⟨hr, by omega, by omega⟩, ?_⟩
      · simp [hn]
      · rw [e, e']; simp

theorem s_BoundVars_eq (r : RuleD) (n : Int) (h : SmallR r) (h4 : r.cond.length ≤ 4) : s_BoundVars r n = some (boundV r n.toNat) := by
  unfold s_BoundVars boundV
  refine (forL_rec (fun l i (row : List ByteArray) => some ((hasVars (l.take (n.toNat - i))).foldl putT row)) (fun l i row => r.cond.drop i = l ∧ row.length ≤ 1048576 * i ∧ i ≤ r.cond.length ∧ Asc row) ?_ ?_ r.cond 0 [] ⟨by simp, by simp, by simp, List.Pairwise.nil⟩).trans (by simp [sortedT])
  · rintro i row ⟨h1, h2, h3, h5⟩
    simp [hasVars]
  · rintro x l i row ⟨h1, h2, h3, h5⟩
    have hi : r.cond[i]? = some x := by have := congrArg (fun l => l[0]?) h1; simpa using this
    have hlt : i < r.cond.length := (List.getElem?_eq_some_iff.1 hi).1
    have hr : r.cond.drop (i + 1) = l := by have := congrArg List.tail h1; simpa using this
    have hx := h.ca x (List.mem_of_getElem? hi)
    have hv := varsA_len x.pattern.args
    have hs := sortedT_len (varsA x.pattern.args)
    by_cases hn : ((i : Nat) : Int) < n
    · left
      have e : n.toNat - i = (n.toNat - (i + 1)) + 1 := by omega
      by_cases hk : x.kind = 1
      · obtain ⟨f1, f2, f3⟩ := foldPut (sortedT (varsA x.pattern.args)) row h5
        refine ⟨(sortedT (varsA x.pattern.args)).foldl putT row, ?_, ⟨hr, by omega, by omega, f1⟩, ?_⟩
        · simp only [hn, hk, decide_true, beq_self_eq_true, if_true]
          rw [s_VarsOf_eq _ (by omega), Option.bind_some, forL_put (fun _ _ _ => rfl) (by omega)]
        · rw [e]
          simp only [hasVars, List.take_succ_cons, List.flatMap_cons, hk, if_true, List.foldl_append]
          congr 2
          obtain ⟨g1, g2, _⟩ := foldPut (varsA x.pattern.args) row h5
          exact asc_ext g1 f1 fun y => by rw [g2, f2, mem_sortedT]
      · refine ⟨row, ?_, ⟨hr, by omega, by omega, h5⟩, ?_⟩
        · simp [hn, hk]
        · rw [e]; simp [hasVars, hk]
    · right
      have e : n.toNat - i = 0 := by omega
      refine ⟨row, by simp [hn], by rw [e]; simp [hasVars]⟩

def elseB (r : RuleD) (i : Int) (v : ByteArray) : Bool := !(allI (fun k x => !(decide ((k : Int) ≠ i) && hasT (condV x) v)) r.cond 0 && r.thn.all fun a => !hasT a.pattern.args v)

theorem elsewhere_step {r : RuleD} {i : Int} {v : ByteArray} {f : CondD → Option (List ByteArray)} {g : List ByteArray → ByteArray → Option Bool} (hf : ∀ x ∈ r.cond, f x = some (condV x)) (hg : ∀ l, g l v = some (hasT l v)) {fin : Unit → Option Bool} (hfin : fin () = some (!(r.thn.all fun a => !hasT a.pattern.args v))) :
    forL (σ := Unit) (fun (k : Nat) (x : CondD) _ => if (((k : Nat) : Int) != i) = true then (f x).bind fun l => (g l v).bind fun b => if b = true then some (.inr true) else some (.inl ()) else some (.inl ())) fin r.cond 0 () = some (elseB r i v) := by
  rw [forL_allI (p := fun k x => !(decide ((k : Int) ≠ i) && hasT (condV x) v)) (r := true)]
  · unfold elseB
    cases allI (fun k x => !(decide ((k : Int) ≠ i) && hasT (condV x) v)) r.cond 0 with
    | true => simp only [if_true, hfin, Bool.true_and]
    | false => simp
  · intro j x hj
    rw [hf x (List.mem_of_getElem? hj), Option.bind_some, hg, Option.bind_some, Nat.zero_add]
    by_cases h : (j : Int) = i
    · simp [h]
    · have : ((j : Int) != i) = true := by simpa using h
      simp only [this, if_true]
      cases hasT (condV x) v <;> simp [h]

theorem i_occursElsewhere_eq (r : RuleD) (i : Int) (v : ByteArray) (h : SmallR r) : i_occursElsewhere r i v = some (elseB r i v) := by
  unfold i_occursElsewhere
  refine elsewhere_step (f := i_CondVars) (g := i_hasText) (fun x mx => i_CondVars_eq x (by have := h.ca x mx; omega)) (fun l => i_hasText_eq l v) ?_
  rw [forL_any (p := fun a => hasT a.pattern.args v) (r := true)]
  · simp only [← List.not_any_eq_all_not, Bool.not_not]
    cases r.thn.any fun a => hasT a.pattern.args v <;> rfl
  · intro j a _
    rw [i_hasText_eq]
    cases hasT a.pattern.args v <;> simp

theorem s_l5Elsewhere_eq (r : RuleD) (i : Int) (v : ByteArray) (h : SmallR r) (hv : isVarB v = true) : s_l5Elsewhere r i v = some (elseB r i v) := by
  unfold s_l5Elsewhere
  refine elsewhere_step (f := s_CondVars) (g := s_l1HasText) (fun x mx => s_CondVars_eq x (by have := h.ca x mx; omega)) (fun l => s_l1HasText_eq l v) ?_
  rw [forL_any (p := fun a => hasT a.pattern.args v) (r := true)]
  · simp only [← List.not_any_eq_all_not, Bool.not_not]
    cases r.thn.any fun a => hasT a.pattern.args v <;> rfl
  · intro j a ma
    rw [s_VarsOf_eq _ (by have := h.ta a ma; omega), Option.bind_some, s_l1HasText_eq, Option.bind_some]
    have : hasT (sortedT (varsA a.pattern.args)) v = hasT a.pattern.args v := by
      rw [Bool.eq_iff_iff, hasT_iff, hasT_iff, mem_sortedT, mem_varsA]
      simp [hv]
    rw [this]
    cases hasT a.pattern.args v <;> simp

def fitsV (r : RuleD) (i : Nat) (x : CondD) (v : ByteArray) : Bool := decide (x.kind = 1) || hasT (boundV r i) v || (decide (x.kind = 2) && !elseB r i v)

def fitsB (r : RuleD) (i : Nat) (x : CondD) : Bool := (condV x).all (fitsV r i x)

theorem i_condFits_eq (r : RuleD) (i : Nat) (x : CondD) (h : SmallR r) (h4 : r.cond.length ≤ 4) (hx : r.cond[i]? = some x) : i_condFits r i = some (fitsB r i x) := by
  unfold i_condFits fitsB
  have ha : atI r.cond (i : Int) = some x := by unfold atI; rw [if_pos (by omega), Int.toNat_natCast]; exact hx
  rw [ha, Option.bind_some, i_BoundVars_eq r _ h h4, Option.bind_some, i_CondVars_eq x (by have := h.ca x (List.mem_of_getElem? hx); omega), Option.bind_some, Int.toNat_natCast]
  rw [forL_all (p := fitsV r i x) (r := false)]
  · cases (condV x).all (fitsV r i x) <;> rfl
  · intro j v mv
    rw [i_hasText_eq, i_occursElsewhere_eq r _ v h]
    simp only [Option.bind_some, fitsV, beq_iff_eq, bne_iff_ne, ne_eq]
    by_cases h1 : x.kind = 1
    · simp [h1]
    · simp only [h1, if_false, decide_false, Bool.false_or]
      cases hasT (boundV r i) v with
      | true => simp
      | false =>
        by_cases h2 : x.kind = 2
        · simp only [h2, not_true_eq_false, if_false, Bool.false_eq_true, decide_true, Bool.true_and, Bool.false_or]
          cases elseB r i v <;> simp
        · simp [h2]

def isRuleB (r : RuleD) : Bool :=
  isNameB r.name && decide (0 ≤ r.priority) && decide (r.priority ≤ 9) && decide (1 ≤ r.cond.length) && decide (r.cond.length ≤ 4) && decide (1 ≤ r.thn.length) && decide (r.thn.length ≤ 2)
    && allI (fun i x => isCondB x && (decide (i ≠ 0) || decide (x.kind = 1)) && fitsB r i x) r.cond 0
    && r.thn.all (fun a => isActionB a && (varsA a.pattern.args).all (hasT (boundV r r.cond.length)))
    && decide ((sortedT (r.cond.flatMap condV)).length ≤ 6)

theorem i_condVarsOf_eq (l : List CondD) (h : ∀ x ∈ l, x.pattern.args.length ≤ 1048576) (h4 : l.length ≤ 4) : i_condVarsOf l = some (l.flatMap condV) := by
  unfold i_condVarsOf
  rw [forL_fold (f := fun s x => s ++ condV x) (fun j s => s.length ≤ 1048578 * j) (by simp)]
  · congr 1
    have : ∀ (l : List CondD) (acc : List ByteArray), l.foldl (fun s x => s ++ condV x) acc = acc ++ l.flatMap condV := by
      intro l
      induction l with
      | nil => simp
      | cons x l ih => intro acc; rw [List.foldl_cons, ih]; simp
    simpa using this l []
  · intro j x s mx _ hl hI
    have := h x mx
    have := condV_len x
    rw [i_CondVars_eq x (by omega), Option.bind_some, chk_pos _ (by omega)]
    exact ⟨rfl, by simp; omega⟩

theorem i_IsRule_eq (r : RuleD) (h : SmallR r) : i_IsRule r = some (isRuleB r) := by
  unfold i_IsRule isRuleB
  rw [i_IsName_eq, Option.bind_some]
  cases isNameB r.name with
  | false => simp
  | true =>
  simp only [if_true, decide_eq_true_eq, Bool.true_and]
  split
  · rw [decide_eq_false (show ¬ 0 ≤ r.priority by omega)]; simp
  split
  · rw [decide_eq_false (show ¬ r.priority ≤ 9 by omega)]; simp
  split
  · rw [decide_eq_false (show ¬ 1 ≤ r.cond.length by omega)]; simp
  split
  · rw [decide_eq_false (show ¬ r.cond.length ≤ 4 by omega)]; simp
  split
  · rw [decide_eq_false (show ¬ 1 ≤ r.thn.length by omega)]; simp
  split
  · rw [decide_eq_false (show ¬ r.thn.length ≤ 2 by omega)]; simp
  rw [decide_eq_true (show 0 ≤ r.priority by omega), decide_eq_true (show r.priority ≤ 9 by omega), decide_eq_true (show 1 ≤ r.cond.length by omega), decide_eq_true (show r.cond.length ≤ 4 by omega), decide_eq_true (show 1 ≤ r.thn.length by omega), decide_eq_true (show r.thn.length ≤ 2 by omega)]
  simp only [Bool.true_and]
  have h4 : r.cond.length ≤ 4 := by omega
  rw [forL_allI (p := fun i x => isCondB x && (decide (i ≠ 0) || decide (x.kind = 1)) && fitsB r i x) (r := false)]
  · cases allI (fun i x => isCondB x && (decide (i ≠ 0) || decide (x.kind = 1)) && fitsB r i x) r.cond 0 with
    | false => simp
    | true =>
      simp only [if_true, Bool.true_and]
      rw [i_BoundVars_eq r _ h h4, Option.bind_some, Int.toNat_natCast, forL_all (p := fun a => isActionB a && (varsA a.pattern.args).all (hasT (boundV r r.cond.length))) (r := false)]
      · cases r.thn.all fun a => isActionB a && (varsA a.pattern.args).all (hasT (boundV r r.cond.length)) with
        | false => simp
        | true =>
          have hl : (r.cond.flatMap condV).length ≤ 1048578 * r.cond.length := by
            have : ∀ l : List CondD, (∀ x ∈ l, x.pattern.args.length ≤ 1048576) → (l.flatMap condV).length ≤ 1048578 * l.length := by
              intro l
              induction l with
              | nil => simp
              | cons x l ih =>
                intro hl
                have h1 := ih fun y my => hl y (by simp [my])
                have h2 := hl x (by simp)
                have h3 := condV_len x
                simp only [List.flatMap_cons, List.length_append, List.length_cons]
                omega
            exact this r.cond h.ca
          simp only [if_true, Bool.true_and]
          rw [i_condVarsOf_eq _ h.ca h4, Option.bind_some, i_SortedTexts_eq _ (by omega), Option.bind_some]
          congr 1
          rw [Bool.eq_iff_iff]
          simp only [decide_eq_true_eq]
          omega
      · intro j a ma
        rw [i_IsAction_eq, Option.bind_some]
        cases isActionB a with
        | false => simp
        | true =>
          simp only [if_true, Bool.true_and]
          rw [i_varsAmong_eq _ (by have := h.ta a ma; omega), Option.bind_some, forL_all (p := hasT (boundV r r.cond.length)) (r := .inr false)]
          · cases (varsA a.pattern.args).all (hasT (boundV r r.cond.length)) <;> rfl
          · intro k v _
            rw [i_hasText_eq, Option.bind_some]
            cases hasT (boundV r r.cond.length) v <;> simp
  · intro j x hj
    rw [Nat.zero_add, i_IsCond_eq, Option.bind_some, i_condFits_eq r j x h h4 hj]
    simp only [Option.bind_some]
    cases isCondB x with
    | false => simp
    | true =>
      by_cases h0 : j = 0
      · subst h0
        by_cases hk : x.kind = 1
        · simp only [hk]; cases fitsB r 0 x <;> simp
        · simp [hk]
      · have : ((j : Int) == 0) = false := by rw [beq_eq_false_iff_ne]; omega
        simp only [this]
        cases fitsB r j x <;> simp [h0]

theorem foldPut_flat {α : Type} (f : α → List ByteArray) : ∀ (l : List α) (acc : List ByteArray), Asc acc → l.foldl (fun s x => (f x).foldl putT s) acc = (l.flatMap f).foldl putT acc
  | [], _, _ => rfl
  | x :: l, acc, h => by rw [List.foldl_cons, foldPut_flat f l _ (foldPut (f x) acc h).1, List.flatMap_cons, List.foldl_append]

/-- the variables of the conditions and the actions -/
def ruleVars (r : RuleD) : List ByteArray := sortedT (r.cond.flatMap condV ++ r.thn.flatMap fun a => varsA a.pattern.args)

theorem s_RuleVars_eq (r : RuleD) (h : SmallR r) (h4 : r.cond.length ≤ 4) (h2 : r.thn.length ≤ 2) : s_RuleVars r = some (ruleVars r) := by
  unfold s_RuleVars ruleVars
  rw [forL_fold (f := fun s x => (condV x).foldl putT s) (fun j s => s.length ≤ 1048578 * j ∧ Asc s) ⟨by simp, List.Pairwise.nil⟩]
  · have hA := foldPut_flat condV r.cond [] List.Pairwise.nil
    have hB : Asc (r.cond.foldl (fun s x => (condV x).foldl putT s) []) := by rw [hA]; exact (foldPut _ [] List.Pairwise.nil).1
    have hl : (r.cond.foldl (fun s x => (condV x).foldl putT s) []).length ≤ 1048578 * 4 := by
      rw [hA]
      have := (foldPut (r.cond.flatMap condV) [] List.Pairwise.nil).2.2
      have h3 : (r.cond.flatMap condV).length ≤ 1048578 * r.cond.length := by
        have : ∀ l : List CondD, (∀ x ∈ l, x.pattern.args.length ≤ 1048576) → (l.flatMap condV).length ≤ 1048578 * l.length := by
          intro l
          induction l with
          | nil => simp
          | cons x l ih =>
            intro hl
            have h1 := ih fun y my => hl y (by simp [my])
            have h2 := hl x (by simp)
            have h3 := condV_len x
            simp only [List.flatMap_cons, List.length_append, List.length_cons]
            omega
        exact this r.cond h.ca
      simp only [List.length_nil, Nat.add_zero] at this
      omega
    rw [forL_fold (f := fun s a => (sortedT (varsA a.pattern.args)).foldl putT s) (fun j s => s.length ≤ 1048578 * 4 + 1048576 * j ∧ Asc s) ⟨by omega, hB⟩]
    · congr 1
      rw [foldPut_flat (fun a : ActionD => sortedT (varsA a.pattern.args)) r.thn _ hB, hA]
      refine sortedT_of (foldPut _ _ (foldPut _ [] List.Pairwise.nil).1).1 fun y => ?_
      rw [(foldPut _ _ (foldPut _ [] List.Pairwise.nil).1).2.1 y, (foldPut _ [] List.Pairwise.nil).2.1 y]
      simp only [List.mem_append, List.mem_flatMap, mem_sortedT, List.not_mem_nil, or_false]
      exact Or.comm
    · intro j a s ma _ hj hI
      have h5 := h.ta a ma
      have h6 := varsA_len a.pattern.args
      have h7 := sortedT_len (varsA a.pattern.args)
      obtain ⟨f1, f2, f3⟩ := foldPut (sortedT (varsA a.pattern.args)) s hI.2
      rw [s_VarsOf_eq _ (by omega), Option.bind_some, forL_put (fun _ _ _ => rfl) (by omega)]
      exact ⟨rfl, by omega, f1⟩
  · intro j x s mx _ hj hI
    have h5 := h.ca x mx
    have h6 := condV_len x
    obtain ⟨f1, f2, f3⟩ := foldPut (condV x) s hI.2
    rw [s_CondVars_eq _ (by omega), Option.bind_some, forL_put (fun _ _ _ => rfl) (by omega)]
    exact ⟨rfl, by omega, f1⟩

theorem hasVars_sub {l : List CondD} {y : ByteArray} (h : y ∈ hasVars l) : y ∈ l.flatMap condV := by
  simp only [hasVars, List.mem_flatMap] at h ⊢
  obtain ⟨x, hx, hy⟩ := h
  refine ⟨x, hx, ?_⟩
  split at hy
  · rw [condV, mem_sortedT, mem_varsA]
    rw [mem_varsA] at hy
    exact ⟨by simp [termsD, hy.1], hy.2⟩
  · simp at hy

theorem s_IsRule_eq (r : RuleD) (h : SmallR r) : s_IsRule r = some (isRuleB r) := by
  unfold s_IsRule isRuleB
  rw [s_IsName_eq, Option.bind_some]
  cases isNameB r.name with
  | false => simp
  | true =>
  simp only [if_true, s_l1In_eq, Option.bind_some, Bool.true_and, Bool.and_eq_true, decide_eq_true_eq]
  split
  rotate_left
  · rename_i hh
    have : (decide (0 ≤ r.priority) && decide (r.priority ≤ 9)) = false := by simp; omega
    rw [this]; simp
  rename_i hp
  rw [decide_eq_true hp.1, decide_eq_true hp.2]
  split
  rotate_left
  · rename_i hh
    have : (decide (1 ≤ r.cond.length) && decide (r.cond.length ≤ 4)) = false := by simp; omega
    simp only [Bool.true_and, this, Bool.false_and]
  rename_i hc
  rw [decide_eq_true (show 1 ≤ r.cond.length by omega), decide_eq_true (show r.cond.length ≤ 4 by omega)]
  split
  rotate_left
  · rename_i hh
    have : (decide (1 ≤ r.thn.length) && decide (r.thn.length ≤ 2)) = false := by simp; omega
    simp only [Bool.true_and, this, Bool.false_and]
  rename_i ht
  rw [decide_eq_true (show 1 ≤ r.thn.length by omega), decide_eq_true (show r.thn.length ≤ 2 by omega)]
  simp only [Bool.true_and]
  have h4 : r.cond.length ≤ 4 := by omega
  rw [s_BoundVars_eq r _ h h4, Option.bind_some, Int.toNat_natCast]
  rw [forL_allI (p := fun i x => isCondB x && (decide (i ≠ 0) || decide (x.kind = 1)) && fitsB r i x) (r := false)]
  · cases allI (fun i x => isCondB x && (decide (i ≠ 0) || decide (x.kind = 1)) && fitsB r i x) r.cond 0 with
    | false => simp
    | true =>
      simp only [if_true, Bool.true_and]
      rw [forL_all (p := fun a => isActionB a && (varsA a.pattern.args).all (hasT (boundV r r.cond.length))) (r := false)]
      · cases ha : r.thn.all fun a => isActionB a && (varsA a.pattern.args).all (hasT (boundV r r.cond.length)) with
        | false => simp
        | true =>
          simp only [if_true, Bool.true_and]
          rw [s_RuleVars_eq r h h4 (by omega), Option.bind_some]
          have e : ruleVars r = sortedT (r.cond.flatMap condV) := sortedT_congr fun y => by
            simp only [List.mem_append]
            refine ⟨fun hy => ?_, .inl⟩
            rcases hy with hy | hy
            · exact hy
            · obtain ⟨a, ma, hy⟩ := List.mem_flatMap.1 hy
              have := List.all_eq_true.1 ha a ma
              simp only [Bool.and_eq_true] at this
              have := List.all_eq_true.1 this.2 y hy
              rw [hasT_iff, boundV, mem_sortedT, List.take_length] at this
              exact hasVars_sub this
          rw [e]
          congr 1
          rw [Bool.eq_iff_iff]
          simp only [decide_eq_true_eq]
          omega
      · intro j a ma
        rw [s_IsAction_eq, Option.bind_some]
        cases isActionB a with
        | false => simp
        | true =>
          simp only [if_true, Bool.true_and]
          rw [s_VarsOf_eq _ (by have := h.ta a ma; omega), Option.bind_some, forL_all (p := hasT (boundV r r.cond.length)) (r := .inr false)]
          · have : (sortedT (varsA a.pattern.args)).all (hasT (boundV r r.cond.length)) = (varsA a.pattern.args).all (hasT (boundV r r.cond.length)) := by
              rw [Bool.eq_iff_iff, List.all_eq_true, List.all_eq_true]
              simp only [mem_sortedT]
            rw [this]
            cases (varsA a.pattern.args).all (hasT (boundV r r.cond.length)) <;> rfl
          · intro k v _
            rw [s_l1HasText_eq, Option.bind_some]
            cases hasT (boundV r r.cond.length) v <;> simp
  · intro j x hj
    have hxa := h.ca x (List.mem_of_getElem? hj)
    rw [Nat.zero_add, s_IsCond_eq, Option.bind_some, s_BoundVars_eq r _ h h4, s_CondVars_eq x (by omega), Int.toNat_natCast]
    simp only [Option.bind_some]
    cases hic : isCondB x with
    | false => simp
    | true =>
      have loop : ∀ {fin : Unit → Option (Unit ⊕ Bool)} (hfin : fin () = some (.inl ())), forL (σ := Unit) (ρ := Unit ⊕ Bool) (fun (_ : Nat) (v : ByteArray) _ => (s_l1HasText (boundV r j) v).bind fun b => (s_IsTest x).bind fun t => if t = true then (if b = true then (if (x.kind == 2) = true then some (.inl ()) else some (.inl ())) else some (.inr (.inr false))) else (if (x.kind == 2) = true then (if b = true then some (.inl ()) else (s_l5Elsewhere r ((j : Nat) : Int) v).bind fun e => if e = true then some (.inr (.inr false)) else some (.inl ())) else some (.inl ()))) fin (condV x) 0 () = some (bif fitsB r j x then .inl () else .inr false) := fun {fin} hfin => by
        rw [forL_all (p := fitsV r j x) (r := .inr false)]
        · unfold fitsB
          cases (condV x).all (fitsV r j x) <;> simp [hfin]
        · intro k v mv
          rw [s_l1HasText_eq, s_IsTest_eq, s_l5Elsewhere_eq r _ v h (condV_var mv), hic]
          simp only [Option.bind_some, Bool.true_and, decide_eq_true_eq, beq_iff_eq, fitsV]
          rcases isCondB_kind hic with hk | hk | hk | hk | hk <;> rw [hk] <;> cases hasT (boundV r j) v <;> cases elseB r j v <;> simp
      by_cases h0 : j = 0
      · subst h0
        by_cases hk : x.kind = 1
        · have hk' : (x.kind != 1) = false := by simp [hk]
          simp only [if_true, hk', show (((0 : Nat) : Int) == 0) = true from rfl, Bool.false_eq_true, if_false]
          rw [loop rfl]
          simp [hk]
        · have hk' : (x.kind != 1) = true := by simpa using hk
          simp [hk', hk]
      · have : ((j : Int) == 0) = false := by rw [beq_eq_false_iff_ne]; omega
        simp only [if_true, this, Bool.false_eq_true, if_false]
        rw [loop rfl]
        simp [h0]

end Go.Proofs.YtlkgkkacnoaeaaaGreatDoor

namespace Go.Proofs.YtlkgkkacnoaeaaaGreatDoor
theorem var_not_atom {v : ByteArray} (h : isVarB v = true) : isAtomB v = false := by
  cases ha : isAtomB v with
  | false => rfl
  | true =>
    have h1 := isAtomB_head ha
    rw [atomByte_iff] at h1
    unfold isVarB at h
    simp only [Bool.and_eq_true, decide_eq_true_iff] at h
    omega
/-- the value of a variable -/
def getP : List PairD → ByteArray → Option ByteArray
  | [], _ => none
  | x :: b, v => if x.var = v then some x.value else getP b v
def valueP (b : List PairD) (t : ByteArray) : Option ByteArray := if isAtomB t = true then some t else if isVarB t = true then getP b t else none
theorem valueP_var {b : List PairD} {v : ByteArray} (h : isVarB v = true) : valueP b v = getP b v := by
  unfold valueP
  rw [if_neg (by rw [var_not_atom h]; simp), if_pos h]
def pairOk (x : PairD) : Bool := isVarB x.var && isAtomB x.value
def prevLt : Option ByteArray → ByteArray → Bool
  | none, _ => true
  | some p, v => sLt p v
def bindFrom : Option ByteArray → List PairD → Bool
  | _, [] => true
  | prev, x :: r => pairOk x && prevLt prev x.var && bindFrom (some x.var) r
def isBindB (b : List PairD) : Bool := decide (b.length ≤ 6) && bindFrom none b
theorem bind_tail {prev : Option ByteArray} {b : List PairD} (h : bindFrom prev b = true) : ∀ x ∈ b, pairOk x = true ∧ ∀ p, prev = some p → sLt p x.var = true := by
  induction b generalizing prev with
  | nil => simp
  | cons y r ih =>
    simp only [bindFrom, Bool.and_eq_true] at h
    obtain ⟨⟨h1, h2⟩, h3⟩ := h
    intro x mx
    rcases List.mem_cons.1 mx with rfl | mx
    · exact ⟨h1, fun p hp => by subst hp; exact h2⟩
    · obtain ⟨k1, k2⟩ := ih h3 x mx
      exact ⟨k1, fun p hp => by subst hp; exact sLt_trans h2 (k2 _ rfl)⟩
theorem getP_none {b : List PairD} {v : ByteArray} (h : getP b v = none) : ∀ x ∈ b, ¬ x.var = v := by
  induction b with
  | nil => simp
  | cons y r ih =>
    simp only [getP] at h
    split at h
    · simp at h
    · rename_i hy
      intro x mx
      rcases List.mem_cons.1 mx with rfl | mx
      · exact hy
      · exact ih h x mx
theorem getP_some {b : List PairD} {v w : ByteArray} (h : getP b v = some w) : ∃ x ∈ b, x.var = v ∧ x.value = w := by
  induction b with
  | nil => simp [getP] at h
  | cons y r ih =>
    simp only [getP] at h
    split at h
    · rename_i hy
      exact ⟨y, by simp, hy, Option.some.inj h⟩
    · obtain ⟨x, mx, h1⟩ := ih h
      exact ⟨x, by simp [mx], h1⟩
/-- a pair more, in its place -/
def setP : List PairD → ByteArray → ByteArray → List PairD
  | [], v, w => [⟨v, w⟩]
  | x :: b, v, w => if sLt v x.var = true then ⟨v, w⟩ :: x :: b else x :: setP b v w
theorem setP_len (v w : ByteArray) : ∀ b : List PairD, (setP b v w).length = b.length + 1
  | [] => rfl
  | x :: b => by
    simp only [setP]
    split
    · rfl
    · rw [List.length_cons, setP_len v w b]; rfl
theorem getP_setP {v w u : ByteArray} : ∀ {b : List PairD}, getP b v = none → getP (setP b v w) u = if v = u then some w else getP b u
  | [], _ => by simp [setP, getP]
  | x :: b, h => by
    simp only [getP] at h
    split at h
    · simp at h
    · rename_i hx
      simp only [setP]
      split
      · simp [getP]
      · simp only [getP]
        rw [getP_setP h]
        by_cases hu : x.var = u
        · rw [if_pos hu, if_pos hu, if_neg (fun e => hx (hu.trans e.symm))]
        · rw [if_neg hu, if_neg hu]
theorem bind_setP {v w : ByteArray} (hv : isVarB v = true) (hw : isAtomB w = true) : ∀ {b : List PairD} {prev : Option ByteArray}, bindFrom prev b = true → getP b v = none → (∀ p, prev = some p → sLt p v = true) → bindFrom prev (setP b v w) = true
  | [], prev, _, _, hp => by
    simp only [setP, bindFrom, pairOk, hv, hw, Bool.and_self, Bool.true_and, Bool.and_true]
    cases prev with
    | none => rfl
    | some p => exact hp p rfl
  | x :: b, prev, h, hg, hp => by
    have hx := getP_none hg x (by simp)
    simp only [getP, hx, if_false] at hg
    simp only [bindFrom, Bool.and_eq_true] at h
    obtain ⟨⟨h1, h2⟩, h3⟩ := h
    simp only [setP]
    by_cases hlt : sLt v x.var = true
    · rw [if_pos hlt]
      have h4 : prevLt prev v = true := by
        cases prev with
        | none => rfl
        | some p => exact hp p rfl
      simp only [bindFrom, Bool.and_eq_true]
      exact ⟨⟨by simp [pairOk, hv, hw], h4⟩, ⟨⟨h1, hlt⟩, h3⟩⟩
    · rw [if_neg hlt]
      simp only [bindFrom, Bool.and_eq_true]
      refine ⟨⟨h1, h2⟩, bind_setP hv hw h3 hg fun p hp2 => ?_⟩
      obtain rfl := Option.some.inj hp2
      exact sLt_total (by simpa using hlt) (fun e => hx e.symm)
/-- a variable gets a value -/
def extP (b : List PairD) (v w : ByteArray) : Option (List PairD) :=
  if isBindB b = true ∧ isVarB v = true ∧ isAtomB w = true then
    (match getP b v with
    | some old => if old = w then some b else none
    | none => if b.length = 6 then none else some (setP b v w))
  else none
theorem extP_ok {b b' : List PairD} {v w : ByteArray} (h : extP b v w = some b') : isBindB b' = true ∧ getP b' v = some w ∧ ∀ u z, getP b u = some z → getP b' u = some z := by
  unfold extP at h
  split at h
  · rename_i hc
    obtain ⟨h1, h2, h3⟩ := hc
    cases hg : getP b v with
    | some old =>
      rw [hg] at h
      simp only at h
      split at h
      · rename_i he
        obtain rfl := Option.some.inj h
        exact ⟨h1, by rw [hg, he], fun u z hu => hu⟩
      · simp at h
    | none =>
      rw [hg] at h
      simp only at h
      split at h
      · simp at h
      · rename_i hl
        obtain rfl := Option.some.inj h
        unfold isBindB at h1 ⊢
        rw [Bool.and_eq_true, decide_eq_true_iff] at h1
        refine ⟨?_, by rw [getP_setP hg, if_pos rfl], fun u z hu => ?_⟩
        · rw [Bool.and_eq_true, decide_eq_true_iff, setP_len]
          exact ⟨by omega, bind_setP h2 h3 h1.2 hg (by simp)⟩
        · rw [getP_setP hg, if_neg (fun e => by rw [← e, hg] at hu; simp at hu)]; exact hu
  · simp at h
def matchL : List ByteArray → List ByteArray → List PairD → Option (List PairD)
  | [], _, b => some b
  | _ :: _, [], _ => none
  | a :: p, w :: f, b => if isAtomB a = true then (if a = w then matchL p f b else none) else (extP b a w).bind (matchL p f)
theorem matchL_ok : ∀ {p f : List ByteArray} {b b' : List PairD}, isBindB b = true → matchL p f b = some b' → isBindB b' = true ∧ (∀ a ∈ p, isVarB a = true → ∃ z, getP b' a = some z) ∧ ∀ u z, getP b u = some z → getP b' u = some z
  | [], _, b, b', hb, h => by
    simp only [matchL, Option.some.injEq] at h
    subst h
    exact ⟨hb, by simp, fun u z h => h⟩
  | _ :: _, [], _, _, _, h => by simp [matchL] at h
  | a :: p, w :: f, b, b', hb, h => by
    simp only [matchL] at h
    by_cases ha : isAtomB a = true
    · rw [if_pos ha] at h
      split at h
      · obtain ⟨h1, h2, h3⟩ := matchL_ok hb h
        refine ⟨h1, fun x mx hx => ?_, h3⟩
        rcases List.mem_cons.1 mx with rfl | mx
        · rw [var_not_atom hx] at ha; simp at ha
        · exact h2 x mx hx
      · simp at h
    · rw [if_neg ha] at h
      obtain ⟨b1, e1, h⟩ := Option.bind_eq_some_iff.1 h
      obtain ⟨k1, k2, k3⟩ := extP_ok e1
      obtain ⟨h1, h2, h3⟩ := matchL_ok k1 h
      refine ⟨h1, fun x mx hx => ?_, fun u z hu => h3 u z (k3 u z hu)⟩
      rcases List.mem_cons.1 mx with rfl | mx
      · exact ⟨w, h3 _ _ k2⟩
      · exact h2 x mx hx
def matchOkB (p : PatternD) (f : FactD) (b : List PairD) : Bool := isPatternB p && isFactB f && isBindB b && decide (p.rel = f.rel) && decide (p.args.length = f.args.length)
/-- a fact matched with a pattern -/
def matchP (p : PatternD) (f : FactD) (b : List PairD) : Option (List PairD) := if matchOkB p f b = true then matchL p.args f.args b else none
theorem matchP_ok {p : PatternD} {f : FactD} {b b' : List PairD} (h : matchP p f b = some b') : isBindB b' = true ∧ (∀ a ∈ p.args, isVarB a = true → ∃ z, getP b' a = some z) ∧ ∀ u z, getP b u = some z → getP b' u = some z := by
  unfold matchP at h
  split at h
  · rename_i hc
    unfold matchOkB at hc
    simp only [Bool.and_eq_true] at hc
    exact matchL_ok hc.1.1.2 h
  · simp at h
def instL : List ByteArray → List PairD → Option (List ByteArray)
  | [], _ => some []
  | a :: p, b => (valueP b a).bind fun v => (instL p b).map fun l => v :: l
theorem instL_some {b : List PairD} : ∀ {p : List ByteArray}, p.all isTermB = true → (∀ a ∈ p, isVarB a = true → ∃ z, getP b a = some z) → ∃ l, instL p b = some l ∧ l.length = p.length
  | [], _, _ => ⟨[], rfl, rfl⟩
  | a :: p, h, hv => by
    simp only [List.all_cons, Bool.and_eq_true] at h
    obtain ⟨l, e, hl⟩ := instL_some h.2 fun x mx => hv x (by simp [mx])
    have : ∃ v, valueP b a = some v := by
      have ht := h.1
      unfold isTermB at ht
      rw [Bool.or_eq_true] at ht
      rcases ht with ht | ht
      · exact ⟨a, by unfold valueP; rw [if_pos ht]⟩
      · obtain ⟨z, hz⟩ := hv a (by simp) ht
        exact ⟨z, by rw [valueP_var ht]; exact hz⟩
    obtain ⟨v, hv⟩ := this
    exact ⟨v :: l, by simp only [instL, hv, e, Option.bind_some, Option.map_some], by simp [hl]⟩
/-- a pattern filled in -/
def instP (p : PatternD) (b : List PairD) : Option FactD := if isPatternB p = true ∧ isBindB b = true then (instL p.args b).map fun l => { rel := p.rel, args := l } else none
def matchingP (p : PatternD) (b : List PairD) (F : List FactD) : List FactD := F.filter fun f => (matchP p f b).isSome
def numLt (l r : ByteArray) : Bool := match numN l, numN r with | some m, some n => decide (m < n) | _, _ => false
def testB (k : Int) (l r : ByteArray) : Bool := if k = 3 then decide (l = r) else if k = 4 then !decide (l = r) else numLt l r
def holdsT (x : CondD) (b : List PairD) : Bool :=
  if isCondB x = true ∧ 3 ≤ x.kind ∧ isBindB b = true then (match valueP b x.left, valueP b x.right with | some l, some r => testB x.kind l r | _, _ => false) else false
def holdsB (x : CondD) (b : List PairD) (F : List FactD) : Bool :=
  if isCondB x = true ∧ isBindB b = true then
    (if x.kind = 1 then decide (0 < (matchingP x.pattern b F).length) else if x.kind = 2 then decide ((matchingP x.pattern b F).length = 0) else holdsT x b)
  else false
def nextP (x : CondD) (F : List FactD) (t : TokenD) : List TokenD :=
  if x.kind = 1 then F.filterMap fun f => (matchP x.pattern f t.binding).map fun b => { facts := t.facts ++ [f], binding := b }
  else if holdsB x t.binding F = true then [t] else []
def stepP (x : CondD) (F : List FactD) (l : List TokenD) : List TokenD := l.flatMap (nextP x F)
def tok0 : TokenD := { facts := [], binding := [] }
def tokensP (l : List CondD) (F : List FactD) : List TokenD := l.foldl (fun ts x => stepP x F ts) [tok0]
theorem tokensP_snoc (p : List CondD) (x : CondD) (F : List FactD) : tokensP (p ++ [x]) F = stepP x F (tokensP p F) := by
  unfold tokensP
  rw [List.foldl_append]
  rfl
/-- what is known of a token behind some conditions -/
structure TokOk (p : List CondD) (F : List FactD) (t : TokenD) : Prop where
  bind : isBindB t.binding = true
  len : t.facts.length ≤ p.length
  sub : ∀ f ∈ t.facts, f ∈ F
  vars : ∀ v ∈ hasVars p, ∃ z, getP t.binding v = some z
theorem next_ok {p : List CondD} {x : CondD} {F : List FactD} {t u : TokenD} (h : TokOk p F t) (hu : u ∈ nextP x F t) : TokOk (p ++ [x]) F u := by
  unfold nextP at hu
  have hv : hasVars (p ++ [x]) = hasVars p ++ (if x.kind = 1 then varsA x.pattern.args else []) := by simp [hasVars]
  by_cases hk : x.kind = 1
  · rw [if_pos hk] at hu
    obtain ⟨f, mf, e⟩ := List.mem_filterMap.1 hu
    obtain ⟨b, e2, rfl⟩ := Option.map_eq_some_iff.1 e
    obtain ⟨h1, h2, h3⟩ := matchP_ok e2
    refine ⟨h1, by have := h.len; simp; omega, fun g mg => ?_, fun v mv => ?_⟩
    · rcases List.mem_append.1 mg with mg | mg
      · exact h.sub g mg
      · simp at mg; subst mg; exact mf
    · rw [hv, if_pos hk] at mv
      rcases List.mem_append.1 mv with mv | mv
      · obtain ⟨z, hz⟩ := h.vars v mv
        exact ⟨z, h3 v z hz⟩
      · obtain ⟨m1, m2⟩ := mem_varsA.1 mv
        exact h2 v m1 m2
  · rw [if_neg hk] at hu
    split at hu
    · simp at hu
      subst hu
      refine ⟨h.bind, by have := h.len; simp; omega, h.sub, fun v mv => ?_⟩
      rw [hv, if_neg hk, List.append_nil] at mv
      exact h.vars v mv
    · simp at hu
theorem tok0_ok (F : List FactD) : TokOk [] F tok0 := ⟨rfl, Nat.le_refl _, by simp [tok0], by simp [hasVars]⟩
theorem tokens_ok (F : List FactD) (l : List CondD) : ∀ t ∈ tokensP l F, TokOk l F t := by
  have : ∀ n (l : List CondD), l.length = n → ∀ t ∈ tokensP l F, TokOk l F t := by
    intro n
    induction n with
    | zero =>
      intro l h
      rw [List.eq_nil_of_length_eq_zero h]
      intro t mt
      simp [tokensP] at mt
      subst mt
      exact tok0_ok F
    | succ n ih =>
      intro l h
      obtain ⟨p, x, rfl⟩ : ∃ p x, l = p ++ [x] := ⟨l.dropLast, l.getLast (by intro e; simp [e] at h), (List.dropLast_concat_getLast _).symm⟩
      intro t mt
      rw [tokensP_snoc] at mt
      obtain ⟨s, ms, mt⟩ := List.mem_flatMap.1 mt
      exact next_ok (ih p (by simpa using h) s ms) mt
  exact this _ l rfl
theorem step_len (x : CondD) (F : List FactD) (hF : F.length ≤ 24) : ∀ l : List TokenD, (stepP x F l).length ≤ 24 * l.length
  | [] => Nat.le_refl _
  | t :: l => by
    have ih := step_len x F hF l
    have h1 : (nextP x F t).length ≤ 24 := by
      unfold nextP
      split
      · exact Nat.le_trans (List.length_filterMap_le _ _) hF
      · split <;> simp
    unfold stepP at *
    rw [List.flatMap_cons, List.length_append, List.length_cons]
    omega
theorem tokens_len (F : List FactD) (hF : F.length ≤ 24) (l : List CondD) (hl : l.length ≤ 4) : (tokensP l F).length ≤ 331776 := by
  have key : ∀ (l : List CondD) (ts : List TokenD), (l.foldl (fun ts x => stepP x F ts) ts).length ≤ 24 ^ l.length * ts.length := by
    intro l
    induction l with
    | nil => intro ts; simp
    | cons x l ih =>
      intro ts
      rw [List.foldl_cons, List.length_cons, Nat.pow_succ]
      have h1 := ih (stepP x F ts)
      have h2 := step_len x F hF ts
      refine Nat.le_trans h1 (Nat.le_trans (Nat.mul_le_mul_left _ h2) ?_)
      rw [← Nat.mul_assoc]
      exact Nat.le_refl _
  have h1 := key l [tok0]
  have h2 : 24 ^ l.length ≤ 24 ^ 4 := Nat.pow_le_pow_right (by omega) hl
  unfold tokensP
  simp only [List.length_singleton, Nat.mul_one] at h1
  omega
end Go.Proofs.YtlkgkkacnoaeaaaGreatDoor

namespace Go.Proofs.YtlkgkkacnoaeaaaGreatDoor
def prevAt (b : List PairD) (i : Nat) : Option ByteArray := if i = 0 then none else (b[i - 1]?).map (·.var)
theorem bind_loop {b : List PairD} {body : Nat → PairD → Unit → Option (Unit ⊕ Bool)} {fin : Unit → Option Bool} (hb : ∀ i x, b[i]? = some x → body i x () = if (pairOk x && prevLt (prevAt b i) x.var) = true then some (.inl ()) else some (.inr false)) :
    ∀ (l : List PairD) (i : Nat), b.drop i = l → forL body fin l i () = if bindFrom (prevAt b i) l = true then fin () else some false
  | [], i, _ => by simp [forL, bindFrom]
  | x :: l, i, h => by
    have hx : b[i]? = some x := by rw [← List.head?_drop, h]; rfl
    have hd : b.drop (i + 1) = l := by rw [← List.tail_drop, h]; rfl
    have hp : prevAt b (i + 1) = some x.var := by unfold prevAt; rw [if_neg (by omega), Nat.add_sub_cancel, hx]; rfl
    by_cases hc : (pairOk x && prevLt (prevAt b i) x.var) = true
    · rw [forL_next (by rw [hb i x hx, if_pos hc]), bind_loop hb l (i + 1) hd, hp]
      simp only [bindFrom, hc, Bool.true_and]
    · rw [forL_stop (by rw [hb i x hx, if_neg hc])]
      simp only [bindFrom, eq_false_of_ne_true hc, Bool.false_and, Bool.false_eq_true, if_false]
theorem bind_step {b : List PairD} (hl : b.length ≤ 1048576) {i : Nat} {x : PairD} (hx : b[i]? = some x) :
    (if isVarB x.var = true then (if isAtomB x.value = true then (if (decide (0 < ((i : Nat) : Int))) = true then (atI b (IntKind.i64.wrap (((i : Nat) : Int) - 1))).bind fun x13 => if (sLt x13.var x.var) = true then some (.inl ()) else some (.inr false) else some (.inl ())) else some (.inr false)) else some (.inr false) : Option (Unit ⊕ Bool))
      = if (pairOk x && prevLt (prevAt b i) x.var) = true then some (.inl ()) else some (.inr false) := by
  have hi := (List.getElem?_eq_some_iff.1 hx).1
  unfold pairOk
  cases isVarB x.var with
  | false => simp
  | true =>
    cases isAtomB x.value with
    | false => simp
    | true =>
      rw [if_pos rfl, if_pos rfl]
      by_cases h0 : i = 0
      · subst h0
        rw [if_neg (by simp)]
        simp [prevAt, prevLt]
      · have hp : prevAt b i = some (b[i - 1]).var := by unfold prevAt; rw [if_neg h0, List.getElem?_eq_getElem (by omega)]; rfl
        rw [if_pos (by simp; omega), show ((i : Nat) : Int) - 1 = ((i - 1 : Nat) : Int) by omega, wrap_in (by omega) (by omega), atI_nat, List.getElem?_eq_getElem (by omega), Option.bind_some, hp]
        simp [prevLt]
theorem i_IsBinding_eq (b : List PairD) : i_IsBinding b = some (isBindB b) := by
  unfold i_IsBinding isBindB
  by_cases h6 : b.length ≤ 6
  · rw [if_neg (by simp; omega), bind_loop (b := b) (fun i x hx => by
      rw [i_IsVar_eq, Option.bind_some, i_IsAtom_eq]
      exact bind_step (by omega) hx) b 0 rfl, decide_eq_true h6]
    show (if bindFrom none b = true then some true else some false) = _
    cases bindFrom none b <;> rfl
  · rw [if_pos (by simp; omega), decide_eq_false h6]
    rfl
theorem s_IsBinding_eq (b : List PairD) (hl : b.length ≤ 1048576) : s_IsBinding b = some (isBindB b) := by
  unfold s_IsBinding isBindB
  rw [bind_loop (b := b) (fun i x hx => by
      rw [s_IsVar_eq, Option.bind_some, s_IsAtom_eq]
      exact bind_step hl hx) b 0 rfl]
  show (if bindFrom none b = true then some (decide (((b.length : Nat) : Int) ≤ 6)) else some false) = _
  have : decide (((b.length : Nat) : Int) ≤ 6) = decide (b.length ≤ 6) := by rw [Bool.eq_iff_iff]; simp; omega
  rw [this]
  cases bindFrom none b <;> simp
def valR (b : List PairD) (t : ByteArray) : ByteArray × Bool := match valueP b t with | some v => (v, true) | none => (⟨#[]⟩, false)
def getR : Option ByteArray → ByteArray × Bool
  | some v => (v, true)
  | none => (⟨#[]⟩, false)
theorem valR_eq (b : List PairD) (t : ByteArray) : valR b t = getR (valueP b t) := by unfold valR getR; cases valueP b t <;> rfl
theorem get_loop {t : ByteArray} {body : Nat → PairD → Unit → Option (Unit ⊕ (ByteArray × Bool))} (hb : ∀ i x, body i x () = if x.var = t then some (.inr (x.value, true)) else some (.inl ())) :
    ∀ (b : List PairD) (i : Nat), forL body (fun _ => some ((⟨#[]⟩), false)) b i () = some (getR (getP b t))
  | [], _ => rfl
  | x :: b, i => by
    by_cases hx : x.var = t
    · rw [forL_stop (by rw [hb, if_pos hx])]
      simp [getP, hx, getR]
    · rw [forL_next (by rw [hb, if_neg hx]), get_loop hb b (i + 1)]
      simp [getP, hx]
theorem i_ValueOf_eq (b : List PairD) (t : ByteArray) : i_ValueOf b t = some (valR b t) := by
  unfold i_ValueOf
  rw [valR_eq, i_IsAtom_eq, Option.bind_some]
  unfold valueP
  by_cases ha : isAtomB t = true
  · rw [if_pos ha, if_pos ha]; rfl
  · rw [if_neg ha, if_neg ha, i_IsVar_eq, Option.bind_some]
    by_cases hv : isVarB t = true
    · rw [if_pos hv, if_pos hv, get_loop]
      intro i x
      by_cases hx : x.var = t
      · rw [if_pos (sEq_iff.2 hx), if_pos hx]
      · rw [if_neg (by rw [sEq_iff]; exact hx), if_neg hx]
    · rw [if_neg hv, if_neg hv]; rfl
theorem s_ValueOf_eq (b : List PairD) (t : ByteArray) : s_ValueOf b t = some (valR b t) := by
  unfold s_ValueOf
  rw [valR_eq, s_IsAtom_eq, Option.bind_some]
  unfold valueP
  by_cases ha : isAtomB t = true
  · rw [if_pos ha, if_pos ha]; rfl
  · rw [if_neg ha, if_neg ha]
    by_cases hv : isVarB t = true
    · rw [if_pos hv, get_loop]
      intro i x
      by_cases hx : x.var = t
      · rw [if_pos (sEq_iff.2 hx), if_pos hx, s_IsVar_eq, Option.bind_some, if_pos hv]
      · rw [if_neg (by rw [sEq_iff]; exact hx), if_neg hx]
    · rw [if_neg hv, forL_all (p := fun _ => true) (r := ((⟨#[]⟩ : ByteArray), false))]
      · simp [getR]
      · intro i x _
        rw [s_IsVar_eq, Option.bind_some, if_neg hv]
        split <;> rfl
theorem set_side {a v : ByteArray} : ((sLt a v || sEq a v) = true) ↔ ¬ sLt v a = true := by
  rw [Bool.or_eq_true, sEq_iff]
  constructor
  · rintro (h | h)
    · rw [sLt_asymm h]; simp
    · rw [h, sLt_irrefl]; simp
  · intro h
    by_cases e : a = v
    · exact .inr e
    · exact .inl (sLt_total (by simpa using h) (fun e2 => e e2.symm))
theorem set_loop {ρ : Type} {v w : ByteArray} {K : List PairD → Option ρ} {body : Nat → PairD → (List PairD × Bool) → Option ((List PairD × Bool) ⊕ ρ)} {fin : (List PairD × Bool) → Option ρ}
    (h1 : ∀ i x row, row.length ≤ 1000 → body i x (row, true) = some (.inl (row ++ [x], true)))
    (h2 : ∀ i x row, row.length ≤ 1000 → body i x (row, false) = if (sLt x.var v || sEq x.var v) = true then some (.inl (row ++ [x], false)) else some (.inl ((row ++ [{ var := v, value := w }]) ++ [x], true)))
    (h3 : ∀ row, row.length ≤ 1000 → fin (row, true) = K row) (h4 : ∀ row, row.length ≤ 1000 → fin (row, false) = K (row ++ [{ var := v, value := w }])) (b : List PairD) (hb : b.length ≤ 100) : forL body fin b 0 ([], false) = K (setP b v w) := by
  rw [forL_rec (fun l _ s => K (s.1 ++ (if s.2 = true then l else setP l v w))) (fun l _ s => s.1.length + 2 * l.length ≤ 900) ?_ ?_ b 0 ([], false) (by simp; omega)]
  · simp
  · rintro i ⟨row, done⟩ hI
    simp only [List.length_nil] at hI
    cases done with
    | true => rw [h3 row (by omega)]; simp
    | false => rw [h4 row (by omega)]; simp [setP]
  · rintro x l i ⟨row, done⟩ hI
    simp only [List.length_cons] at hI
    left
    cases done with
    | true => exact ⟨_, h1 i x row (by omega), by simp; omega, by simp⟩
    | false =>
      rw [h2 i x row (by omega)]
      by_cases hs : sLt v x.var = true
      · rw [if_neg (by rw [set_side]; simpa using hs)]
        exact ⟨_, rfl, by simp; omega, by simp [setP, hs]⟩
      · rw [if_pos (set_side.2 hs)]
        exact ⟨_, rfl, by simp; omega, by simp [setP, hs]⟩
def listR : Option (List PairD) → List PairD × Bool
  | some b => (b, true)
  | none => ([], false)
theorem extP_no {b : List PairD} {v w : ByteArray} (h : ¬ (isBindB b = true ∧ isVarB v = true ∧ isAtomB w = true)) : listR (extP b v w) = ([], false) := by
  unfold extP
  rw [if_neg h]
  rfl
theorem extP_yes {b : List PairD} {v w : ByteArray} (h1 : isBindB b = true) (h2 : isVarB v = true) (h3 : isAtomB w = true) : extP b v w = match getP b v with | some old => if old = w then some b else none | none => if b.length = 6 then none else some (setP b v w) := by
  unfold extP
  exact if_pos ⟨h1, h2, h3⟩
theorem isBindB_len {b : List PairD} (h : isBindB b = true) : b.length ≤ 6 := by
  unfold isBindB at h
  rw [Bool.and_eq_true, decide_eq_true_iff] at h
  exact h.1
theorem i_Extend_eq (b : List PairD) (v w : ByteArray) : i_Extend b v w = some (listR (extP b v w)) := by
  unfold i_Extend
  rw [i_IsBinding_eq, Option.bind_some]
  by_cases h1 : isBindB b = true
  · rw [if_pos h1, i_IsVar_eq, Option.bind_some]
    by_cases h2 : isVarB v = true
    · rw [if_pos h2, i_IsAtom_eq, Option.bind_some]
      by_cases h3 : isAtomB w = true
      · have h6 := isBindB_len h1
        rw [if_pos h3, i_ValueOf_eq, Option.bind_some, valR_eq, valueP_var h2]
        cases hg : getP b v with
        | some old =>
          have hx : extP b v w = if old = w then some b else none := by rw [extP_yes h1 h2 h3, hg]
          rw [hx]
          show (if true = true then (if sEq old w = true then _ else _) else _) = _
          rw [if_pos rfl]
          by_cases he : old = w
          · rw [if_pos (sEq_iff.2 he), if_pos he]
            unfold i_copyPairs
            rw [chk_pos _ (by omega)]
            rfl
          · rw [if_neg (by rw [sEq_iff]; exact he), if_neg he]
            rfl
        | none =>
          have hx : extP b v w = if b.length = 6 then none else some (setP b v w) := by rw [extP_yes h1 h2 h3, hg]
          rw [hx]
          show (if false = true then _ else _) = _
          rw [if_neg (by simp)]
          by_cases hl : b.length = 6
          · rw [if_pos (by simp; omega), if_pos hl]
            rfl
          · rw [if_neg (by simp; omega), if_neg hl]
            refine set_loop (K := fun r => some (r, true)) (fun i x row hr => ?_) (fun i x row hr => ?_) (fun row hr => ?_) (fun row hr => ?_) b (by omega)
            · show (if true = true then _ else _) = _
              rw [if_pos rfl, chk_pos _ (by omega)]
            · show (if false = true then _ else _) = _
              rw [if_neg (by simp)]
              split
              · rw [chk_pos _ (by omega)]
              · rw [chk_pos _ (by omega), chk_pos _ (by omega)]
            · show (if true = true then _ else _) = _
              rw [if_pos rfl]
            · show (if false = true then _ else _) = _
              rw [if_neg (by simp), chk_pos _ (by omega)]
      · rw [if_neg h3, extP_no (fun h => h3 h.2.2)]
    · rw [if_neg h2, extP_no (fun h => h2 h.2.1)]
  · rw [if_neg h1, extP_no (fun h => h1 h.1)]
theorem s_l3Set_eq (b : List PairD) (v w : ByteArray) (hb : b.length ≤ 100) : s_l3Set b v w = some (setP b v w) := by
  unfold s_l3Set
  refine set_loop (K := fun r => some r) (fun i x row hr => ?_) (fun i x row hr => ?_) (fun row hr => ?_) (fun row hr => ?_) b hb
  · show (if true = true then _ else _) = _
    rw [if_pos rfl, chk_pos _ (by omega)]
  · show (if false = true then _ else _) = _
    rw [if_neg (by simp)]
    split
    · rw [chk_pos _ (by omega)]
    · rw [chk_pos _ (by omega), chk_pos _ (by omega)]
  · show (if true = true then _ else _) = _
    rw [if_pos rfl]
  · show (if false = true then _ else _) = _
    rw [if_neg (by simp), chk_pos _ (by omega)]
theorem s_Extend_eq (b : List PairD) (v w : ByteArray) (hb : b.length ≤ 1048576) : s_Extend b v w = some (listR (extP b v w)) := by
  unfold s_Extend
  rw [s_IsBinding_eq b hb, Option.bind_some]
  by_cases h1 : isBindB b = true
  · rw [if_pos h1, s_IsVar_eq, Option.bind_some]
    by_cases h2 : isVarB v = true
    · rw [if_pos h2, s_IsAtom_eq, Option.bind_some]
      by_cases h3 : isAtomB w = true
      · have h6 := isBindB_len h1
        rw [if_pos h3, s_ValueOf_eq, Option.bind_some, valR_eq, valueP_var h2]
        cases hg : getP b v with
        | some old =>
          have hx : extP b v w = if old = w then some b else none := by rw [extP_yes h1 h2 h3, hg]
          rw [hx]
          show (if true = true then (if sEq old w = true then _ else _) else _) = _
          rw [if_pos rfl]
          by_cases he : old = w
          · rw [if_pos (sEq_iff.2 he), if_pos he]
            unfold s_l3Copy
            rw [chk_pos _ (by omega)]
            rfl
          · rw [if_neg (by rw [sEq_iff]; exact he), if_neg he]
            rfl
        | none =>
          have hx : extP b v w = if b.length = 6 then none else some (setP b v w) := by rw [extP_yes h1 h2 h3, hg]
          rw [hx]
          show (if false = true then _ else _) = _
          rw [if_neg (by simp)]
          by_cases hl : b.length = 6
          · rw [if_pos (by simp; omega), if_pos hl]
            rfl
          · rw [if_neg (by simp; omega), if_neg hl, s_l3Set_eq _ _ _ (by omega)]
            rfl
      · rw [if_neg h3, extP_no (fun h => h3 h.2.2)]
    · rw [if_neg h2, extP_no (fun h => h2 h.2.1)]
  · rw [if_neg h1, extP_no (fun h => h1 h.1)]
theorem match_loop {fa : List ByteArray} {body : Nat → ByteArray → List PairD → Option (List PairD ⊕ (List PairD × Bool))}
    (hb : ∀ i a w row, fa[i]? = some w → isBindB row = true → body i a row = if isAtomB a = true then (if a = w then some (.inl row) else some (.inr ([], false))) else (match extP row a w with | some r => some (.inl r) | none => some (.inr ([], false)))) :
    ∀ (l : List ByteArray) (i : Nat) (row : List PairD), i + l.length = fa.length → isBindB row = true → forL body (fun row => some (row, true)) l i row = some (listR (matchL l (fa.drop i) row))
  | [], i, row, _, _ => by simp [forL, matchL, listR]
  | a :: l, i, row, h, hr => by
    simp only [List.length_cons] at h
    have hi : i < fa.length := by omega
    have hw : fa[i]? = some fa[i] := List.getElem?_eq_getElem hi
    rw [List.drop_eq_getElem_cons hi]
    simp only [matchL]
    have e := hb i a _ row hw hr
    by_cases ha : isAtomB a = true
    · rw [if_pos ha] at e ⊢
      by_cases hq : a = fa[i]
      · rw [if_pos hq] at e ⊢
        rw [forL_next e]
        exact match_loop hb l (i + 1) row (by omega) hr
      · rw [if_neg hq] at e ⊢
        rw [forL_stop e]
        rfl
    · rw [if_neg ha] at e ⊢
      cases hx : extP row a fa[i] with
      | none =>
        rw [hx] at e
        rw [forL_stop e]
        rfl
      | some r =>
        rw [hx] at e
        rw [forL_next e, Option.bind_some]
        exact match_loop hb l (i + 1) r (by omega) (extP_ok hx).1
theorem i_MatchFact_eq (p : PatternD) (f : FactD) (b : List PairD) : i_MatchFact p f b = some (listR (matchP p f b)) := by
  unfold i_MatchFact matchP matchOkB
  rw [i_IsPattern_eq, Option.bind_some]
  cases h1 : isPatternB p with
  | false => rfl
  | true =>
    rw [if_pos rfl, i_IsFact_eq, Option.bind_some]
    cases h2 : isFactB f with
    | false => rfl
    | true =>
      rw [if_pos rfl, i_IsBinding_eq, Option.bind_some]
      cases h3 : isBindB b with
      | false => rfl
      | true =>
        rw [if_pos rfl]
        by_cases h4 : p.rel = f.rel
        · rw [if_pos (sEq_iff.2 h4), decide_eq_true h4]
          by_cases h5 : p.args.length = f.args.length
          · have h6 := isBindB_len h3
            rw [if_neg (by simp; omega), decide_eq_true h5]
            unfold i_copyPairs
            rw [chk_pos _ (by omega), Option.bind_some]
            rw [match_loop (fa := f.args) (fun i a w row hw hr => ?_) p.args 0 b (by omega) h3]
            · rfl
            · rw [i_IsAtom_eq, Option.bind_some, atI_nat, hw, Option.bind_some, Option.bind_some]
              split
              · by_cases hq : a = w
                · rw [if_pos (sEq_iff.2 hq), if_pos hq]
                · rw [if_neg (by rw [sEq_iff]; exact hq), if_neg hq]
              · rw [i_Extend_eq, Option.bind_some]
                cases extP row a w <;> rfl
          · rw [if_pos (by simp; omega), decide_eq_false h5]
            rfl
        · rw [if_neg (by rw [sEq_iff]; exact h4), decide_eq_false h4]
          rfl
theorem s_MatchFact_eq (p : PatternD) (f : FactD) (b : List PairD) (hb : b.length ≤ 1048576) : s_MatchFact p f b = some (listR (matchP p f b)) := by
  unfold s_MatchFact matchP matchOkB
  rw [s_IsPattern_eq, Option.bind_some]
  cases h1 : isPatternB p with
  | false => rfl
  | true =>
    rw [if_pos rfl, s_IsFact_eq, Option.bind_some]
    cases h2 : isFactB f with
    | false => rfl
    | true =>
      rw [if_pos rfl, s_IsBinding_eq b hb, Option.bind_some]
      cases h3 : isBindB b with
      | false => rfl
      | true =>
        rw [if_pos rfl]
        by_cases h4 : p.rel = f.rel
        · rw [if_pos (sEq_iff.2 h4), decide_eq_true h4]
          by_cases h5 : p.args.length = f.args.length
          · have h6 := isBindB_len h3
            rw [if_neg (by simp; omega), decide_eq_true h5]
            unfold s_l3Copy
            rw [chk_pos _ (by omega), Option.bind_some]
            rw [match_loop (fa := f.args) (fun i a w row hw hr => ?_) p.args 0 b (by omega) h3]
            · rfl
            · have hr6 := isBindB_len hr
              rw [s_IsAtom_eq, Option.bind_some, atI_nat, hw, Option.bind_some, Option.bind_some]
              split
              · by_cases hq : a = w
                · rw [if_pos (sEq_iff.2 hq), if_pos hq]
                · rw [if_neg (by rw [sEq_iff]; exact hq), if_neg hq]
              · rw [s_Extend_eq _ _ _ (by omega), Option.bind_some]
                cases extP row a w <;> rfl
          · rw [if_pos (by simp; omega), decide_eq_false h5]
            rfl
        · rw [if_neg (by rw [sEq_iff]; exact h4), decide_eq_false h4]
          rfl
def factR : Option FactD → FactD × Bool
  | some f => (f, true)
  | none => ({ rel := ⟨#[]⟩, args := [] }, false)
theorem inst_loop {b : List PairD} {rel : ByteArray} {body : Nat → ByteArray → List ByteArray → Option (List ByteArray ⊕ (FactD × Bool))} (hb : ∀ i a row, row.length ≤ 1048576 → body i a row = match valueP b a with | some v => some (.inl (row ++ [v])) | none => some (.inr ({ rel := ⟨#[]⟩, args := [] }, false))) (l : List ByteArray) (hl : l.length ≤ 1000000) :
    forL body (fun row => some ({ rel := rel, args := row }, true)) l 0 [] = some (factR ((instL l b).map fun l => { rel := rel, args := l })) := by
  rw [forL_rec (fun l _ row => some (factR ((instL l b).map fun l => { rel := rel, args := row ++ l }))) (fun l _ row => row.length + l.length ≤ 1048576) ?_ ?_ l 0 [] (by simp; omega)]
  · simp
  · intro i row _
    simp [instL, factR]
  · intro a l i row hI
    simp only [List.length_cons] at hI
    have e := hb i a row (by omega)
    cases hv : valueP b a with
    | none =>
      rw [hv] at e
      exact .inr ⟨_, e, by simp [instL, hv, factR]⟩
    | some v =>
      rw [hv] at e
      refine .inl ⟨_, e, by simp; omega, ?_⟩
      simp only [instL, hv, Option.bind_some, Option.map_map]
      cases instL l b <;> simp
theorem i_Instance_eq (p : PatternD) (b : List PairD) : i_Instance p b = some (factR (instP p b)) := by
  unfold i_Instance instP
  rw [i_IsPattern_eq, Option.bind_some]
  cases h1 : isPatternB p with
  | false => rfl
  | true =>
    rw [if_pos rfl, i_IsBinding_eq, Option.bind_some]
    cases h3 : isBindB b with
    | false => rfl
    | true =>
      have hl : p.args.length ≤ 3 := by unfold isPatternB at h1; simp at h1; exact h1.1.2
      rw [if_pos rfl, if_pos ⟨rfl, rfl⟩, inst_loop (b := b) (fun i a row hr => ?_) p.args (by omega)]
      rw [i_ValueOf_eq, Option.bind_some, valR_eq]
      cases valueP b a with
      | none => rfl
      | some v =>
        show (if true = true then _ else _) = _
        rw [if_pos rfl, chk_pos _ (by omega)]
        rfl
theorem s_Instance_eq (p : PatternD) (b : List PairD) (hb : b.length ≤ 1048576) : s_Instance p b = some (factR (instP p b)) := by
  unfold s_Instance instP
  rw [s_IsPattern_eq, Option.bind_some]
  cases h1 : isPatternB p with
  | false => rfl
  | true =>
    rw [if_pos rfl, s_IsBinding_eq b hb, Option.bind_some]
    cases h3 : isBindB b with
    | false => rfl
    | true =>
      have hl : p.args.length ≤ 3 := by unfold isPatternB at h1; simp at h1; exact h1.1.2
      rw [if_pos rfl, if_pos ⟨rfl, rfl⟩, inst_loop (b := b) (fun i a row hr => ?_) p.args (by omega)]
      rw [s_ValueOf_eq, Option.bind_some, valR_eq]
      cases valueP b a with
      | none => rfl
      | some v =>
        show (if true = true then _ else _) = _
        rw [if_pos rfl, chk_pos _ (by omega)]
        rfl
theorem listR_some (o : Option (List PairD)) : (listR o).2 = o.isSome := by cases o <;> rfl
theorem i_MatchingFacts_eq (p : PatternD) (b : List PairD) (F : List FactD) (hF : F.length ≤ 1048576) (ha : ∀ f ∈ F, f.args.length ≤ 1048576) : i_MatchingFacts p b F = some (matchingP p b F) := by
  unfold i_MatchingFacts matchingP
  rw [forL_filter (p := fun f => (matchP p f b).isSome)]
  · simp
  · intro j f s mf hs
    rw [i_MatchFact_eq, Option.bind_some, listR_some]
    split
    · rw [i_copyFact_eq f (ha f mf), Option.bind_some, chk_pos _ (by simp at hs; omega)]
    · rfl
theorem s_MatchingFacts_eq (p : PatternD) (b : List PairD) (F : List FactD) (hb : b.length ≤ 1048576) (hF : F.length ≤ 1048576) (ha : ∀ f ∈ F, f.args.length ≤ 1048576) : s_MatchingFacts p b F = some (matchingP p b F) := by
  unfold s_MatchingFacts matchingP
  rw [forL_filter (p := fun f => (matchP p f b).isSome)]
  · simp
  · intro j f s mf hs
    rw [s_MatchFact_eq _ _ _ hb, Option.bind_some, listR_some]
    split
    · rw [s_l2Copy_eq f (ha f mf), Option.bind_some, chk_pos _ (by simp at hs; omega)]
    · rfl
theorem i_HoldsTest_eq (x : CondD) (b : List PairD) : i_HoldsTest x b = some (holdsT x b) := by
  unfold i_HoldsTest holdsT i_IsTest
  rw [i_IsCond_eq, Option.bind_some]
  cases h1 : isCondB x with
  | false => rfl
  | true =>
    rw [if_pos rfl, Option.bind_some]
    by_cases h2 : 3 ≤ x.kind
    · rw [if_pos (by simpa using h2), i_IsBinding_eq, Option.bind_some]
      cases h3 : isBindB b with
      | false => simp
      | true =>
        rw [if_pos rfl, if_pos ⟨rfl, h2, rfl⟩, i_ValueOf_eq, Option.bind_some, i_ValueOf_eq, Option.bind_some, valR_eq, valR_eq]
        cases valueP b x.left with
        | none => rfl
        | some l =>
          cases valueP b x.right with
          | none => rfl
          | some r =>
            show (if true = true then (if true = true then (if (x.kind == 3) = true then some (sEq l r) else _) else _) else _) = some (testB x.kind l r)
            rw [if_pos rfl, if_pos rfl]
            unfold testB
            by_cases k3 : x.kind = 3
            · rw [if_pos (by simpa using k3), if_pos k3]; rfl
            · rw [if_neg (by simpa using k3), if_neg k3]
              by_cases k4 : x.kind = 4
              · rw [if_pos (by simpa using k4), if_pos k4]; rfl
              · rw [if_neg (by simpa using k4), if_neg k4, i_ParseInt_eq, Option.bind_some, i_ParseInt_eq, Option.bind_some]
                show (if (numR l).2 = true then (if (numR r).2 = true then some (decide ((numR l).1 < (numR r).1)) else some false) else some false) = _
                unfold numR numLt
                cases numN l <;> cases numN r <;> simp
    · rw [if_neg (by simpa using h2), if_neg (fun h => h2 h.2.1)]
theorem s_HoldsTest_eq (x : CondD) (b : List PairD) (hb : b.length ≤ 1048576) : s_HoldsTest x b = some (holdsT x b) := by
  unfold s_HoldsTest holdsT s_IsTest
  rw [s_IsCond_eq, Option.bind_some]
  cases h1 : isCondB x with
  | false => rfl
  | true =>
    rw [if_pos rfl, Option.bind_some]
    by_cases h2 : 3 ≤ x.kind
    · rw [if_pos (by simpa using h2), s_IsBinding_eq b hb, Option.bind_some]
      cases h3 : isBindB b with
      | false => simp
      | true =>
        rw [if_pos rfl, if_pos ⟨rfl, h2, rfl⟩, s_ValueOf_eq, Option.bind_some, s_ValueOf_eq, Option.bind_some, valR_eq, valR_eq]
        cases valueP b x.left with
        | none => rfl
        | some l =>
          cases valueP b x.right with
          | none => rfl
          | some r =>
            show (if true = true then (if true = true then (if (x.kind == 3) = true then some (sEq l r) else _) else _) else _) = some (testB x.kind l r)
            rw [if_pos rfl, if_pos rfl]
            unfold testB
            by_cases k3 : x.kind = 3
            · rw [if_pos (by simpa using k3), if_pos k3]; rfl
            · rw [if_neg (by simpa using k3), if_neg k3]
              by_cases k4 : x.kind = 4
              · rw [if_pos (by simpa using k4), if_pos k4]; rfl
              · rw [if_neg (by simpa using k4), if_neg k4]
                unfold s_IsNumber
                rw [s_ParseInt_eq, Option.bind_some, Option.bind_some]
                show (if (numR l).2 = true then ((s_ParseInt r).bind fun v1 => some v1.2).bind (fun v6 => if v6 = true then (s_CompareAtoms l r).bind fun v7 => some (decide (v7 < 0)) else some false) else some false) = _
                unfold numLt
                cases hl : numN l with
                | none => simp [numR, hl]
                | some m =>
                  rw [if_pos (by simp [numR, hl]), s_ParseInt_eq, Option.bind_some, Option.bind_some]
                  cases hr : numN r with
                  | none => simp [numR, hr]
                  | some n =>
                    have hd : decide (cmpA l r < 0) = decide (m < n) := by
                      have hc : cmpA l r = cmpN m n := by unfold cmpA; rw [hl, hr]
                      rw [hc, Bool.eq_iff_iff, decide_eq_true_iff, decide_eq_true_iff]
                      unfold cmpN
                      split
                      · omega
                      · split <;> omega
                    rw [if_pos (by simp [numR, hr]), s_CompareAtoms_eq, Option.bind_some, hd]
    · rw [if_neg (by simpa using h2), if_neg (fun h => h2 h.2.1)]
theorem i_HoldsCond_eq (x : CondD) (b : List PairD) (F : List FactD) (hF : F.length ≤ 1048576) (ha : ∀ f ∈ F, f.args.length ≤ 1048576) : i_HoldsCond x b F = some (holdsB x b F) := by
  unfold i_HoldsCond holdsB
  rw [i_IsCond_eq, Option.bind_some]
  cases h1 : isCondB x with
  | false => rfl
  | true =>
    rw [if_pos rfl, i_IsBinding_eq, Option.bind_some]
    cases h3 : isBindB b with
    | false => rfl
    | true =>
      rw [if_pos rfl, if_pos (show true = true ∧ true = true from ⟨rfl, rfl⟩)]
      by_cases k1 : x.kind = 1
      · rw [if_pos (by simpa using k1), if_pos k1, i_MatchingFacts_eq _ _ _ hF ha, Option.bind_some]
        congr 1
        rw [Bool.eq_iff_iff]; simp
      · rw [if_neg (by simpa using k1), if_neg k1]
        by_cases k2 : x.kind = 2
        · rw [if_pos (by simpa using k2), if_pos k2, i_MatchingFacts_eq _ _ _ hF ha, Option.bind_some, len0]
        · rw [if_neg (by simpa using k2), if_neg k2, i_HoldsTest_eq]
          rfl
theorem s_HoldsCond_eq (x : CondD) (b : List PairD) (F : List FactD) (hb : b.length ≤ 1048576) (hF : F.length ≤ 1048576) (ha : ∀ f ∈ F, f.args.length ≤ 1048576) : s_HoldsCond x b F = some (holdsB x b F) := by
  unfold s_HoldsCond holdsB
  rw [s_IsCond_eq, Option.bind_some]
  cases h1 : isCondB x with
  | false => rfl
  | true =>
    rw [if_pos rfl, s_IsBinding_eq b hb, Option.bind_some]
    cases h3 : isBindB b with
    | false => rfl
    | true =>
      rw [if_pos rfl, if_pos (show true = true ∧ true = true from ⟨rfl, rfl⟩)]
      by_cases k1 : x.kind = 1
      · rw [if_pos (by simpa using k1), if_pos k1, s_MatchingFacts_eq _ _ _ hb hF ha, Option.bind_some]
        congr 1
        rw [Bool.eq_iff_iff]; simp
      · rw [if_neg (by simpa using k1), if_neg k1]
        by_cases k2 : x.kind = 2
        · rw [if_pos (by simpa using k2), if_pos k2, s_MatchingFacts_eq _ _ _ hb hF ha, Option.bind_some, len0]
        · rw [if_neg (by simpa using k2), if_neg k2, s_HoldsTest_eq _ _ hb]
          rfl
end Go.Proofs.YtlkgkkacnoaeaaaGreatDoor

namespace Go.Proofs.YtlkgkkacnoaeaaaGreatDoor

theorem isRuleB_len {r : RuleD} (h : isRuleB r = true) : r.cond.length ≤ 4 ∧ r.thn.length ≤ 2 := by
  simp only [isRuleB, Bool.and_eq_true, decide_eq_true_eq] at h
  omega

def addsB (r : RuleD) : Bool := r.thn.all fun a => decide (a.kind = 1)

def boundB (r : RuleD) (i : Nat) (x : CondD) : Bool := !decide (x.kind = 2) || (condV x).all (hasT (boundV r i))

def isLogicalB (r : RuleD) : Bool := isRuleB r && allI (boundB r) r.cond 0 && addsB r

theorem s_l14Bound_eq (a b : List ByteArray) : s_l14Bound a b = some (a.all (hasT b)) := by
  unfold s_l14Bound
  rw [forL_all (p := hasT b) (r := false)]
  · cases a.all (hasT b) <;> rfl
  · intro i x _
    rw [s_l1HasText_eq, Option.bind_some]
    cases hasT b x <;> simp

theorem adds_loop {fin : Unit → Option Bool} {l : List ActionD} : forL (σ := Unit) (fun (_ : Nat) (x : ActionD) _ => if (x.kind != 1) = true then some (.inr false) else some (.inl ())) fin l 0 () = if (l.all fun a => decide (a.kind = 1)) = true then fin () else some false := by
  refine forL_all fun i x _ => ?_
  by_cases h : x.kind = 1
  · simp [h]
  · have : (x.kind != 1) = true := by simpa using h
    simp [this, h]

theorem i_onlyAdds_eq (r : RuleD) : i_onlyAdds r = some (addsB r) := by
  unfold i_onlyAdds addsB
  rw [adds_loop]
  cases r.thn.all fun a => decide (a.kind = 1) <;> rfl

theorem s_IsLogical_eq (r : RuleD) (h : SmallR r) : s_IsLogical r = some (isLogicalB r) := by
  unfold s_IsLogical isLogicalB
  rw [s_IsRule_eq r h, Option.bind_some]
  cases hr : isRuleB r with
  | false => simp
  | true =>
    have h4 := (isRuleB_len hr).1
    simp only [if_true, Bool.true_and]
    rw [forL_allI (p := boundB r) (r := false), adds_loop]
    · unfold addsB
      cases allI (boundB r) r.cond 0 <;> cases r.thn.all fun a => decide (a.kind = 1) <;> simp
    · intro j x hj
      rw [Nat.zero_add, s_CondVars_eq x (by have := h.ca x (List.mem_of_getElem? hj); omega), s_BoundVars_eq r _ h h4, Int.toNat_natCast]
      simp only [Option.bind_some, s_l14Bound_eq, boundB]
      by_cases hk : x.kind = 2
      · simp only [hk, beq_self_eq_true, if_true, decide_true, Bool.not_true, Bool.false_or]
        cases (condV x).all (hasT (boundV r j)) <;> simp
      · simp [hk]

theorem i_IsLogical_eq (r : RuleD) (h : SmallR r) : i_IsLogical r = some (isLogicalB r) := by
  unfold i_IsLogical isLogicalB
  rw [i_IsRule_eq r h, Option.bind_some, i_onlyAdds_eq]
  cases hr : isRuleB r with
  | false => simp
  | true =>
    have h4 := (isRuleB_len hr).1
    simp only [if_true, Bool.true_and, Option.bind_some]
    rw [forL_allI (p := boundB r) (r := false)]
    · cases allI (boundB r) r.cond 0 <;> cases addsB r <;> simp
    · intro j x hj
      rw [Nat.zero_add, i_CondVars_eq x (by have := h.ca x (List.mem_of_getElem? hj); omega), i_BoundVars_eq r _ h h4, Int.toNat_natCast]
      simp only [Option.bind_some, boundB]
      by_cases hk : x.kind = 2
      · simp only [hk, bne_self_eq_false, Bool.false_eq_true, if_false, decide_true, Bool.not_true, Bool.false_or]
        rw [forL_all (p := hasT (boundV r j)) (r := .inr false)]
        · cases (condV x).all (hasT (boundV r j)) <;> simp
        · intro k v _
          rw [i_hasText_eq, Option.bind_some]
          cases hasT (boundV r j) v <;> simp
      · have : (x.kind != 2) = true := by simpa using hk
        simp [hk, this]

theorem sum_mem {l : List Nat} {x : Nat} (h : x ∈ l) : x ≤ l.sum := by
  induction l with
  | nil => simp at h
  | cons a r ih =>
    rcases List.mem_cons.1 h with h | h
    · subst h; simp
    · have := ih h; simp; omega

theorem cost_mem {α : Type} {f : α → Nat} {l : List α} {n : Nat} (h : l.length + (l.map f).sum ≤ n) {x : α} (hx : x ∈ l) : f x ≤ n := by
  have := sum_mem (List.mem_map_of_mem (f := f) hx)
  omega

theorem condS_small {l : List CondD} (h : costCondS l ≤ 1048576) : l.length ≤ 1048576 ∧ ∀ x ∈ l, x.pattern.args.length ≤ 1048576 := by
  unfold costCondS at h
  refine ⟨by omega, fun x mx => ?_⟩
  have := cost_mem (f := costCond) h mx
  simp only [costCond, costPattern, costStrs] at this
  omega

theorem rule_small {r : RuleD} (h : costRule r ≤ 1048576) : SmallR r := by
  simp only [costRule] at h
  have h1 : costCondS r.cond ≤ 1048576 := by omega
  have h2 : costActionS r.thn ≤ 1048576 := by omega
  obtain ⟨a, b⟩ := condS_small h1
  refine ⟨a, ?_, b, fun x mx => ?_⟩
  · unfold costActionS at h2; omega
  · unfold costActionS at h2
    have := cost_mem (f := costAction) h2 mx
    simp only [costAction, costPattern, costStrs] at this
    omega

end Go.Proofs.YtlkgkkacnoaeaaaGreatDoor

namespace Go.Proofs.YtlkgkkacnoaeaaaGreatDoor
section
variable {α σ ρ : Type} {body : Nat → α → σ → Option (σ ⊕ ρ)}
/-- a loop that goes on with I, or stops with Q -/
theorem forL_preE (I : List α → σ → Prop) (Q : ρ → Prop) : ∀ (l pre : List α) (s : σ), I pre s → (∀ p x s, x ∈ l → p.length < pre.length + l.length → I p s → (∃ s', body p.length x s = some (.inl s') ∧ I (p ++ [x]) s') ∨ ∃ r, body p.length x s = some (.inr r) ∧ Q r) →
    (∃ s', (∀ fin : σ → Option ρ, forL body fin l pre.length s = fin s') ∧ I (pre ++ l) s') ∨ ∃ r, (∀ fin : σ → Option ρ, forL body fin l pre.length s = some r) ∧ Q r
  | [], pre, s, h, _ => .inl ⟨s, fun _ => rfl, by simpa using h⟩
  | x :: l, pre, s, h, hs => by
    rcases hs pre x s (by simp) (by simp) h with ⟨s', e, h'⟩ | ⟨r, e, h'⟩
    · rcases forL_preE I Q l (pre ++ [x]) s' h' fun p y s m hp hI => hs p y s (by simp [m]) (by simp at hp ⊢; omega) hI with ⟨s2, e2, h2⟩ | ⟨r, e2, h2⟩
      · refine .inl ⟨s2, fun fin => ?_, by simpa using h2⟩
        rw [forL_next e]
        simpa using e2 fin
      · refine .inr ⟨r, fun fin => ?_, h2⟩
        rw [forL_next e]
        simpa using e2 fin
    · exact .inr ⟨r, fun fin => forL_stop e, h'⟩
theorem forL_runE (I : List α → σ → Prop) (Q : ρ → Prop) (l : List α) (s : σ) (h : I [] s) (hs : ∀ p x s, x ∈ l → p.length < l.length → I p s → (∃ s', body p.length x s = some (.inl s') ∧ I (p ++ [x]) s') ∨ ∃ r, body p.length x s = some (.inr r) ∧ Q r) :
    (∃ s', (∀ fin : σ → Option ρ, forL body fin l 0 s = fin s') ∧ I l s') ∨ ∃ r, (∀ fin : σ → Option ρ, forL body fin l 0 s = some r) ∧ Q r := by
  have := forL_preE I Q l [] s h fun p x s m hp hI => hs p x s m (by simpa using hp) hI
  simpa using this
theorem forL_runA (I : List α → σ → Prop) (l : List α) (s : σ) (h : I [] s) (hs : ∀ p x s, x ∈ l → p.length < l.length → I p s → ∃ s', body p.length x s = some (.inl s') ∧ I (p ++ [x]) s') : ∃ s', (∀ fin : σ → Option ρ, forL body fin l 0 s = fin s') ∧ I l s' := by
  rcases forL_runE I (fun _ => False) l s h fun p x s m hp hI => .inl (hs p x s m hp hI) with h | ⟨_, _, h⟩
  · exact h
  · exact h.elim
end
/-- what a rule writes and reads -/
def writesL (r : RuleD) : List ByteArray := r.thn.filterMap fun x => if x.kind = 1 ∨ x.kind = 2 then some x.pattern.rel else none
def readsL (r : RuleD) : List ByteArray := r.cond.filterMap fun x => if x.kind = 1 ∨ x.kind = 2 then some x.pattern.rel else none
theorem writesL_len (r : RuleD) : (writesL r).length ≤ r.thn.length := List.length_filterMap_le _ _
theorem readsL_len (r : RuleD) : (readsL r).length ≤ r.cond.length := List.length_filterMap_le _ _
theorem i_WritesOf_eq (r : RuleD) (h : r.thn.length ≤ 1048576) : i_WritesOf r = some (sortedT (writesL r)) := by
  unfold i_WritesOf
  rw [forL_filterMap (g := fun x : ActionD => if x.kind = 1 ∨ x.kind = 2 then some x.pattern.rel else none)]
  · have := writesL_len r
    simp only [List.nil_append]
    show (i_SortedTexts (writesL r)).bind _ = _
    rw [i_SortedTexts_eq _ (by omega)]
    rfl
  · intro j x s _ hs
    simp at hs
    by_cases h1 : x.kind = 1
    · simp only [h1, beq_self_eq_true, if_true]; rw [chk_pos _ (by omega)]; rfl
    · by_cases h2 : x.kind = 2
      · have : ((2 : Int) == 1) = false := by decide
        simp only [h2, this, Bool.false_eq_true, if_false, beq_self_eq_true, if_true]; rw [chk_pos _ (by omega)]; rfl
      · simp [h1, h2]
theorem i_ReadsOf_eq (r : RuleD) (h : r.cond.length ≤ 1048576) : i_ReadsOf r = some (sortedT (readsL r)) := by
  unfold i_ReadsOf
  rw [forL_filterMap (g := fun x : CondD => if x.kind = 1 ∨ x.kind = 2 then some x.pattern.rel else none)]
  · have := readsL_len r
    simp only [List.nil_append]
    show (i_SortedTexts (readsL r)).bind _ = _
    rw [i_SortedTexts_eq _ (by omega)]
    rfl
  · intro j x s _ hs
    simp at hs
    by_cases h1 : x.kind = 1
    · simp only [h1, beq_self_eq_true, if_true]; rw [chk_pos _ (by omega)]; rfl
    · by_cases h2 : x.kind = 2
      · have : ((2 : Int) == 1) = false := by decide
        simp only [h2, this, Bool.false_eq_true, if_false, beq_self_eq_true, if_true]; rw [chk_pos _ (by omega)]; rfl
      · simp [h1, h2]
theorem fold_kind {α : Type} (kd : α → Int) (f : α → ByteArray) : ∀ (l : List α) (acc : List ByteArray), l.foldl (fun s x => if kd x = 1 ∨ kd x = 2 then putT s (f x) else s) acc = (l.filterMap fun x => if kd x = 1 ∨ kd x = 2 then some (f x) else none).foldl putT acc
  | [], _ => rfl
  | x :: l, acc => by
    rw [List.foldl_cons, fold_kind kd f l]
    by_cases h : kd x = 1 ∨ kd x = 2 <;> simp [h]
theorem s_WritesOf_eq (r : RuleD) (h : r.thn.length ≤ 1048576) : s_WritesOf r = some (sortedT (writesL r)) := by
  unfold s_WritesOf
  rw [forL_fold (f := fun s (x : ActionD) => if x.kind = 1 ∨ x.kind = 2 then putT s x.pattern.rel else s) (fun j s => s.length ≤ j) (by simp)]
  · congr 1
    exact fold_kind (fun x : ActionD => x.kind) (fun x => x.pattern.rel) r.thn []
  · intro j x s _ _ hl hI
    have := putT_len x.pattern.rel s
    by_cases h1 : x.kind = 1
    · simp only [h1, beq_self_eq_true, if_true, true_or]; rw [s_l1Put_eq _ _ (by omega)]; exact ⟨rfl, by omega⟩
    · by_cases h2 : x.kind = 2
      · have : ((2 : Int) == 1) = false := by decide
        simp only [h2, this, Bool.false_eq_true, if_false, beq_self_eq_true, if_true, or_true]; rw [s_l1Put_eq _ _ (by omega)]; exact ⟨rfl, by omega⟩
      · simp [h1, h2]; omega
theorem s_ReadsOf_eq (r : RuleD) (h : r.cond.length ≤ 1048576) : s_ReadsOf r = some (sortedT (readsL r)) := by
  unfold s_ReadsOf
  rw [forL_fold (f := fun s (x : CondD) => if x.kind = 1 ∨ x.kind = 2 then putT s x.pattern.rel else s) (fun j s => s.length ≤ j) (by simp)]
  · congr 1
    exact fold_kind (fun x : CondD => x.kind) (fun x => x.pattern.rel) r.cond []
  · intro j x s _ _ hl hI
    have := putT_len x.pattern.rel s
    by_cases h1 : x.kind = 1
    · simp only [h1, beq_self_eq_true, if_true, true_or]; rw [s_l1Put_eq _ _ (by omega)]; exact ⟨rfl, by omega⟩
    · by_cases h2 : x.kind = 2
      · have : ((2 : Int) == 1) = false := by decide
        simp only [h2, this, Bool.false_eq_true, if_false, beq_self_eq_true, if_true, or_true]; rw [s_l1Put_eq _ _ (by omega)]; exact ⟨rfl, by omega⟩
      · simp [h1, h2]; omega
/-- one relation depends on another one at once -/
def StepR (R : List RuleD) (x y : ByteArray) : Prop := ∃ r ∈ R, x ∈ writesL r ∧ y ∈ readsL r
inductive Reach (R : List RuleD) (a : ByteArray) : ByteArray → Prop
  | one {y : ByteArray} : StepR R a y → Reach R a y
  | next {x y : ByteArray} : Reach R a x → StepR R x y → Reach R a y
theorem Reach.step {R : List RuleD} {a x y : ByteArray} (hx : x = a ∨ Reach R a x) (h : StepR R x y) : Reach R a y := by
  rcases hx with rfl | hx
  · exact .one h
  · exact .next hx h
structure SmallRs (R : List RuleD) : Prop where
  s : ∀ r ∈ R, SmallR r
  n : (R.flatMap readsL).length ≤ 1048576
theorem mget_put {m : List (ByteArray × Bool)} {k y : ByteArray} : mGetD (mPut m k true) y false = if y = k then true else mGetD m y false := by
  unfold mGetD
  induction m with
  | nil =>
    by_cases h : y = k <;> simp [mPut, mGet, h]
  | cons p r ih =>
    simp only [mPut]
    by_cases h : k = p.1
    · subst h
      rw [if_pos rfl]
      by_cases h2 : y = p.1
      · simp [mGet, h2]
      · simp [mGet, h2]
    · rw [if_neg h]
      by_cases h2 : y = p.1
      · subst h2
        have : ¬ p.1 = k := fun e => h e.symm
        simp [mGet, this]
      · simp only [mGet, if_neg h2]; exact ih
def Seen (m : List (ByteArray × Bool)) (y : ByteArray) : Prop := mGetD m y false = true
def unseen (U : List ByteArray) (m : List (ByteArray × Bool)) : Nat := U.countP fun y => !mGetD m y false
theorem countP_lt {α : Type} {p q : α → Bool} : ∀ {l : List α}, (∀ x ∈ l, p x = true → q x = true) → ∀ y ∈ l, p y = false → q y = true → l.countP p + 1 ≤ l.countP q
  | x :: l, h, y, hy, h1, h2 => by
    rw [List.countP_cons, List.countP_cons]
    have hle : l.countP p ≤ l.countP q := List.countP_mono_left fun z mz => h z (by simp [mz])
    have hx := h x (by simp)
    rcases List.mem_cons.1 hy with rfl | hy
    · simp [h1, h2]; omega
    · have ih := countP_lt (p := p) (q := q) (l := l) (fun z mz => h z (by simp [mz])) y hy h1 h2
      cases hp : p x with
      | true => simp [hx hp]; omega
      | false => cases q x <;> simp <;> omega
/-- what the queue's state grows to -/
structure Grow (U : List ByteArray) (P : ByteArray → Prop) (s0 s : List (ByteArray × Bool) × List ByteArray) : Prop where
  mono : ∀ y, Seen s0.1 y → Seen s.1 y
  fresh : ∀ y, Seen s.1 y → Seen s0.1 y ∨ (P y ∧ y ∈ s.2)
  sub : ∀ y ∈ s0.2, y ∈ s.2
  row : ∀ y ∈ s.2, y ∈ s0.2 ∨ Seen s.1 y
  cnt : unseen U s.1 + s.2.length ≤ unseen U s0.1 + s0.2.length
theorem Grow.refl (U : List ByteArray) (P : ByteArray → Prop) (s : List (ByteArray × Bool) × List ByteArray) : Grow U P s s := ⟨fun _ h => h, fun _ h => .inl h, fun _ h => h, fun _ h => .inl h, Nat.le_refl _⟩
theorem Grow.push {U : List ByteArray} {P : ByteArray → Prop} {s0 : List (ByteArray × Bool) × List ByteArray} {m : List (ByteArray × Bool)} {row : List ByteArray} (h : Grow U P s0 (m, row)) {y : ByteArray} (hy : mGetD m y false = false) (hU : y ∈ U) (hP : P y) : Grow U P s0 (mPut m y true, row ++ [y]) := by
  have hS : ∀ z, Seen (mPut m y true) z ↔ z = y ∨ Seen m z := fun z => by
    unfold Seen
    rw [mget_put]
    by_cases e : z = y <;> simp [e]
  refine ⟨fun z hz => (hS z).2 (.inr (h.mono z hz)), fun z hz => ?_, fun z hz => List.mem_append.2 (.inl (h.sub z hz)), fun z hz => ?_, ?_⟩
  · rcases (hS z).1 hz with rfl | hz
    · exact .inr ⟨hP, by simp⟩
    · exact (h.fresh z hz).imp id fun ⟨a, b⟩ => ⟨a, List.mem_append.2 (.inl b)⟩
  · rcases List.mem_append.1 hz with hz | hz
    · exact (h.row z hz).imp id fun hh => (hS z).2 (.inr hh)
    · exact .inr ((hS z).2 (.inl (by simpa using hz)))
  · have h1 := h.cnt
    have h2 : unseen U (mPut m y true) + 1 ≤ unseen U m := countP_lt (fun z _ hz => by
      rw [mget_put] at hz
      by_cases e : z = y
      · simp [e] at hz
      · simpa [e] using hz) y hU (by rw [mget_put]; simp) (by simp [hy])
    show _ + (row ++ [y]).length ≤ _
    rw [List.length_append]
    simp only at h1 ⊢
    simp
    omega
theorem iter_step {σ ρ : Type} {body : σ → Option (σ ⊕ ρ)} {s s' : σ} (h : body s = some (.inl s')) : iter body s = iter body s' := by rw [iter_eq, h]
theorem iter_stop {σ ρ : Type} {body : σ → Option (σ ⊕ ρ)} {s : σ} {r : ρ} (h : body s = some (.inr r)) : iter body s = some r := by rw [iter_eq, h]
/-- the queue -/
theorem i_relReach_eq {R : List RuleD} (hR : SmallRs R) (a : ByteArray) : ∃ m, i_relReach R a = some m ∧ ∀ y, Seen m y ↔ Reach R a y := by
  have hU : ∀ r ∈ R, ∀ y ∈ readsL r, y ∈ R.flatMap readsL := fun r mr y my => List.mem_flatMap.2 ⟨r, mr, my⟩
  have key : ∀ (n : Nat) (m : List (ByteArray × Bool)) (row : List ByteArray), unseen (R.flatMap readsL) m + row.length ≤ n → n ≤ 1048577 → (∀ y, Seen m y → Reach R a y) → (∀ y ∈ row, y = a ∨ Seen m y) → (∀ z, (z = a ∨ Seen m z) → z ∈ row ∨ ∀ y, StepR R z y → Seen m y) →
      ∃ m', iter (σ := (List (ByteArray × Bool)) × (List ByteArray)) (fun s =>
      match s with
      | (mp_42, row_43) =>
      if (decide (0 < ((row_43.length : Nat) : Int))) = true then
        chk (0 ≤ 0 ∧ 0 < ((row_43.length : Nat) : Int)) <|
        (row_43[(Int.toNat 0)]?).bind fun x44 =>
        chk (0 ≤ 1 ∧ 1 ≤ ((row_43.length : Nat) : Int)) <|
        forL (σ := (List (ByteArray × Bool)) × (List ByteArray))
          (fun (i72 : Nat) (x73 : RuleD) s =>
            match s with
            | (mp_57, row_58) =>
            (i_WritesOf x73).bind fun v74 =>
            (i_hasText v74 x44).bind fun v75 =>
            if v75 = true then
              (i_ReadsOf x73).bind fun v76 =>
              forL (σ := (List (ByteArray × Bool)) × (List ByteArray))
                (fun (i83 : Nat) (x84 : ByteArray) s =>
                  match s with
                  | (mp_80, row_81) =>
                  if (mGetD mp_80 x84 false) = true then
                    some (.inl (mp_80, row_81))
                  else
                    chk (row_81.length + 1 ≤ 1073741824) <|
                    some (.inl ((mPut mp_80 x84 true), (row_81 ++ [x84]))))
                (fun s =>
                  match s with
                  | (mp_80, row_81) =>
                  some (.inl (mp_80, row_81)))
                v76 0 (mp_57, row_58)
            else
              some (.inl (mp_57, row_58)))
          (fun s =>
            match s with
            | (mp_57, row_58) =>
            some (.inl (mp_57, row_58)))
          R 0 (mp_42, (List.drop (Int.toNat 1) row_43))
      else
        some (.inr mp_42)) (m, row) = some m' ∧ ∀ y, Seen m' y ↔ Reach R a y := by
    intro n
    induction n with
    | zero =>
      intro m row hn _ h1 h2 h3
      have hr : row = [] := List.eq_nil_of_length_eq_zero (by omega)
      subst hr
      refine ⟨m, by rw [iter_eq]; rfl, fun y => ⟨h1 y, fun hy => ?_⟩⟩
      induction hy with
      | one h => exact ((h3 _ (.inl rfl)).resolve_left (by simp)) _ h
      | next _ h ih => exact ((h3 _ (.inr ih)).resolve_left (by simp)) _ h
    | succ n ih =>
      intro m row hn hN h1 h2 h3
      cases row with
      | nil =>
        refine ⟨m, by rw [iter_eq]; rfl, fun y => ⟨h1 y, fun hy => ?_⟩⟩
        induction hy with
        | one h => exact ((h3 _ (.inl rfl)).resolve_left (by simp)) _ h
        | next _ h ih => exact ((h3 _ (.inr ih)).resolve_left (by simp)) _ h
      | cons x rest =>
        have hx : x = a ∨ Reach R a x := (h2 x (by simp)).imp id (h1 x)
        have hn' : unseen (R.flatMap readsL) m + rest.length ≤ n := by simp at hn; omega
        obtain ⟨s', e, hg, hd⟩ := forL_runA (ρ := ((List (ByteArray × Bool)) × (List ByteArray)) ⊕ (List (ByteArray × Bool))) (body := fun (i72 : Nat) (x73 : RuleD) (s : (List (ByteArray × Bool)) × (List ByteArray)) =>
            match s with
            | (mp_57, row_58) =>
            (i_WritesOf x73).bind fun v74 =>
            (i_hasText v74 x).bind fun v75 =>
            if v75 = true then
              (i_ReadsOf x73).bind fun v76 =>
              forL (σ := (List (ByteArray × Bool)) × (List ByteArray))
                (fun (i83 : Nat) (x84 : ByteArray) s =>
                  match s with
                  | (mp_80, row_81) =>
                  if (mGetD mp_80 x84 false) = true then
                    some (.inl (mp_80, row_81))
                  else
                    chk (row_81.length + 1 ≤ 1073741824) <|
                    some (.inl ((mPut mp_80 x84 true), (row_81 ++ [x84]))))
                (fun s =>
                  match s with
                  | (mp_80, row_81) =>
                  some (.inl (mp_80, row_81)))
                v76 0 (mp_57, row_58)
            else
              some (.inl (mp_57, row_58))) (fun pre s => Grow (R.flatMap readsL) (Reach R a) (m, rest) s ∧ ∀ r ∈ pre, x ∈ writesL r → ∀ y ∈ readsL r, Seen s.1 y) R (m, rest) ⟨Grow.refl _ _ _, by simp⟩ fun p r s mr hp hI => by
          obtain ⟨mp, rw_⟩ := s
          obtain ⟨hg, hd⟩ := hI
          have hsm := hR.s r mr
          show ∃ s', (i_WritesOf r).bind _ = _ ∧ _
          rw [i_WritesOf_eq r hsm.tl]
          simp only [Option.bind_some]
          rw [i_hasText_eq]
          simp only [Option.bind_some]
          by_cases hw : x ∈ writesL r
          · have hh : hasT (sortedT (writesL r)) x = true := by rw [hasT_iff, mem_sortedT]; exact hw
            rw [if_pos hh, i_ReadsOf_eq r hsm.cl]
            simp only [Option.bind_some]
            obtain ⟨s2, e2, hg2, hd2⟩ := forL_runA (ρ := ((List (ByteArray × Bool)) × (List ByteArray)) ⊕ (((List (ByteArray × Bool)) × (List ByteArray)) ⊕ (List (ByteArray × Bool)))) (body := fun (i83 : Nat) (x84 : ByteArray) (s : (List (ByteArray × Bool)) × (List ByteArray)) =>
                  match s with
                  | (mp_80, row_81) =>
                  if (mGetD mp_80 x84 false) = true then
                    some (.inl (mp_80, row_81))
                  else
                    chk (row_81.length + 1 ≤ 1073741824) <|
                    some (.inl ((mPut mp_80 x84 true), (row_81 ++ [x84])))) (fun pre s => Grow (R.flatMap readsL) (Reach R a) (m, rest) s ∧ (∀ y, Seen mp y → Seen s.1 y) ∧ ∀ y ∈ pre, Seen s.1 y) (sortedT (readsL r)) (mp, rw_) ⟨hg, fun _ h => h, by simp⟩ fun p y s my hp hI => by
              obtain ⟨m2, row2⟩ := s
              obtain ⟨g2, g3, g4⟩ := hI
              have hyr : y ∈ readsL r := mem_sortedT.1 my
              by_cases hs : mGetD m2 y false = true
              · refine ⟨(m2, row2), by simp only [hs, if_true], g2, g3, fun z mz => ?_⟩
                rcases List.mem_append.1 mz with mz | mz
                · exact g4 z mz
                · rw [List.mem_singleton.1 mz]; exact hs
              · have hf : mGetD m2 y false = false := by simpa using hs
                have hc := g2.cnt
                have hG := g2.push hf (hU r mr y hyr) (Reach.step hx ⟨r, mr, hw, hyr⟩)
                have hmono : ∀ z, Seen m2 z → Seen (mPut m2 y true) z := fun z hz => by
                  unfold Seen at *; rw [mget_put]; by_cases e : z = y <;> simp [e, hz]
                refine ⟨(mPut m2 y true, row2 ++ [y]), ?_, hG, fun z hz => hmono z (g3 z hz), fun z mz => ?_⟩
                · simp only [hf, Bool.false_eq_true, if_false]
                  rw [chk_pos _ (by simp only at hc; omega)]
                · rcases List.mem_append.1 mz with mz | mz
                  · exact hmono z (g4 z mz)
                  · rw [List.mem_singleton.1 mz]; unfold Seen; rw [mget_put]; simp
            refine ⟨s2, by rw [e2], hg2, fun q mq hq y my => ?_⟩
            rcases List.mem_append.1 mq with mq | mq
            · exact hd2.1 y (hd q mq hq y my)
            · rw [List.mem_singleton.1 mq] at my
              exact hd2.2 y (mem_sortedT.2 my)
          · have hh : hasT (sortedT (writesL r)) x = false := by
              cases hq : hasT (sortedT (writesL r)) x with
              | false => rfl
              | true => rw [hasT_iff, mem_sortedT] at hq; exact absurd hq hw
            refine ⟨(mp, rw_), by rw [if_neg (by rw [hh]; simp)], hg, fun q mq hq => ?_⟩
            rcases List.mem_append.1 mq with mq | mq
            · exact hd q mq hq
            · rw [List.mem_singleton.1 mq] at hq; exact absurd hq hw
        obtain ⟨m', row'⟩ := s'
        obtain ⟨m2, r1, r2⟩ := ih m' row' (by have := hg.cnt; simp only at this; omega) (by omega)
          (fun y hy => (hg.fresh y hy).elim (h1 y) fun h => h.1)
          (fun y hy => by
            rcases hg.row y hy with h | h
            · exact (h2 y (by simp [show y ∈ rest from h])).imp id (hg.mono y)
            · exact .inr h)
          (fun z hz => by
            have old : (z = a ∨ Seen m z) → z ∈ row' ∨ ∀ y, StepR R z y → Seen m' y := fun hz => by
              rcases h3 z hz with h | h
              · rcases List.mem_cons.1 h with rfl | h
                · exact .inr fun y ⟨r, mr, hw, hy⟩ => hd r mr hw y hy
                · exact .inl (hg.sub z h)
              · exact .inr fun y hy => hg.mono y (h y hy)
            rcases hz with hz | hz
            · exact old (.inl hz)
            · rcases hg.fresh z hz with h | ⟨_, h⟩
              · exact old (.inr h)
              · exact .inl h)
        refine ⟨m2, (iter_step ?_).trans r1, r2⟩
        show (if decide (0 < (((x :: rest).length : Nat) : Int)) = true then _ else _) = _
        rw [if_pos (decide_eq_true (by simp only [List.length_cons]; omega)), chk_pos _ (by simp only [List.length_cons]; omega)]
        show chk _ (forL _ _ R 0 (m, rest)) = _
        rw [chk_pos _ (by simp only [List.length_cons]; omega)]
        exact e _
  unfold i_relReach
  refine key (unseen (R.flatMap readsL) [] + 1) [] [a] (by simp) ?_ (fun y hy => by simp [Seen, mGetD, mGet] at hy) (fun y hy => .inl (by simpa using hy)) (fun z hz => .inl ?_)
  · have := hR.n
    have h2 : unseen (R.flatMap readsL) [] ≤ (R.flatMap readsL).length := List.countP_le_length
    omega
  · rcases hz with rfl | hz
    · simp
    · simp [Seen, mGetD, mGet] at hz
/-- names that are not in a list yet -/
def absent (U row : List ByteArray) : Nat := U.countP fun y => !hasT row y
theorem hasT_snoc {row : List ByteArray} {y z : ByteArray} : hasT (row ++ [y]) z = true ↔ hasT row z = true ∨ z = y := by
  rw [hasT_iff, hasT_iff, List.mem_append, List.mem_singleton]
theorem absent_snoc {U row : List ByteArray} {y : ByteArray} (hU : y ∈ U) (hy : hasT row y = false) : absent U (row ++ [y]) + 1 ≤ absent U row :=
  countP_lt (fun z _ hz => by
    cases h : hasT row z with
    | false => rfl
    | true => have := hasT_snoc (y := y).2 (.inl h); rw [this] at hz; simp at hz) y hU (by have := hasT_snoc (row := row) (y := y) (z := y).2 (.inr rfl); rw [this]; rfl) (by rw [hy]; rfl)
open Classical
/-- the list -/
theorem s_RelDepends_eq {R : List RuleD} (hR : SmallRs R) (a b : ByteArray) : s_RelDepends R a b = some (decide (Reach R a b)) := by
  have hU : ∀ r ∈ R, ∀ y ∈ readsL r, y ∈ R.flatMap readsL := fun r mr y my => List.mem_flatMap.2 ⟨r, mr, my⟩
  unfold s_RelDepends
  have key : ∀ (n u : Nat) (row : List ByteArray), absent (R.flatMap readsL) row + row.length ≤ n + u → n + u ≤ 1048577 → u ≤ row.length → (∀ y ∈ row, y = a ∨ Reach R a y) → a ∈ row → (∀ i x, i < u → row[i]? = some x → ∀ y, StepR R x y → y ∈ row ∧ y ≠ b) →
      iter (σ := (List ByteArray) × Int)
    (fun s =>
      match s with
      | (row_55, u_56) =>
      if (decide (u_56 < ((row_55.length : Nat) : Int))) = true then
        forL (σ := (List ByteArray))
          (fun (i93 : Nat) (x94 : RuleD) row_74 =>
            (s_WritesOf x94).bind fun v95 =>
            chk (0 ≤ u_56 ∧ u_56 < ((row_74.length : Nat) : Int)) <|
            (row_74[(Int.toNat u_56)]?).bind fun x96 =>
            (s_l1HasText v95 x96).bind fun v97 =>
            if v97 = true then
              (s_ReadsOf x94).bind fun v98 =>
              (s_l1HasText v98 b).bind fun v99 =>
              if v99 = true then
                some (.inr (.inr true))
              else
                forL (σ := (List ByteArray))
                  (fun (i108 : Nat) (x109 : ByteArray) row_105 =>
                    (s_l1HasText row_105 x109).bind fun v110 =>
                    if v110 = true then
                      some (.inl row_105)
                    else
                      chk (row_105.length + 1 ≤ 1073741824) <|
                      some (.inl (row_105 ++ [x109])))
                  (fun row_105 =>
                    some (.inl row_105))
                  v98 0 row_74
            else
              some (.inl row_74))
          (fun row_74 =>
            some (.inl (row_74, (IntKind.i64.wrap (u_56 + 1)))))
          R 0 row_55
      else
        some (.inr false))
    (row, ((u : Nat) : Int)) = some (decide (Reach R a b)) := by
    intro n
    have fin : ∀ (u : Nat) (row : List ByteArray), u = row.length → a ∈ row → (∀ i x, i < u → row[i]? = some x → ∀ y, StepR R x y → y ∈ row ∧ y ≠ b) → ¬ Reach R a b := fun u row hu ha hc hb => by
      have all : ∀ y, Reach R a y → y ∈ row ∧ y ≠ b := fun y hy => by
        have one : ∀ x, x ∈ row → ∀ y, StepR R x y → y ∈ row ∧ y ≠ b := fun x mx y h => by
          obtain ⟨i, hi⟩ := List.mem_iff_getElem?.1 mx
          exact hc i x (by rw [hu]; exact (List.getElem?_eq_some_iff.1 hi).1) hi y h
        induction hy with
        | one h => exact one a ha _ h
        | next _ h ih => exact one _ ih.1 _ h
      exact (all b hb).2 rfl
    have stop : ∀ (u : Nat) (row : List ByteArray), u = row.length → a ∈ row → (∀ i x, i < u → row[i]? = some x → ∀ y, StepR R x y → y ∈ row ∧ y ≠ b) → decide (Reach R a b) = false := fun u row h1 h2 h3 => decide_eq_false (fin u row h1 h2 h3)
    induction n with
    | zero =>
      intro u row hn _ hu h1 ha hc
      have hu' : u = row.length := by omega
      rw [stop u row hu' ha hc]
      refine iter_stop ?_
      show (if decide (((u : Nat) : Int) < ((row.length : Nat) : Int)) = true then _ else _) = _
      rw [if_neg (by rw [decide_eq_true_iff]; omega)]
    | succ n ih =>
      intro u row hn hN hu h1 ha hc
      by_cases hlt : u < row.length
      · have hx : row[u]? = some row[u] := List.getElem?_eq_getElem hlt
        generalize row[u] = x at hx
        have hxr : x = a ∨ Reach R a x := h1 x (List.mem_of_getElem? hx)
        rcases forL_runE (ρ := ((List ByteArray) × Int) ⊕ Bool) (body := fun (i93 : Nat) (x94 : RuleD) (row_74 : List ByteArray) =>
            (s_WritesOf x94).bind fun v95 =>
            chk (0 ≤ ((u : Nat) : Int) ∧ ((u : Nat) : Int) < ((row_74.length : Nat) : Int)) <|
            (row_74[(Int.toNat ((u : Nat) : Int))]?).bind fun x96 =>
            (s_l1HasText v95 x96).bind fun v97 =>
            if v97 = true then
              (s_ReadsOf x94).bind fun v98 =>
              (s_l1HasText v98 b).bind fun v99 =>
              if v99 = true then
                some (.inr (.inr true))
              else
                forL (σ := (List ByteArray))
                  (fun (i108 : Nat) (x109 : ByteArray) row_105 =>
                    (s_l1HasText row_105 x109).bind fun v110 =>
                    if v110 = true then
                      some (.inl row_105)
                    else
                      chk (row_105.length + 1 ≤ 1073741824) <|
                      some (.inl (row_105 ++ [x109])))
                  (fun row_105 =>
                    some (.inl row_105))
                  v98 0 row_74
            else
              some (.inl row_74)) (fun pre r2 => (∃ q, r2 = row ++ q) ∧ absent (R.flatMap readsL) r2 + r2.length ≤ n + 1 + u ∧ (∀ y ∈ r2, y = a ∨ Reach R a y) ∧ ∀ r ∈ pre, x ∈ writesL r → ∀ y ∈ readsL r, y ∈ r2 ∧ y ≠ b) (fun z => z = .inr true ∧ Reach R a b) R row ⟨⟨[], by simp⟩, hn, h1, by simp⟩ fun p r r2 mr hp hI => by
          obtain ⟨⟨q, rfl⟩, g1, g2, g3⟩ := hI
          have hsm := hR.s r mr
          have hxq : (row ++ q)[u]? = some x := by rw [List.getElem?_append_left hlt]; exact hx
          rw [s_WritesOf_eq r hsm.tl, Option.bind_some, chk_pos _ (by simp; omega), Int.toNat_natCast, hxq, Option.bind_some, s_l1HasText_eq, Option.bind_some]
          by_cases hw : x ∈ writesL r
          · have hh : hasT (sortedT (writesL r)) x = true := by rw [hasT_iff, mem_sortedT]; exact hw
            rw [if_pos hh, s_ReadsOf_eq r hsm.cl, Option.bind_some, s_l1HasText_eq, Option.bind_some]
            by_cases hb : b ∈ readsL r
            · have hh : hasT (sortedT (readsL r)) b = true := by rw [hasT_iff, mem_sortedT]; exact hb
              rw [if_pos hh]
              exact .inr ⟨_, rfl, rfl, Reach.step hxr ⟨r, mr, hw, hb⟩⟩
            · have hh : ¬ hasT (sortedT (readsL r)) b = true := by rw [hasT_iff, mem_sortedT]; exact hb
              rw [if_neg hh]
              obtain ⟨r3, e3, ⟨q3, hq3⟩, k1, k2, k3⟩ := forL_runA (ρ := (List ByteArray) ⊕ (((List ByteArray) × Int) ⊕ Bool)) (body := fun (i108 : Nat) (x109 : ByteArray) (row_105 : List ByteArray) =>
                    (s_l1HasText row_105 x109).bind fun v110 =>
                    if v110 = true then
                      some (.inl row_105)
                    else
                      chk (row_105.length + 1 ≤ 1073741824) <|
                      some (.inl (row_105 ++ [x109]))) (fun pre r3 => (∃ q', r3 = (row ++ q) ++ q') ∧ absent (R.flatMap readsL) r3 + r3.length ≤ n + 1 + u ∧ (∀ y ∈ r3, y = a ∨ Reach R a y) ∧ ∀ y ∈ pre, y ∈ r3) (sortedT (readsL r)) (row ++ q) ⟨⟨[], by simp⟩, g1, g2, by simp⟩ fun p y r3 my hp hI => by
                obtain ⟨⟨q', rfl⟩, k1, k2, k3⟩ := hI
                have hyr : y ∈ readsL r := mem_sortedT.1 my
                rw [s_l1HasText_eq, Option.bind_some]
                by_cases hh : hasT (row ++ q ++ q') y = true
                · rw [if_pos hh]
                  refine ⟨_, rfl, ⟨q', rfl⟩, k1, k2, fun z mz => ?_⟩
                  rcases List.mem_append.1 mz with mz | mz
                  · exact k3 z mz
                  · rw [List.mem_singleton.1 mz]; exact hasT_iff.1 hh
                · have hf : hasT (row ++ q ++ q') y = false := by simpa using hh
                  have hab := absent_snoc (hU r mr y hyr) hf
                  rw [if_neg hh, chk_pos _ (by omega)]
                  refine ⟨_, rfl, ⟨q' ++ [y], by simp⟩, by rw [List.length_append]; simp only [List.length_singleton]; omega, fun z mz => ?_, fun z mz => ?_⟩
                  · rcases List.mem_append.1 mz with mz | mz
                    · exact k2 z mz
                    · rw [List.mem_singleton.1 mz]; exact .inr (Reach.step hxr ⟨r, mr, hw, hyr⟩)
                  · rcases List.mem_append.1 mz with mz | mz
                    · exact List.mem_append.2 (.inl (k3 z mz))
                    · exact List.mem_append.2 (.inr mz)
              refine .inl ⟨r3, e3 _, ⟨q ++ q3, by rw [hq3]; simp⟩, k1, k2, fun r' mr' hw' y my => ?_⟩
              rcases List.mem_append.1 mr' with mr' | mr'
              · have := g3 r' mr' hw' y my
                exact ⟨by rw [hq3]; exact List.mem_append.2 (.inl this.1), this.2⟩
              · rw [List.mem_singleton.1 mr'] at my
                exact ⟨k3 y (mem_sortedT.2 my), fun e => hb (e ▸ my)⟩
          · have hh : ¬ hasT (sortedT (writesL r)) x = true := by rw [hasT_iff, mem_sortedT]; exact hw
            rw [if_neg hh]
            refine .inl ⟨_, rfl, ⟨q, rfl⟩, g1, g2, fun r' mr' hw' => ?_⟩
            rcases List.mem_append.1 mr' with mr' | mr'
            · exact g3 r' mr' hw'
            · rw [List.mem_singleton.1 mr'] at hw'; exact absurd hw' hw
        with ⟨r2, e, ⟨q, rfl⟩, k1, k2, k3⟩ | ⟨z, e, rfl, hb⟩
        · refine (iter_step ?_).trans (ih (u + 1) (row ++ q) (by omega) (by omega) (by rw [List.length_append]; omega) k2 (List.mem_append.2 (.inl ha)) fun i y hi hy z hz => ?_)
          · show (if decide (((u : Nat) : Int) < ((row.length : Nat) : Int)) = true then _ else _) = _
            rw [if_pos (decide_eq_true (by omega)), e, wrap_ok (by omega) (by omega)]
            rfl
          · by_cases hiu : i < u
            · rw [List.getElem?_append_left (by omega)] at hy
              have := hc i y hiu hy z hz
              exact ⟨List.mem_append.2 (.inl this.1), this.2⟩
            · have : i = u := by omega
              subst this
              rw [List.getElem?_append_left hlt, hx] at hy
              obtain rfl := Option.some.inj hy
              obtain ⟨r, mr, hw, hr⟩ := hz
              exact k3 r mr hw z hr
        · rw [decide_eq_true hb]
          refine iter_stop ?_
          show (if decide (((u : Nat) : Int) < ((row.length : Nat) : Int)) = true then _ else _) = _
          rw [if_pos (decide_eq_true (by omega)), e]
      · have hu' : u = row.length := by omega
        rw [stop u row hu' ha hc]
        refine iter_stop ?_
        show (if decide (((u : Nat) : Int) < ((row.length : Nat) : Int)) = true then _ else _) = _
        rw [if_neg (by rw [decide_eq_true_iff]; omega)]
  refine key 1048577 0 [a] ?_ (by omega) (by simp) (fun y hy => .inl (by simpa using hy)) (by simp) (fun i x hi => by omega)
  have h1 := hR.n
  have h2 : absent (R.flatMap readsL) [a] ≤ (R.flatMap readsL).length := List.countP_le_length
  simp only [List.length_singleton]
  omega
theorem rules_small {R : List RuleD} (h : costRuleS R ≤ 1048576) : SmallRs R := by
  unfold costRuleS at h
  refine ⟨fun r mr => rule_small (cost_mem h mr), ?_⟩
  have key : ∀ l : List RuleD, (l.flatMap readsL).length ≤ (l.map costRule).sum := by
    intro l
    induction l with
    | nil => simp
    | cons r l ih =>
      rw [List.flatMap_cons, List.length_append, List.map_cons, List.sum_cons]
      have h1 := readsL_len r
      have h2 : r.cond.length ≤ costRule r := by simp only [costRule, costCondS]; omega
      omega
  have := key R
  omega
end Go.Proofs.YtlkgkkacnoaeaaaGreatDoor

namespace Go.Proofs.YtlkgkkacnoaeaaaGreatDoor
theorem find_some (l : List RuleD) (n : ByteArray) : ∃ z, i_FindRule l n = some z := by
  unfold i_FindRule
  rcases forL_runE (ρ := Int) (body := fun (i4 : Nat) (x5 : RuleD) (_ : Unit) =>
      if (sEq x5.name n) = true then
        some (.inr ((i4 : Nat) : Int))
      else
        some (.inl ())) (fun _ _ => True) (fun _ => True) l () trivial (fun p x s mx hp _ => by
    cases h : sEq x.name n with
    | true => exact .inr ⟨_, by rw [if_pos rfl], trivial⟩
    | false => exact .inl ⟨(), by rw [if_neg (by simp)], trivial⟩) with ⟨s, e, _⟩ | ⟨z, e, _⟩
  · exact ⟨-1, e _⟩
  · exact ⟨z, e _⟩
noncomputable def findR (l : List RuleD) (n : ByteArray) : Int := (i_FindRule l n).getD 0
theorem i_FindRule_eq (l : List RuleD) (n : ByteArray) : i_FindRule l n = some (findR l n) := by
  obtain ⟨z, h⟩ := find_some l n
  unfold findR
  rw [h]; rfl
theorem s_FindRule_eq (l : List RuleD) (n : ByteArray) : s_FindRule l n = some (findR l n) := i_FindRule_eq l n
noncomputable def ruleAt (R : List RuleD) (j : Nat) (r : RuleD) : Bool := isRuleB r && (findR R r.name == ((j : Nat) : Int))
noncomputable def areRulesB (R : List RuleD) : Bool := decide (R.length ≤ 6) && allI (ruleAt R) R 0
theorem i_AreRules_eq {R : List RuleD} (h : ∀ r ∈ R, SmallR r) : i_AreRules R = some (areRulesB R) := by
  unfold i_AreRules areRulesB
  by_cases h6 : R.length ≤ 6
  · rw [if_neg (by simp; omega), decide_eq_true h6, Bool.true_and, forL_allI (p := ruleAt R) (r := false)]
    · cases allI (ruleAt R) R 0 <;> rfl
    · intro j r hj
      rw [i_IsRule_eq r (h r (List.mem_of_getElem? hj)), Option.bind_some, i_FindRule_eq]
      unfold ruleAt
      simp only [Option.bind_some, Nat.zero_add]
      cases isRuleB r with
      | false => rfl
      | true =>
        by_cases hf : findR R r.name = ((j : Nat) : Int)
        · simp [hf]
        · have e : (findR R r.name == ((j : Nat) : Int)) = false := by simpa using hf
          simp [e, hf]
  · rw [if_pos (by simp; omega), decide_eq_false h6]; rfl
theorem s_AreRules_eq {R : List RuleD} (h : ∀ r ∈ R, SmallR r) : s_AreRules R = some (areRulesB R) := by
  unfold s_AreRules areRulesB
  rw [forL_allI (p := ruleAt R) (r := false)]
  · have : decide (((R.length : Nat) : Int) ≤ 6) = decide (R.length ≤ 6) := by rw [Bool.eq_iff_iff]; simp; omega
    rw [this]
    cases allI (ruleAt R) R 0 <;> simp
  · intro j r hj
    rw [s_IsRule_eq r (h r (List.mem_of_getElem? hj)), Option.bind_some, s_FindRule_eq]
    unfold ruleAt
    simp only [Option.bind_some, Nat.zero_add]
    cases isRuleB r with
    | false => rfl
    | true =>
      by_cases hf : findR R r.name = ((j : Nat) : Int)
      · simp [hf]
      · have e : (findR R r.name == ((j : Nat) : Int)) = false := by simpa using hf
        simp [e, hf]
open Classical
noncomputable def freeB (R : List RuleD) (rel w : ByteArray) : Bool := !sEq w rel && !decide (Reach R rel w)
noncomputable def condOk (R : List RuleD) (r : RuleD) (x : CondD) : Bool := !(x.kind == 2) || (sortedT (writesL r)).all (freeB R x.pattern.rel)
noncomputable def logicIn (R : List RuleD) (r : RuleD) : Bool := isLogicalB r && r.cond.all (condOk R r)
theorem i_AreLogical_eq {R : List RuleD} (hR : SmallRs R) : i_AreLogical R = some (areRulesB R && R.all (logicIn R)) := by
  unfold i_AreLogical
  rw [i_AreRules_eq hR.s, Option.bind_some]
  cases areRulesB R with
  | false => rfl
  | true =>
    rw [if_pos rfl, forL_all (p := logicIn R) (r := false)]
    · cases R.all (logicIn R) <;> rfl
    · intro i r mr
      have hsm := hR.s r mr
      rw [i_IsLogical_eq r hsm, Option.bind_some]
      unfold logicIn
      cases isLogicalB r with
      | false => rfl
      | true =>
        rw [if_pos rfl, forL_all (p := condOk R r) (r := .inr false)]
        · cases r.cond.all (condOk R r) <;> rfl
        · intro i x mx
          unfold condOk
          by_cases hk : x.kind = 2
          · obtain ⟨m, e, hm⟩ := i_relReach_eq hR x.pattern.rel
            rw [if_neg (by simp [hk]), e, Option.bind_some, i_WritesOf_eq r hsm.tl, Option.bind_some, forL_all (p := freeB R x.pattern.rel) (r := .inr (.inr false))]
            · rw [show (!(x.kind == 2)) = false by simp [hk], Bool.false_or]
              cases (sortedT (writesL r)).all (freeB R x.pattern.rel) <;> rfl
            · intro i w mw
              unfold freeB
              have : mGetD m w false = decide (Reach R x.pattern.rel w) := by
                rw [Bool.eq_iff_iff, decide_eq_true_iff]; exact hm w
              rw [this]
              cases sEq w x.pattern.rel <;> cases decide (Reach R x.pattern.rel w) <;> rfl
          · rw [if_pos (by simp [hk]), show (!(x.kind == 2)) = true by simp [hk]]; rfl
theorem stop_loop {α ρ : Type} {r : ρ} : ∀ (l : List α), forL (σ := Unit) (fun (_ : Nat) (_ : α) _ => some (.inr r)) (fun _ => some r) l 0 () = some r
  | [] => rfl
  | _ :: _ => rfl
theorem sEq_swap (x y : ByteArray) : sEq x y = sEq y x := by
  rw [Bool.eq_iff_iff, sEq_iff, sEq_iff]
  exact eq_comm
theorem s_AreLogical_eq {R : List RuleD} (hR : SmallRs R) : s_AreLogical R = some (areRulesB R && R.all (logicIn R)) := by
  unfold s_AreLogical
  rw [forL_all (p := logicIn R) (r := false)]
  · rw [s_AreRules_eq hR.s, Option.bind_some]
    cases R.all (logicIn R) <;> simp
  · intro i r mr
    have hsm := hR.s r mr
    rw [s_IsLogical_eq r hsm, Option.bind_some]
    unfold logicIn
    cases isLogicalB r with
    | false => rfl
    | true =>
      rw [if_pos rfl, s_WritesOf_eq r hsm.tl, Option.bind_some, forL_all (p := condOk R r) (r := .inr false)]
      · cases r.cond.all (condOk R r) <;> rfl
      · intro i x mx
        unfold condOk
        by_cases hk : x.kind = 2
        · rw [forL_all (p := freeB R x.pattern.rel) (r := .inr (.inr false))]
          · rw [show (!(x.kind == 2)) = false by simp [hk], Bool.false_or]
            cases (sortedT (writesL r)).all (freeB R x.pattern.rel) <;> rfl
          · intro i w mw
            rw [if_pos (by simp [hk]), s_RelDepends_eq hR, sEq_swap]
            unfold freeB
            cases sEq w x.pattern.rel <;> cases decide (Reach R x.pattern.rel w) <;> rfl
        · have hf : (x.kind == 2) = false := by simp [hk]
          simp only [hf, Bool.false_eq_true, if_false]
          rw [stop_loop]
          rfl
end Go.Proofs.YtlkgkkacnoaeaaaGreatDoor

namespace Go.Proofs.YtlkgkkacnoaeaaaGreatDoor
open Classical
/-- ascending valid facts -/
noncomputable def factAt (F : List FactD) (i : Nat) (x : FactD) : Bool := isFactB x && (if i = 0 then true else match F[i - 1]? with | some y => decide (cmpF y x < 0) | none => true)
noncomputable def areFactsB (F : List FactD) : Bool := decide (F.length ≤ 24) && allI (factAt F) F 0
theorem allI_mem {α : Type} {p : Nat → α → Bool} {q : α → Bool} (h : ∀ i x, p i x = true → q x = true) : ∀ {l : List α} {i : Nat}, allI p l i = true → ∀ x ∈ l, q x = true
  | [], _, _ => by simp
  | y :: l, i, ha => by
    simp only [allI, Bool.and_eq_true] at ha
    intro x mx
    rcases List.mem_cons.1 mx with rfl | mx
    · exact h i _ ha.1
    · exact allI_mem h ha.2 x mx
theorem areFacts_ok {F : List FactD} (h : areFactsB F = true) : F.length ≤ 24 ∧ ∀ f ∈ F, isFactB f = true := by
  unfold areFactsB at h
  rw [Bool.and_eq_true, decide_eq_true_iff] at h
  refine ⟨h.1, allI_mem (fun i x hx => ?_) h.2⟩
  unfold factAt at hx
  rw [Bool.and_eq_true] at hx
  exact hx.1
theorem fact_args {f : FactD} (h : isFactB f = true) : f.args.length ≤ 3 := by
  unfold isFactB at h
  simp only [Bool.and_eq_true, decide_eq_true_iff] at h
  exact h.1.2
theorem fact_step {F : List FactD} (hl : F.length ≤ 1048576) {i : Nat} {x : FactD} (hx : F[i]? = some x) :
    (if isFactB x = true then (if (decide (0 < ((i : Nat) : Int))) = true then (atI F (IntKind.i64.wrap (((i : Nat) : Int) - 1))).bind fun x11 => (some (cmpF x11 x)).bind fun v12 => if (decide (0 ≤ v12)) = true then some (.inr false) else some (.inl ()) else some (.inl ())) else some (.inr false) : Option (Unit ⊕ Bool))
      = some (bif factAt F i x then .inl () else .inr false) := by
  have hi := (List.getElem?_eq_some_iff.1 hx).1
  unfold factAt
  cases isFactB x with
  | false => rfl
  | true =>
    rw [if_pos rfl]
    by_cases h0 : i = 0
    · subst h0
      rw [if_neg (by simp)]
      simp
    · have hg : F[i - 1]? = some F[i - 1] := List.getElem?_eq_getElem (by omega)
      rw [if_pos (by simp; omega), show ((i : Nat) : Int) - 1 = ((i - 1 : Nat) : Int) by omega, wrap_in (by omega) (by omega), atI_nat, hg, Option.bind_some, Option.bind_some, if_neg h0]
      by_cases hc : cmpF F[i - 1] x < 0
      · rw [if_neg (by simpa using hc)]
        simp [hc]
      · rw [if_pos (by simpa using hc)]
        simp [hc]
theorem i_AreFacts_eq (F : List FactD) : i_AreFacts F = some (areFactsB F) := by
  unfold i_AreFacts areFactsB
  by_cases h : F.length ≤ 24
  · rw [if_neg (by simp; omega), decide_eq_true h, forL_allI (p := factAt F) (r := false)]
    · cases allI (factAt F) F 0 <;> rfl
    · intro j x hx
      rw [Nat.zero_add, i_IsFact_eq, Option.bind_some]
      simp only [i_CompareFacts_eq]
      exact fact_step (by omega) hx
  · rw [if_pos (by simp; omega), decide_eq_false h]
    rfl
theorem s_AreFacts_eq (F : List FactD) (hl : F.length ≤ 1048576) : s_AreFacts F = some (areFactsB F) := by
  unfold s_AreFacts areFactsB
  rw [forL_allI (p := factAt F) (r := false)]
  · have : decide (((F.length : Nat) : Int) ≤ 24) = decide (F.length ≤ 24) := by rw [Bool.eq_iff_iff]; simp; omega
    rw [this]
    cases allI (factAt F) F 0 <;> simp
  · intro j x hx
    rw [Nat.zero_add, s_IsFact_eq, Option.bind_some]
    simp only [s_CompareFacts_eq]
    exact fact_step hl hx
theorem i_copyFacts_eq (l : List FactD) (hl : l.length ≤ 1048576) (h : ∀ f ∈ l, f.args.length ≤ 1048576) : i_copyFacts l = some l := by
  unfold i_copyFacts
  rw [forL_map (g := fun y => y)]
  · simp
  · intro j y s my hs
    rw [i_copyFact_eq y (h y my), Option.bind_some, chk_pos _ (by simp at hs; omega)]
theorem s_l2Copies_eq (l : List FactD) (hl : l.length ≤ 1048576) (h : ∀ f ∈ l, f.args.length ≤ 1048576) : s_l2Copies l = some l := by
  unfold s_l2Copies
  rw [forL_map (g := fun y => y)]
  · simp
  · intro j y s my hs
    rw [s_l2Copy_eq y (h y my), Option.bind_some, chk_pos _ (by simp at hs; omega)]
/-- what is known of a token where facts are valid -/
structure TokS (F : List FactD) (t : TokenD) : Prop where
  bind : t.binding.length ≤ 6
  len : t.facts.length ≤ 4
  args : ∀ f ∈ t.facts, f.args.length ≤ 3
theorem TokOk.s {p : List CondD} {F : List FactD} {t : TokenD} (h : TokOk p F t) (hp : p.length ≤ 4) (hF : ∀ f ∈ F, f.args.length ≤ 3) : TokS F t :=
  ⟨isBindB_len h.bind, by have := h.len; omega, fun f mf => hF f (h.sub f mf)⟩
/-- the walk over the tokens for one condition -/
theorem step_loop {ρ : Type} {x : CondD} {F : List FactD} {body : Nat → TokenD → List TokenD → Option (List TokenD ⊕ ρ)} {fin : List TokenD → Option ρ} (hF : F.length ≤ 24) (ts : List TokenD) (hts : ts.length ≤ 331776)
    (hb : ∀ i t row, t ∈ ts → row.length ≤ 10000000 → body i t row = some (.inl (row ++ nextP x F t))) : forL body fin ts 0 [] = fin (stepP x F ts) := by
  have hst : stepP x F [] = [] := rfl
  rw [← hst, forL_walk (fun p => stepP x F p) ts]
  intro p t q e
  have hl := step_len x F hF p
  have hp : p.length ≤ ts.length := by rw [e]; simp
  rw [hb _ _ _ (by rw [e]; simp) (by omega)]
  unfold stepP
  rw [List.flatMap_append]
  simp
theorem i_tokensOf_eq (l : List CondD) (F : List FactD) (hl : l.length ≤ 4) (hF : F.length ≤ 24) (hA : ∀ f ∈ F, f.args.length ≤ 3) : i_tokensOf l F = some (tokensP l F) := by
  unfold i_tokensOf
  have h0 : tokensP [] F = [({ facts := [], binding := [] } : TokenD)] := rfl
  rw [← h0, forL_walk (fun p => tokensP p F) l]
  intro p x q e
  have hpl : p.length + (q.length + 1) = l.length := by rw [e, List.length_append, List.length_cons]
  rw [tokensP_snoc]
  refine step_loop (fin := fun r => (some (Sum.inl r) : Option (List TokenD ⊕ List TokenD))) hF (tokensP p F) (tokens_len F hF p (by omega)) (fun i t row mt hr => ?_)
  have ht := (tokens_ok F p t mt).s (by omega) hA
  unfold nextP
  by_cases hk : x.kind = 1
  · rw [if_neg (by simpa using hk), if_pos hk, forL_filterMap (g := fun f => (matchP x.pattern f t.binding).map fun b => ({ facts := t.facts ++ [f], binding := b } : TokenD))]
    intro j f s mf hs
    rw [i_MatchFact_eq, Option.bind_some, listR_some]
    cases hm : matchP x.pattern f t.binding with
    | none => simp
    | some b =>
      simp only [Option.isSome_some, if_true]
      rw [i_copyFacts_eq _ (by have := ht.len; omega) (fun g mg => by have := ht.args g mg; omega), Option.bind_some, i_copyFact_eq f (by have := hA f mf; omega), Option.bind_some, chk_pos _ (by have := ht.len; omega), chk_pos _ (by omega)]
      rfl
  · rw [if_pos (by simpa using hk), if_neg hk, i_HoldsCond_eq _ _ _ (by omega) (fun f mf => by have := hA f mf; omega), Option.bind_some]
    split
    · rw [chk_pos _ (by omega)]
    · simp
theorem s_l6Copy_eq {F : List FactD} {t : TokenD} (ht : TokS F t) : s_l6Copy t = some t := by
  unfold s_l6Copy s_l3Copy
  rw [s_l2Copies_eq _ (by have := ht.len; omega) (fun g mg => by have := ht.args g mg; omega), Option.bind_some, chk_pos _ (by have := ht.bind; omega)]
  rfl
theorem s_l6Next_eq (ts : List TokenD) (x : CondD) (F : List FactD) (hts : ts.length ≤ 331776) (hF : F.length ≤ 24) (hA : ∀ f ∈ F, f.args.length ≤ 3) (ht : ∀ t ∈ ts, TokS F t) : s_l6Next ts x F = some (stepP x F ts) := by
  unfold s_l6Next
  refine step_loop (fin := fun r => some r) hF ts hts (fun i t row mt hr => ?_)
  have ht := ht t mt
  have htb := ht.bind
  unfold nextP
  by_cases hk : x.kind = 1
  · rw [if_neg (by simpa using hk), if_pos hk, forL_filterMap (g := fun f => (matchP x.pattern f t.binding).map fun b => ({ facts := t.facts ++ [f], binding := b } : TokenD))]
    intro j f s mf hs
    rw [s_MatchFact_eq _ _ _ (by omega), Option.bind_some, listR_some]
    cases hm : matchP x.pattern f t.binding with
    | none => simp
    | some b =>
      simp only [Option.isSome_some, if_true]
      rw [s_l2Copies_eq _ (by have := ht.len; omega) (fun g mg => by have := ht.args g mg; omega), Option.bind_some, s_l2Copy_eq f (by have := hA f mf; omega), Option.bind_some, chk_pos _ (by have := ht.len; omega), chk_pos _ (by omega)]
      rfl
  · rw [if_pos (by simpa using hk), if_neg hk, s_HoldsCond_eq _ _ _ (by omega) (by omega) (fun f mf => by have := hA f mf; omega), Option.bind_some]
    split
    · rw [s_l6Copy_eq ht, Option.bind_some, chk_pos _ (by omega)]
    · simp
theorem s_l6Tokens_eq (l : List CondD) (F : List FactD) (hl : l.length ≤ 4) (hF : F.length ≤ 24) (hA : ∀ f ∈ F, f.args.length ≤ 3) : s_l6Tokens l F = some (tokensP l F) := by
  unfold s_l6Tokens
  have h0 : tokensP [] F = [({ facts := [], binding := [] } : TokenD)] := rfl
  rw [← h0, forL_walk (fun p => tokensP p F) l]
  intro p x q e
  have hpl : p.length + (q.length + 1) = l.length := by rw [e, List.length_append, List.length_cons]
  rw [tokensP_snoc, s_l6Next_eq _ _ _ (tokens_len F hF p (by omega)) hF hA (fun t mt => (tokens_ok F p t mt).s (by omega) hA)]
  rfl
theorem rule_acts {r : RuleD} (h : isRuleB r = true) : ∀ a ∈ r.thn, a.kind = 1 → isPatternB a.pattern = true ∧ ∀ v ∈ a.pattern.args, isVarB v = true → v ∈ hasVars r.cond := by
  intro a ma hk
  unfold isRuleB at h
  simp only [Bool.and_eq_true] at h
  have ha := List.all_eq_true.1 h.1.2 a ma
  rw [Bool.and_eq_true] at ha
  obtain ⟨h1, h2⟩ := ha
  unfold isActionB at h1
  rw [if_pos (.inl hk)] at h1
  refine ⟨h1, fun v mv hv => ?_⟩
  have := List.all_eq_true.1 h2 v (mem_varsA.2 ⟨mv, hv⟩)
  rw [hasT_iff] at this
  unfold boundV at this
  rw [mem_sortedT, List.take_length] at this
  exact this
end Go.Proofs.YtlkgkkacnoaeaaaGreatDoor

namespace Go.Proofs.YtlkgkkacnoaeaaaGreatDoor
open Classical
theorem nodup_len {α : Type} : ∀ {l m : List α}, l.Nodup → (∀ x ∈ l, x ∈ m) → l.length ≤ m.length
  | [], _, _, _ => Nat.zero_le _
  | x :: l, m, h, hs => by
    rw [List.nodup_cons] at h
    have hx : x ∈ m := hs x (by simp)
    have h2 := nodup_len (m := m.erase x) h.2 (fun y my => (List.mem_erase_of_ne (fun e => h.1 (by rw [← e]; exact my))).2 (hs y (by simp [my])))
    rw [List.length_erase_of_mem hx] at h2
    have := List.length_pos_of_mem hx
    simp only [List.length_cons]
    omega
theorem nodup_back {α : Type} {l m : List α} (hl : l.Nodup) (hs : ∀ x ∈ l, x ∈ m) (hm : m.length ≤ l.length) : ∀ x ∈ m, x ∈ l := fun x mx => by
  refine Classical.byContradiction fun hn => ?_
  have := nodup_len (l := x :: l) (m := m) (List.nodup_cons.2 ⟨hn, hl⟩) (fun y my => by
    rcases List.mem_cons.1 my with rfl | my
    · exact mx
    · exact hs y my)
  simp only [List.length_cons] at this
  omega
theorem cmpF_irr (x : FactD) : ¬ cmpF x x < 0 := by rw [(cmpF_ok.eq x x).2 rfl]; omega
theorem ascF_nodup {l : List FactD} (h : AscF l) : l.Nodup := List.Pairwise.imp (fun {a b} hab e => by subst e; exact cmpF_irr a hab) h
theorem ascF_ext : ∀ {a b : List FactD}, AscF a → AscF b → (∀ x, x ∈ a ↔ x ∈ b) → a = b
  | [], [], _, _, _ => rfl
  | [], y :: b, _, _, h => by have := (h y).2 (by simp); simp at this
  | x :: a, [], _, _, h => by have := (h x).1 (by simp); simp at this
  | x :: a, y :: b, ha, hb, h => by
    unfold AscF at ha hb
    rw [List.pairwise_cons] at ha hb
    have e : x = y := by
      rcases List.mem_cons.1 ((h x).1 (by simp)) with e | h1
      · exact e
      · rcases List.mem_cons.1 ((h y).2 (by simp)) with e | h2
        · exact e.symm
        · exact absurd (cmpF_ok.tr _ _ _ (ha.1 y h2) (hb.1 x h1)) (cmpF_irr x)
    subst e
    rw [ascF_ext ha.2 hb.2 fun z => ?_]
    constructor
    · intro hz
      rcases List.mem_cons.1 ((h z).1 (by simp [hz])) with e | hz2
      · subst e; exact absurd (ha.1 z hz) (cmpF_irr z)
      · exact hz2
    · intro hz
      rcases List.mem_cons.1 ((h z).2 (by simp [hz])) with e | hz2
      · subst e; exact absurd (hb.1 z hz) (cmpF_irr z)
      · exact hz2
theorem insF_new {f : FactD} : ∀ {l : List FactD}, f ∉ l → (insF l f).length = l.length + 1
  | [], _ => rfl
  | x :: l, h => by
    simp only [List.mem_cons, not_or] at h
    simp only [insF]
    split
    · rw [List.length_cons, insF_new h.2]; rfl
    · rw [if_neg (fun e => h.1 ((cmpF_ok.eq _ _).1 e).symm)]
      rfl
/-- the conditions but the absences -/
def posC (r : RuleD) : List CondD := r.cond.filter fun x => x.kind != 2
theorem posC_kind {r : RuleD} : ∀ x ∈ posC r, ¬ x.kind = 2 := fun x mx => by
  have := (List.mem_filter.1 mx).2
  simpa using this
theorem posC_len (r : RuleD) : (posC r).length ≤ r.cond.length := List.length_filter_le _ _
theorem hasVars_pos (l : List CondD) : hasVars (l.filter fun x => x.kind != 2) = hasVars l := by
  induction l with
  | nil => rfl
  | cons x l ih =>
    by_cases hx : x.kind = 2
    · rw [List.filter_cons_of_neg (by simpa using hx), ih]
      simp [hasVars, hx]
    · rw [List.filter_cons_of_pos (by simpa using hx)]
      unfold hasVars at ih ⊢
      rw [List.flatMap_cons, List.flatMap_cons, ih]
theorem i_withoutNots_eq (r : RuleD) (h : r.cond.length ≤ 1048576) : i_withoutNots r = some (posC r) := by
  unfold i_withoutNots posC
  rw [forL_filter (p := fun x : CondD => x.kind != 2)]
  · simp
  · intro j x s mx hs
    split
    · rw [chk_pos _ (by simp at hs; omega)]
    · rfl
theorem s_l14Positive_eq (r : RuleD) (h : r.cond.length ≤ 1048576) : s_l14Positive r = some (posC r) := i_withoutNots_eq r h
/-- more facts give more tokens -/
theorem tokens_mono {F G : List FactD} (h : ∀ f ∈ F, f ∈ G) : ∀ {l : List CondD}, (∀ x ∈ l, ¬ x.kind = 2) → ∀ t ∈ tokensP l F, t ∈ tokensP l G := by
  have : ∀ n (l : List CondD), l.length = n → (∀ x ∈ l, ¬ x.kind = 2) → ∀ t ∈ tokensP l F, t ∈ tokensP l G := by
    intro n
    induction n with
    | zero => intro l hl _ t mt; rw [List.eq_nil_of_length_eq_zero hl] at mt ⊢; exact mt
    | succ n ih =>
      intro l hl hk
      obtain ⟨p, x, rfl⟩ : ∃ p x, l = p ++ [x] := ⟨l.dropLast, l.getLast (by intro e; simp [e] at hl), (List.dropLast_concat_getLast _).symm⟩
      intro t mt
      rw [tokensP_snoc] at mt ⊢
      obtain ⟨s, ms, mt⟩ := List.mem_flatMap.1 mt
      refine List.mem_flatMap.2 ⟨s, ih p (by simpa using hl) (fun y my => hk y (by simp [my])) s ms, ?_⟩
      unfold nextP at mt ⊢
      by_cases h1 : x.kind = 1
      · rw [if_pos h1] at mt ⊢
        obtain ⟨f, mf, e⟩ := List.mem_filterMap.1 mt
        exact List.mem_filterMap.2 ⟨f, h f mf, e⟩
      · have h2 := hk x (by simp)
        have e : holdsB x s.binding G = holdsB x s.binding F := by unfold holdsB; simp only [if_neg h1, if_neg h2]
        rw [if_neg h1] at mt ⊢
        rw [e]
        exact mt
  intro l hk
  exact this _ l rfl hk
theorem areFacts_asc {F : List FactD} (h : areFactsB F = true) : AscF F := by
  unfold areFactsB at h
  rw [Bool.and_eq_true] at h
  have hadj : ∀ i y x, F[i]? = some y → F[i + 1]? = some x → cmpF y x < 0 := fun i y x hy hx => by
    have := allI_at h.2 (i + 1) x hx
    unfold factAt at this
    rw [Bool.and_eq_true, Nat.zero_add, if_neg (by omega), Nat.add_sub_cancel, hy] at this
    simpa using this.2
  have key : ∀ (l : List FactD), (∀ i y x, l[i]? = some y → l[i + 1]? = some x → cmpF y x < 0) → AscF l := by
    intro l
    induction l with
    | nil => intro _; exact List.Pairwise.nil
    | cons a l ih =>
      intro hl
      have hp := ih (fun i y x hy hx => hl (i + 1) y x (by simpa using hy) (by simpa using hx))
      unfold AscF at hp ⊢
      rw [List.pairwise_cons]
      refine ⟨fun x mx => ?_, hp⟩
      cases l with
      | nil => simp at mx
      | cons b l =>
        have hab := hl 0 a b rfl rfl
        rcases List.mem_cons.1 mx with rfl | mx
        · exact hab
        · rw [List.pairwise_cons] at hp
          exact cmpF_ok.tr _ _ _ hab (hp.1 x mx)
  exact key F hadj
def instOf (a : ActionD) (t : TokenD) : FactD := (factR (instP a.pattern t.binding)).1
def ClosedF (R : List RuleD) (G : List FactD) : Prop := ∀ r ∈ R, ∀ t ∈ tokensP (posC r) G, ∀ a ∈ r.thn, instOf a t ∈ G
structure Cl (R : List RuleD) (base G : List FactD) : Prop where
  asc : AscF G
  base : ∀ f ∈ base, f ∈ G
  closed : ClosedF R G
/-- facts that are in all that is closed -/
structure Good (R : List RuleD) (base F : List FactD) : Prop where
  asc : AscF F
  ok : ∀ f ∈ F, isFactB f = true
  inc : ∀ f ∈ base, f ∈ F
  low : ∀ G, Cl R base G → ∀ f ∈ F, f ∈ G
def Over (R : List RuleD) (base : List FactD) : Prop := ∀ G, Cl R base G → 25 ≤ G.length
theorem Good.over {R : List RuleD} {base F : List FactD} (h : Good R base F) (hl : 25 ≤ F.length) : Over R base := fun G hG => Nat.le_trans hl (nodup_len (ascF_nodup h.asc) (h.low G hG))
theorem Good.add {R : List RuleD} {base F : List FactD} (h : Good R base F) {f : FactD} (hf : isFactB f = true) (hin : ∀ G, Cl R base G → f ∈ G) : Good R base (insF F f) where
  asc := asc_insF h.asc
  ok := fun g mg => by
    rcases mem_insF.1 mg with rfl | mg
    · exact hf
    · exact h.ok g mg
  inc := fun g mg => mem_insF.2 (.inr (h.inc g mg))
  low := fun G hG g mg => by
    rcases mem_insF.1 mg with rfl | mg
    · exact hin G hG
    · exact h.low G hG g mg
theorem instL_atoms {b : List PairD} (hb : isBindB b = true) : ∀ {p l : List ByteArray}, instL p b = some l → l.all isAtomB = true ∧ l.length = p.length
  | [], l, h => by
    simp only [instL, Option.some.injEq] at h
    subst h
    simp
  | a :: p, l, h => by
    simp only [instL] at h
    obtain ⟨v, hv, h⟩ := Option.bind_eq_some_iff.1 h
    obtain ⟨l', hl', rfl⟩ := Option.map_eq_some_iff.1 h
    obtain ⟨h1, h2⟩ := instL_atoms hb hl'
    have ha : isAtomB v = true := by
      unfold valueP at hv
      split at hv
      · rename_i ha
        obtain rfl := Option.some.inj hv
        exact ha
      · split at hv
        · obtain ⟨x, mx, _, rfl⟩ := getP_some hv
          unfold isBindB at hb
          rw [Bool.and_eq_true] at hb
          have := (bind_tail hb.2 x mx).1
          unfold pairOk at this
          rw [Bool.and_eq_true] at this
          exact this.2
        · simp at hv
    simp [ha, h1, h2]
/-- what a token of the presences gives -/
theorem inst_ok {r : RuleD} {F : List FactD} {t : TokenD} (hr : isLogicalB r = true) (ht : t ∈ tokensP (posC r) F) {a : ActionD} (ma : a ∈ r.thn) : isFactB (instOf a t) = true := by
  unfold isLogicalB at hr
  simp only [Bool.and_eq_true] at hr
  have hk : a.kind = 1 := by
    have := List.all_eq_true.1 hr.2 a ma
    simpa using this
  have htk := tokens_ok F _ t ht
  obtain ⟨h1, h2⟩ := rule_acts hr.1.1 a ma hk
  have hp := h1
  unfold isPatternB at hp
  simp only [Bool.and_eq_true, decide_eq_true_iff] at hp
  obtain ⟨l, e, _⟩ := instL_some (b := t.binding) hp.2 (fun v mv hv => htk.vars v (by
    unfold posC
    rw [hasVars_pos]
    exact h2 v mv hv))
  obtain ⟨h3, h4⟩ := instL_atoms htk.bind e
  have : instP a.pattern t.binding = some { rel := a.pattern.rel, args := l } := by
    unfold instP
    rw [if_pos ⟨h1, htk.bind⟩, e]
    rfl
  unfold instOf
  rw [this]
  show isFactB { rel := a.pattern.rel, args := l } = true
  unfold isFactB
  simp only [Bool.and_eq_true, decide_eq_true_iff]
  exact ⟨⟨hp.1.1, by omega⟩, h3⟩
theorem Good.derived {R : List RuleD} {base F : List FactD} (h : Good R base F) {r : RuleD} (mr : r ∈ R) {t : TokenD} (mt : t ∈ tokensP (posC r) F) {a : ActionD} (ma : a ∈ r.thn) : ∀ G, Cl R base G → instOf a t ∈ G :=
  fun G hG => hG.closed r mr t (tokens_mono (h.low G hG) posC_kind t mt) a ma
/-- how a search ends -/
def Res (R : List RuleD) (base : List FactD) (x : List FactD × Bool) : Prop :=
  (x.2 = true ∧ Good R base x.1 ∧ x.1.length ≤ 24 ∧ ClosedF R x.1) ∨ (x.2 = false ∧ x.1 = [] ∧ Over R base)
theorem Res.uniq {R : List RuleD} {base : List FactD} {x y : List FactD × Bool} (hx : Res R base x) (hy : Res R base y) : x = y := by
  obtain ⟨F, b⟩ := x
  obtain ⟨G, c⟩ := y
  rcases hx with ⟨h1, h2, h3, h4⟩ | ⟨h1, h2, h3⟩ <;> rcases hy with ⟨k1, k2, k3, k4⟩ | ⟨k1, k2, k3⟩ <;> simp only at h1 h2 h3 k1 k2 k3 <;> subst h1 <;> subst k1
  · have e : F = G := ascF_ext h2.asc k2.asc fun f => ⟨fun hf => h2.low G ⟨k2.asc, k2.inc, k4⟩ f hf, fun hf => k2.low F ⟨h2.asc, h2.inc, h4⟩ f hf⟩
    rw [e]
  · have := k3 F ⟨h2.asc, h2.inc, h4⟩
    omega
  · have := h3 G ⟨k2.asc, k2.inc, k4⟩
    omega
  · rw [h2, k2]
/-- the program's pass -/
structure PassI (R : List RuleD) (base row0 : List FactD) (s : List FactD × Bool) : Prop where
  good : Good R base s.1
  len : s.1.length ≤ 24
  sub : ∀ f ∈ row0, f ∈ s.1
  grow : s.2 = true → row0.length < s.1.length
  same : s.2 = false → s.1 = row0
theorem acts_loop {ρ : Type} {R : List RuleD} {base row0 : List FactD} {r : RuleD} (mr : r ∈ R) (hr : isLogicalB r = true) {rowS : List FactD} (hS : Good R base rowS) {t : TokenD} (mt : t ∈ tokensP (posC r) rowS) {q : ρ}
    {body : Nat → ActionD → (List FactD × Bool) → Option ((List FactD × Bool) ⊕ ρ)}
    (hb : ∀ i a s, body i a s = (i_FindFact s.1 (instOf a t)).bind fun v836 => if (decide (0 ≤ v836)) = true then some (.inl s) else if (decide (24 ≤ ((s.1.length : Nat) : Int))) = true then some (.inr q) else (i_putFact s.1 (instOf a t)).bind fun v837 => some (.inl (v837, true)))
    (s : List FactD × Bool) (h : PassI R base row0 s) :
    (∃ s', (∀ fin : (List FactD × Bool) → Option ρ, forL body fin r.thn 0 s = fin s') ∧ PassI R base row0 s' ∧ (s'.2 = false → s.2 = false ∧ ∀ a ∈ r.thn, instOf a t ∈ row0)) ∨ ((∀ fin : (List FactD × Bool) → Option ρ, forL body fin r.thn 0 s = some q) ∧ Over R base) := by
  rcases forL_runE (body := body) (fun p s' => PassI R base row0 s' ∧ (s'.2 = false → s.2 = false ∧ ∀ a ∈ p, instOf a t ∈ row0)) (fun x => x = q ∧ Over R base) r.thn s ⟨h, fun hs => ⟨hs, by simp⟩⟩ (fun p a s' ma hp hI => by
    obtain ⟨hP, hC⟩ := hI
    rw [hb]
    obtain ⟨z, hz, hz2⟩ := i_FindFact_eq s'.1 (instOf a t)
    rw [hz, Option.bind_some]
    have hok := inst_ok hr mt ma
    have hin := hS.derived mr mt ma
    by_cases hm : instOf a t ∈ s'.1
    · left
      have hz3 : ¬ z < 0 := fun h => hz2.1 h hm
      rw [if_pos (by simp; omega)]
      refine ⟨s', rfl, hP, fun hs => ⟨(hC hs).1, fun b mb => ?_⟩⟩
      rcases List.mem_append.1 mb with mb | mb
      · exact (hC hs).2 b mb
      · simp at mb
        subst mb
        rw [← hP.same hs]
        exact hm
    · have hz3 := hz2.2 hm
      rw [if_neg (by simp; omega)]
      by_cases h24 : 24 ≤ s'.1.length
      · right
        rw [if_pos (by simp; omega)]
        refine ⟨q, rfl, rfl, (hP.good.add hok hin).over ?_⟩
        rw [insF_new hm]
        omega
      · left
        rw [if_neg (by simp; omega), i_putFact_eq _ _ hm (by omega) (fun f mf => by have := fact_args (hP.good.ok f mf); omega) (by have := fact_args hok; omega), Option.bind_some]
        refine ⟨_, rfl, ⟨hP.good.add hok hin, by rw [insF_new hm]; omega, fun f mf => mem_insF.2 (.inr (hP.sub f mf)), fun _ => ?_, fun h => by simp at h⟩, fun h => by simp at h⟩
        rw [insF_new hm]
        have := nodup_len (l := row0) (m := s'.1)
        cases hs : s'.2 with
        | true => have := hP.grow hs; omega
        | false => rw [hP.same hs]; omega) with ⟨s', e, h'⟩ | ⟨x, e, rfl, h'⟩
  · exact .inl ⟨s', e, h'⟩
  · exact .inr ⟨e, h'⟩
theorem toks_loop {ρ : Type} {R : List RuleD} {base row0 : List FactD} {r : RuleD} (mr : r ∈ R) (hr : isLogicalB r = true) {q : ρ}
    {ab : TokenD → Nat → ActionD → (List FactD × Bool) → Option ((List FactD × Bool) ⊕ ((List FactD × Bool) ⊕ ρ))} {body : Nat → TokenD → (List FactD × Bool) → Option ((List FactD × Bool) ⊕ ρ)}
    (hab : ∀ t i a s, ab t i a s = (i_FindFact s.1 (instOf a t)).bind fun v836 => if (decide (0 ≤ v836)) = true then some (.inl s) else if (decide (24 ≤ ((s.1.length : Nat) : Int))) = true then some (.inr (.inr q)) else (i_putFact s.1 (instOf a t)).bind fun v837 => some (.inl (v837, true)))
    (hb : ∀ i t s, body i t s = forL (ab t) (fun s => some (.inl s)) r.thn 0 s)
    (s : List FactD × Bool) (h : PassI R base row0 s) :
    (∃ s', (∀ fin : (List FactD × Bool) → Option ρ, forL body fin (tokensP (posC r) s.1) 0 s = fin s') ∧ PassI R base row0 s' ∧ (s'.2 = false → s.2 = false ∧ ∀ t ∈ tokensP (posC r) row0, ∀ a ∈ r.thn, instOf a t ∈ row0)) ∨ ((∀ fin : (List FactD × Bool) → Option ρ, forL body fin (tokensP (posC r) s.1) 0 s = some q) ∧ Over R base) := by
  rcases forL_runE (body := body) (fun p s' => PassI R base row0 s' ∧ (s'.2 = false → s.2 = false ∧ ∀ t ∈ p, ∀ a ∈ r.thn, instOf a t ∈ row0)) (fun x => x = q ∧ Over R base) (tokensP (posC r) s.1) s ⟨h, fun hs => ⟨hs, by simp⟩⟩ (fun p t s' mt hp hI => by
    obtain ⟨hP, hC⟩ := hI
    rw [hb]
    rcases acts_loop mr hr h.good mt (hab t) s' hP with ⟨s2, e2, hP2, hC2⟩ | ⟨e2, ho⟩
    · left
      refine ⟨s2, e2 _, hP2, fun hs => ?_⟩
      obtain ⟨k1, k2⟩ := hC2 hs
      obtain ⟨k3, k4⟩ := hC k1
      refine ⟨k3, fun u mu => ?_⟩
      rcases List.mem_append.1 mu with mu | mu
      · exact k4 u mu
      · simp at mu
        subst mu
        exact k2
    · exact .inr ⟨q, e2 _, rfl, ho⟩) with ⟨s', e, hP, hC⟩ | ⟨x, e, rfl, h'⟩
  · refine .inl ⟨s', e, hP, fun hs => ?_⟩
    obtain ⟨k1, k2⟩ := hC hs
    exact ⟨k1, by rw [h.same k1] at k2; exact k2⟩
  · exact .inr ⟨e, h'⟩
theorem i_pass {ρ : Type} {R : List RuleD} {base row0 : List FactD} (hL : ∀ r ∈ R, isLogicalB r = true) (h0 : Good R base row0) (hl0 : row0.length ≤ 24) {q : ρ}
    {ab : TokenD → Nat → ActionD → (List FactD × Bool) → Option ((List FactD × Bool) ⊕ ((List FactD × Bool) ⊕ ((List FactD × Bool) ⊕ ρ)))} {tb : RuleD → Nat → TokenD → (List FactD × Bool) → Option ((List FactD × Bool) ⊕ ((List FactD × Bool) ⊕ ρ))} {body : Nat → RuleD → (List FactD × Bool) → Option ((List FactD × Bool) ⊕ ρ)}
    (hab : ∀ t i a s, ab t i a s = (i_FindFact s.1 (instOf a t)).bind fun v836 => if (decide (0 ≤ v836)) = true then some (.inl s) else if (decide (24 ≤ ((s.1.length : Nat) : Int))) = true then some (.inr (.inr (.inr q))) else (i_putFact s.1 (instOf a t)).bind fun v837 => some (.inl (v837, true)))
    (htb : ∀ r i t s, tb r i t s = forL (ab t) (fun s => some (.inl s)) r.thn 0 s)
    (hb : ∀ i r s, r ∈ R → s.1.length ≤ 24 → (∀ f ∈ s.1, isFactB f = true) → body i r s = forL (tb r) (fun s => some (.inl s)) (tokensP (posC r) s.1) 0 s) :
    (∃ s', (∀ fin : (List FactD × Bool) → Option ρ, forL body fin R 0 (row0, false) = fin s') ∧ PassI R base row0 s' ∧ (s'.2 = false → ClosedF R row0)) ∨ ((∀ fin : (List FactD × Bool) → Option ρ, forL body fin R 0 (row0, false) = some q) ∧ Over R base) := by
  rcases forL_runE (body := body) (fun p s' => PassI R base row0 s' ∧ (s'.2 = false → ∀ r ∈ p, ∀ t ∈ tokensP (posC r) row0, ∀ a ∈ r.thn, instOf a t ∈ row0)) (fun x => x = q ∧ Over R base) R (row0, false) ⟨⟨h0, hl0, fun f mf => mf, fun h => by simp at h, fun _ => rfl⟩, by simp⟩ (fun p r s' mr hp hI => by
    obtain ⟨hP, hC⟩ := hI
    rw [hb _ _ _ mr hP.len hP.good.ok]
    rcases toks_loop (q := .inr q) mr (hL r mr) (hab) (htb r) s' hP with ⟨s2, e2, hP2, hC2⟩ | ⟨e2, ho⟩
    · left
      refine ⟨s2, e2 _, hP2, fun hs => ?_⟩
      obtain ⟨k1, k2⟩ := hC2 hs
      intro u mu
      rcases List.mem_append.1 mu with mu | mu
      · exact hC k1 u mu
      · simp at mu
        subst mu
        exact k2
    · exact .inr ⟨q, e2 _, rfl, ho⟩) with ⟨s', e, hP, hC⟩ | ⟨x, e, rfl, h'⟩
  · exact .inl ⟨s', e, hP, hC⟩
  · exact .inr ⟨e, h'⟩
/-- passes, until one adds nothing -/
theorem search {R : List RuleD} {base : List FactD} {body : (List FactD × Bool) → Option ((List FactD × Bool) ⊕ (List FactD × Bool))} (stop : ∀ row, body (row, false) = some (.inr (row, true)))
    (pass : ∀ row, Good R base row → row.length ≤ 24 → (∃ s', body (row, true) = some (.inl s') ∧ PassI R base row s' ∧ (s'.2 = false → ClosedF R row)) ∨ (body (row, true) = some (.inr ([], false)) ∧ Over R base)) (hbase : Good R base base) (hF24 : base.length ≤ 24) : ∃ x, iter body (base, true) = some x ∧ Res R base x := by
  have key : ∀ n row, Good R base row → row.length ≤ 24 → 25 ≤ row.length + n → ∃ x, iter body (row, true) = some x ∧ Res R base x := by
    intro n
    induction n with
    | zero => intro row _ h3 h4; omega
    | succ n ih =>
      intro row hg hl hn
      rcases pass row hg hl with ⟨⟨row', u⟩, e, hP, hC⟩ | ⟨e, ho⟩
      · rw [iter_step e]
        cases u with
        | true =>
          have := hP.grow rfl
          exact ih row' hP.good hP.len (by simp only at this; omega)
        | false =>
          have hs := hP.same rfl
          simp only at hs
          subst hs
          exact ⟨_, iter_stop (stop _), .inl ⟨rfl, hP.good, hP.len, hC rfl⟩⟩
      · exact ⟨_, iter_stop e, .inr ⟨rfl, rfl, ho⟩⟩
  exact key 25 base hbase hF24 (by omega)
theorem i_PossibleFacts_res {R : List RuleD} (hR : SmallRs R) (base : List FactD) : (¬ (areRulesB R && R.all (logicIn R)) = true ∨ ¬ areFactsB base = true → i_PossibleFacts R base = some ([], false)) ∧ ((areRulesB R && R.all (logicIn R)) = true → areFactsB base = true → ∃ x, i_PossibleFacts R base = some x ∧ Res R base x) := by
  constructor
  · intro h
    unfold i_PossibleFacts
    rw [i_AreLogical_eq hR, Option.bind_some]
    split
    · rename_i h1
      rw [i_AreFacts_eq, Option.bind_some, if_neg (h.resolve_left (fun h => h h1))]
    · rfl
  · intro h1 h2
    have hL : ∀ r ∈ R, isLogicalB r = true := fun r mr => by
      rw [Bool.and_eq_true] at h1
      have := List.all_eq_true.1 h1.2 r mr
      unfold logicIn at this
      rw [Bool.and_eq_true] at this
      exact this.1
    have hrl : ∀ r ∈ R, r.cond.length ≤ 4 := fun r mr => by
      have := hL r mr
      unfold isLogicalB at this
      simp only [Bool.and_eq_true] at this
      exact (isRuleB_len this.1.1).1
    obtain ⟨hF24, hFF⟩ := areFacts_ok h2
    have hbase : Good R base base := ⟨areFacts_asc h2, hFF, fun f mf => mf, fun G hG f mf => hG.base f mf⟩
    unfold i_PossibleFacts
    rw [i_AreLogical_eq hR, Option.bind_some, if_pos h1, i_AreFacts_eq, Option.bind_some, if_pos h2, i_copyFacts_eq _ (by omega) (fun f mf => by have := fact_args (hFF f mf); omega), Option.bind_some]
    refine search (fun row => rfl) (fun row hg hl => ?_) hbase hF24
    have hgen := i_pass (ρ := (List FactD × Bool) ⊕ (List FactD × Bool)) (q := .inr ([], false)) hL hg hl
      (ab := fun t _ a s => (i_FindFact s.1 (instOf a t)).bind fun v836 => if (decide (0 ≤ v836)) = true then some (.inl s) else if (decide (24 ≤ ((s.1.length : Nat) : Int))) = true then some (.inr (.inr (.inr (.inr ([], false))))) else (i_putFact s.1 (instOf a t)).bind fun v837 => some (.inl (v837, true)))
      (tb := fun r _ t s => forL (fun _ a s => (i_FindFact s.1 (instOf a t)).bind fun v836 => if (decide (0 ≤ v836)) = true then some (.inl s) else if (decide (24 ≤ ((s.1.length : Nat) : Int))) = true then some (.inr (.inr (.inr (.inr ([], false))))) else (i_putFact s.1 (instOf a t)).bind fun v837 => some (.inl (v837, true))) (fun s => some (.inl s)) r.thn 0 s)
      (body := fun _ r s => (i_withoutNots r).bind fun v757 => (i_tokensOf v757 s.1).bind fun v758 => forL (fun _ t s => forL (fun _ a s => (i_Instance a.pattern t.binding).bind fun v835 => (i_FindFact s.1 v835.1).bind fun v836 => if (decide (0 ≤ v836)) = true then some (.inl s) else if (decide (24 ≤ ((s.1.length : Nat) : Int))) = true then some (.inr (.inr (.inr (.inr ([], false))))) else (i_putFact s.1 v835.1).bind fun v837 => some (.inl (v837, true))) (fun s => some (.inl s)) r.thn 0 s) (fun s => some (.inl s)) v758 0 s)
      (fun _ _ _ _ => rfl) (fun _ _ _ _ => rfl) (fun i r s mr hs hok => by
        show (i_withoutNots r).bind _ = _
        rw [i_withoutNots_eq r (by have := hrl r mr; omega), Option.bind_some, i_tokensOf_eq _ _ (by have := posC_len r; have := hrl r mr; omega) hs (fun f mf => fact_args (hok f mf)), Option.bind_some]
        simp only [i_Instance_eq, Option.bind_some]
        rfl)
    rcases hgen with ⟨s', e, hP, hC⟩ | ⟨e, ho⟩
    · exact .inl ⟨s', e (fun s => some (.inl s)), hP, hC⟩
    · exact .inr ⟨e (fun s => some (.inl s)), ho⟩
/-- the reference's pass -/
structure PassS (R : List RuleD) (base l : List FactD) (row : List FactD) : Prop where
  good : Good R base row
  sub : ∀ f ∈ l, f ∈ row
theorem s_acts {ρ : Type} {R : List RuleD} {base l : List FactD} {r : RuleD} (mr : r ∈ R) (hr : isLogicalB r = true) (hS : Good R base l) {t : TokenD} (mt : t ∈ tokensP (posC r) l) {N : Nat} (hN : N ≤ 1000000) (ht2 : r.thn.length ≤ 2)
    {body : Nat → ActionD → List FactD → Option (List FactD ⊕ ρ)} (hb : ∀ i a row, body i a row = (s_l2Put row (instOf a t)).bind fun v => some (.inl v)) (row : List FactD) (h : PassS R base l row) (hlen : row.length ≤ N) :
    ∃ row', (∀ fin : List FactD → Option ρ, forL body fin r.thn 0 row = fin row') ∧ PassS R base l row' ∧ row'.length ≤ N + 2 ∧ (∀ f ∈ row, f ∈ row') ∧ ∀ a ∈ r.thn, instOf a t ∈ row' := by
  obtain ⟨row', e, h1, h2, h3, h4⟩ := forL_runA (body := body) (fun p row' => PassS R base l row' ∧ row'.length ≤ N + p.length ∧ (∀ f ∈ row, f ∈ row') ∧ ∀ a ∈ p, instOf a t ∈ row') r.thn row ⟨h, by simpa using hlen, fun f mf => mf, by simp⟩ (fun p a row' ma hp hI => by
    obtain ⟨h1, h2, h3, h4⟩ := hI
    have hok := inst_ok hr mt ma
    rw [hb, s_l2Put_eq _ _ (by omega) (fun f mf => by have := fact_args (h1.good.ok f mf); omega) (by have := fact_args hok; omega), Option.bind_some]
    refine ⟨_, rfl, ⟨h1.good.add hok (hS.derived mr mt ma), fun f mf => mem_insF.2 (.inr (h1.sub f mf))⟩, ?_, fun f mf => mem_insF.2 (.inr (h3 f mf)), fun b mb => ?_⟩
    · have := insF_len (instOf a t) row'
      simp only [List.length_append, List.length_singleton]
      omega
    · rcases List.mem_append.1 mb with mb | mb
      · exact mem_insF.2 (.inr (h4 b mb))
      · simp at mb
        subst mb
        exact mem_insF.2 (.inl rfl))
  exact ⟨row', e, h1, by omega, h3, h4⟩
theorem s_toks {ρ : Type} {R : List RuleD} {base l : List FactD} {r : RuleD} (mr : r ∈ R) (hr : isLogicalB r = true) (hS : Good R base l) (hl24 : l.length ≤ 24) (hc4 : r.cond.length ≤ 4) (ht2 : r.thn.length ≤ 2)
    {body : Nat → TokenD → List FactD → Option (List FactD ⊕ ρ)} (hb : ∀ i t row, t ∈ tokensP (posC r) l → body i t row = forL (fun (_ : Nat) (a : ActionD) row => (s_l2Put row (instOf a t)).bind fun v => (some (.inl v) : Option (List FactD ⊕ (List FactD ⊕ ρ)))) (fun row => some (.inl row)) r.thn 0 row) (row : List FactD) (h : PassS R base l row) (hlen : row.length ≤ 24) :
    ∃ row', (∀ fin : List FactD → Option ρ, forL body fin (tokensP (posC r) l) 0 row = fin row') ∧ PassS R base l row' ∧ (∀ f ∈ row, f ∈ row') ∧ ∀ t ∈ tokensP (posC r) l, ∀ a ∈ r.thn, instOf a t ∈ row' := by
  have hn := tokens_len l hl24 (posC r) (by have := posC_len r; omega)
  obtain ⟨row', e, h1, h2, h3, h4⟩ := forL_runA (body := body) (fun p row' => PassS R base l row' ∧ row'.length ≤ 24 + 2 * p.length ∧ (∀ f ∈ row, f ∈ row') ∧ ∀ t ∈ p, ∀ a ∈ r.thn, instOf a t ∈ row') (tokensP (posC r) l) row ⟨h, by simpa using hlen, fun f mf => mf, by simp⟩ (fun p t row' mt hp hI => by
    obtain ⟨h1, h2, h3, h4⟩ := hI
    rw [hb _ _ _ mt]
    obtain ⟨row2, e2, k1, k2, k3, k4⟩ := s_acts (ρ := List FactD ⊕ ρ) (body := fun (_ : Nat) (a : ActionD) row => (s_l2Put row (instOf a t)).bind fun v => some (.inl v)) mr hr hS mt (N := 24 + 2 * p.length) (by omega) ht2 (fun _ _ _ => rfl) row' h1 h2
    refine ⟨row2, e2 _, k1, by simp only [List.length_append, List.length_singleton]; omega, fun f mf => k3 f (h3 f mf), fun u mu a ma => ?_⟩
    rcases List.mem_append.1 mu with mu | mu
    · exact k3 _ (h4 u mu a ma)
    · simp at mu
      subst mu
      exact k4 a ma)
  exact ⟨row', e, h1, h3, h4⟩
theorem s_PossibleFacts_res {R : List RuleD} (hR : SmallRs R) (base : List FactD) (hb20 : base.length ≤ 1048576) : (¬ (areRulesB R && R.all (logicIn R)) = true ∨ ¬ areFactsB base = true → s_PossibleFacts R base = some ([], false)) ∧ ((areRulesB R && R.all (logicIn R)) = true → areFactsB base = true → ∃ x, s_PossibleFacts R base = some x ∧ Res R base x) := by
  constructor
  · intro h
    unfold s_PossibleFacts
    rw [s_AreLogical_eq hR, Option.bind_some]
    split
    · rename_i h1
      rw [s_AreFacts_eq _ hb20, Option.bind_some, if_neg (h.resolve_left (fun h => h h1))]
    · rfl
  · intro h1 h2
    have hL : ∀ r ∈ R, isLogicalB r = true := fun r mr => by
      rw [Bool.and_eq_true] at h1
      have := List.all_eq_true.1 h1.2 r mr
      unfold logicIn at this
      rw [Bool.and_eq_true] at this
      exact this.1
    have hrl : ∀ r ∈ R, r.cond.length ≤ 4 ∧ r.thn.length ≤ 2 := fun r mr => by
      have := hL r mr
      unfold isLogicalB at this
      simp only [Bool.and_eq_true] at this
      exact isRuleB_len this.1.1
    obtain ⟨hF24, hFF⟩ := areFacts_ok h2
    have hbase : Good R base base := ⟨areFacts_asc h2, hFF, fun f mf => mf, fun G hG f mf => hG.base f mf⟩
    unfold s_PossibleFacts
    rw [s_AreLogical_eq hR, Option.bind_some, if_pos h1, s_AreFacts_eq _ hb20, Option.bind_some, if_pos h2, s_l2Copies_eq _ (by omega) (fun f mf => by have := fact_args (hFF f mf); omega), Option.bind_some]
    refine search (fun row => rfl) (fun l hg hl => ?_) hbase hF24
    rcases forL_runE (σ := List FactD) (ρ := (List FactD × Bool) ⊕ (List FactD × Bool)) (body := fun (_ : Nat) (r : RuleD) row => (s_l14Positive r).bind fun v745 => (s_l6Tokens v745 l).bind fun v746 => forL (fun _ t row => forL (fun _ a row => (s_Instance a.pattern t.binding).bind fun v802 => (s_l2Put row v802.1).bind fun v803 => some (.inl v803)) (fun row => some (.inl row)) r.thn 0 row) (fun row => if (decide (24 < ((row.length : Nat) : Int))) = true then some (.inr (.inr ([], false))) else some (.inl row)) v746 0 row)
      (fun p row => PassS R base l row ∧ row.length ≤ 24 ∧ ∀ r ∈ p, ∀ t ∈ tokensP (posC r) l, ∀ a ∈ r.thn, instOf a t ∈ row) (fun x => x = .inr ([], false) ∧ Over R base) R l ⟨⟨hg, fun f mf => mf⟩, hl, by simp⟩ (fun p r row mr hp hI => by
        obtain ⟨i1, i2, i3⟩ := hI
        obtain ⟨hc4, ht2⟩ := hrl r mr
        obtain ⟨row', e, k1, k3, k4⟩ := s_toks (ρ := List FactD ⊕ ((List FactD × Bool) ⊕ (List FactD × Bool))) (body := fun (_ : Nat) (t : TokenD) row => forL (fun _ a row => (s_Instance a.pattern t.binding).bind fun v802 => (s_l2Put row v802.1).bind fun v803 => some (.inl v803)) (fun row => some (.inl row)) r.thn 0 row) mr (hL r mr) hg hl hc4 ht2 (fun i t row mt => by
          have hb6 := isBindB_len (tokens_ok l _ t mt).bind
          have e1 : ∀ p, s_Instance p t.binding = some (factR (instP p t.binding)) := fun p => s_Instance_eq p t.binding (by omega)
          simp only [e1, Option.bind_some]
          rfl) row i1 i2
        simp only [s_l14Positive_eq r (by omega), Option.bind_some, s_l6Tokens_eq (posC r) l (by have := posC_len r; omega) hl (fun f mf => fact_args (hg.ok f mf)), e]
        by_cases h24 : 24 < row'.length
        · rw [if_pos (by simp; omega)]
          exact .inr ⟨_, rfl, rfl, k1.good.over (by omega)⟩
        · rw [if_neg (by simp; omega)]
          refine .inl ⟨_, rfl, k1, by omega, fun u mu t mt a ma => ?_⟩
          rcases List.mem_append.1 mu with mu | mu
          · exact k3 _ (i3 u mu t mt a ma)
          · simp at mu
            subst mu
            exact k4 t mt a ma) with ⟨row, e, hP, hlen, hC⟩ | ⟨x, e, rfl, ho⟩
    · left
      refine ⟨_, e (fun row => some (.inl (row, decide (((l.length : Nat) : Int) < ((row.length : Nat) : Int))))), ?_⟩
      by_cases hlt : l.length < row.length
      · have hd : decide (((l.length : Nat) : Int) < ((row.length : Nat) : Int)) = true := by simpa using hlt
        rw [hd]
        exact ⟨⟨hP.good, hlen, hP.sub, fun _ => hlt, fun h => by simp at h⟩, fun h => by simp at h⟩
      · have hd : decide (((l.length : Nat) : Int) < ((row.length : Nat) : Int)) = false := by simpa using hlt
        have hback := nodup_back (ascF_nodup hg.asc) hP.sub (by omega)
        have heq : row = l := ascF_ext hP.good.asc hg.asc fun f => ⟨hback f, hP.sub f⟩
        rw [hd]
        exact ⟨⟨hP.good, hlen, hP.sub, fun h => by simp at h, fun _ => heq⟩, fun _ r mr t mt a ma => hback _ (hC r mr t mt a ma)⟩
    · exact .inr ⟨e (fun row => some (.inl (row, decide (((l.length : Nat) : Int) < ((row.length : Nat) : Int))))), ho⟩
/-- both find the same; what is found is closed, the least, and not too long -/
theorem PossibleFacts_both {R : List RuleD} (hR : SmallRs R) (base : List FactD) (hb20 : base.length ≤ 1048576) : ∃ x, s_PossibleFacts R base = some x ∧ i_PossibleFacts R base = some x ∧ (x = ([], false) ∨ (areRulesB R && R.all (logicIn R)) = true ∧ areFactsB base = true ∧ Res R base x) := by
  obtain ⟨s1, s2⟩ := s_PossibleFacts_res hR base hb20
  obtain ⟨i1, i2⟩ := i_PossibleFacts_res hR base
  by_cases h1 : (areRulesB R && R.all (logicIn R)) = true
  · by_cases h2 : areFactsB base = true
    · obtain ⟨x, e1, r1⟩ := s2 h1 h2
      obtain ⟨y, e2, r2⟩ := i2 h1 h2
      rw [← r1.uniq r2] at e2
      exact ⟨x, e1, e2, .inr ⟨h1, h2, r1⟩⟩
    · exact ⟨_, s1 (.inr h2), i1 (.inr h2), .inl rfl⟩
  · exact ⟨_, s1 (.inl h1), i1 (.inl h1), .inl rfl⟩
theorem sum_few {α : Type} {f : α → Nat} {N : Nat} : ∀ {l : List α}, (∀ x ∈ l, f x ≤ N) → (l.map f).sum ≤ l.length * N
  | [], _ => by simp
  | x :: l, h => by
    have h1 := h x (by simp)
    have h2 := sum_few (l := l) fun y my => h y (by simp [my])
    simp only [List.map_cons, List.sum_cons, List.length_cons, Nat.add_mul]
    omega
theorem fact_cost {f : FactD} (h : isFactB f = true) : costFact f ≤ 64 := by
  unfold isFactB isNameB at h
  simp only [Bool.and_eq_true, decide_eq_true_eq, List.all_eq_true] at h
  obtain ⟨⟨⟨h1, _⟩, h2⟩, h3⟩ := h
  have h4 := (isAtomB_size h1).2
  have h5 : (f.args.map ByteArray.size).sum ≤ f.args.length * 8 := sum_few fun x mx => (isAtomB_size (h3 x mx)).2
  unfold costFact costStrs
  omega
theorem PossibleFacts_plain (aRules : List RuleD) (cz : costRuleS aRules ≤ 1048576) (_ : (fun ds => ∀ d ∈ ds, wfRule d) aRules) (aBase : List FactD) (cf : costFactS aBase ≤ 1048576) (_ : (fun ds => ∀ d ∈ ds, wfFact d) aBase) : ∃ r b, s_PossibleFacts aRules aBase = some (r, b) ∧ i_PossibleFacts aRules aBase = some (r, b) ∧ (r.length ≤ 1048576 ∧ costFactS r ≤ 1048576) := by
  have hF : aBase.length ≤ 1048576 := by unfold costFactS at cf; omega
  obtain ⟨⟨r, b⟩, h1, h2, h3⟩ := PossibleFacts_both (rules_small cz) aBase hF
  refine ⟨r, b, h1, h2, ?_⟩
  have hk : r.length ≤ 24 ∧ ∀ f ∈ r, isFactB f = true := by
    rcases h3 with h3 | ⟨_, _, h3⟩
    · simp only [Prod.mk.injEq] at h3
      rw [h3.1]; simp
    · rcases h3 with ⟨_, h3, h4, _⟩ | ⟨_, h3, _⟩
      · exact ⟨h4, h3.ok⟩
      · simp only at h3
        rw [h3]; simp
  have h4 : (r.map costFact).sum ≤ r.length * 64 := sum_few fun x mx => fact_cost (hk.2 x mx)
  unfold costFactS
  omega
end Go.Proofs.YtlkgkkacnoaeaaaGreatDoor

namespace Go.Proofs.YtlkgkkacnoaeaaaGreatDoor
open Go.RowKit
def All2 {α β : Type} (R : α → β → Prop) : List α → List β → Prop
  | [], [] => True
  | a :: l, b :: r => R a b ∧ All2 R l r
  | _, _ => False
section
variable {α β : Type} {R R' : α → β → Prop}
theorem All2.len : ∀ {l : List α} {r : List β}, All2 R l r → l.length = r.length
  | [], [], _ => rfl
  | _ :: _, _ :: _, h => by simp [h.2.len]
  | [], _ :: _, h => h.elim
  | _ :: _, [], h => h.elim
theorem All2.mono : ∀ {l : List α} {r : List β}, All2 R l r → (∀ a b, a ∈ l → R a b → R' a b) → All2 R' l r
  | [], [], _, _ => trivial
  | _ :: _, _ :: _, h, f => ⟨f _ _ (by simp) h.1, h.2.mono fun a b m => f a b (by simp [m])⟩
  | [], _ :: _, h, _ => h.elim
  | _ :: _, [], h, _ => h.elim
theorem All2.at : ∀ {l : List α} {r : List β} {i : Nat} {a : α}, All2 R l r → l[i]? = some a → ∃ b, r[i]? = some b ∧ R a b
  | [], [], _, _, _, h => by simp at h
  | _ :: _, b :: _, 0, _, h, e => by simp at e; subst e; exact ⟨b, by simp, h.1⟩
  | _ :: _, _ :: _, i + 1, a, h, e => by
    obtain ⟨b, h1, h2⟩ := h.2.at (i := i) (a := a) (by simpa using e)
    exact ⟨b, by simpa using h1, h2⟩
  | [], _ :: _, _, _, h, _ => h.elim
  | _ :: _, [], _, _, h, _ => h.elim
theorem All2.set : ∀ {l : List α} {r : List β} {i : Nat} {a : α} {b : β}, All2 R l r → R a b → All2 R (l.set i a) (r.set i b)
  | [], [], _, _, _, _, _ => trivial
  | _ :: _, _ :: _, 0, _, _, h, e => ⟨e, h.2⟩
  | _ :: _, _ :: _, _ + 1, _, _, h, e => ⟨h.1, h.2.set e⟩
  | [], _ :: _, _, _, _, h, _ => h.elim
  | _ :: _, [], _, _, _, h, _ => h.elim
theorem All2.drop : ∀ {l : List α} {r : List β} (n : Nat), All2 R l r → All2 R (l.drop n) (r.drop n)
  | _, _, 0, h => by simpa using h
  | [], [], n + 1, _ => by simp [All2]
  | _ :: _, _ :: _, n + 1, h => by simpa using h.2.drop n
  | [], _ :: _, _ + 1, h => h.elim
  | _ :: _, [], _ + 1, h => h.elim
theorem All2.take : ∀ {l : List α} {r : List β} (n : Nat), All2 R l r → All2 R (l.take n) (r.take n)
  | _, _, 0, h => by simp [All2]
  | [], [], n + 1, _ => by simp [All2]
  | _ :: _, _ :: _, n + 1, h => by simpa using ⟨h.1, h.2.take n⟩
  | [], _ :: _, _ + 1, h => h.elim
  | _ :: _, [], _ + 1, h => h.elim
theorem All2.append : ∀ {l l' : List α} {r r' : List β}, All2 R l r → All2 R l' r' → All2 R (l ++ l') (r ++ r')
  | [], _, [], _, _, h => h
  | _ :: _, _, _ :: _, _, h, h' => ⟨h.1, h.2.append h'⟩
  | [], _, _ :: _, _, h, _ => h.elim
  | _ :: _, _, [], _, h, _ => h.elim
end
/-- the block from which on blocks are the call's own -/
class NW where
  B0 : Nat
/-- what stands behind the keys: the value, the block that it writes to, the blocks that its elements lead to -/
structure Gh where
  val : Nat → Value
  O : Nat → List Nat
  D : Nat → List Nat
  Z : Nat → Prop
/-- a block that may be written to: a row's or a box's of this call, or one of a call below (Z) -/
def Gh.own (g : Gh) (b : Nat) : Prop := (∃ k, b ∈ g.O k) ∨ g.Z b
/-- the world at the call's start, the blocks that calls below may write to (z), those that were handed in to be written to (x), and the first argument if it was handed in (hv) -/
structure Base extends World where
  z : Nat → Prop
  x : Nat → Prop
  hv : Option Value
structure Bel (W : Base) (w : World) : Prop where
  os : w.os = W.os
  tape : w.tape = W.tape
  output : w.output = W.output
  size : W.heap.size ≤ w.heap.size
  block : ∀ k, k < W.heap.size → ¬ W.x k → w.heap[k]? = W.heap[k]?
theorem Bel.trans {W : Base} {w w' : World} (h : Bel W w) (k : Below w.heap.size w w') : Bel W w' :=
  ⟨k.os.trans h.os, k.tape.trans h.tape, k.output.trans h.output, Nat.le_trans h.size k.size, fun i hi hx => (k.block i (Nat.lt_of_lt_of_le hi h.size)).trans (h.block i hi hx)⟩
/-- a row that the call has made, only read by now -/
def NR [NW] (g : Gh) (w : World) (x : CT) (v : Value) : Prop :=
  ∃ e m xs cs L, x = .sl e m xs ∧ 0 < m ∧ w.ownsV 0 e m v xs.length cs ∧ REs w m xs cs L ∧ (v.ownBlock.toList ++ L).Nodup ∧ ∀ b ∈ v.ownBlock.toList ++ L, ¬ g.own b ∧ NW.B0 ≤ b ∧ ∃ cur t, w.heap[b]? = some (.cells cur t (0, 0))
def AVR [NW] (g : Gh) (w : World) : AV → Value → Prop
  | .c x, v => ∃ L, RC w x v L ∧ ∀ b ∈ L, ¬ g.own b
  | .n x, v => NR g w x v
  | .row k, v => v = g.val k ∧ v.oneCell' = true
  | .nil _ _, v => v = .slice none 0 0
  | .dead, v => v.oneCell' = true
def PVR [NW] (g : Gh) (w : World) : Bool → List AV → Value → Prop
  | true, cs, v => ∃ vs : List Value, v = .agg vs.toArray ∧ All2 (AVR g w) cs vs
  | false, cs, v => ∃ x, cs = [x] ∧ AVR g w x v
def SVR [NW] (g : Gh) (w : World) : SV → Value → Prop
  | .any, _ => True
  | .und, v => v = undef
  | .p a cs, v => PVR g w a cs v
  | .tup xs, v => ∃ vs : List Value, v = .tuple vs.toArray ∧ All2 (fun x u => PVR g w x.1 x.2 u) xs vs
  | .bp k off, v => ∃ b, g.val k = .pointer (some ⟨b, 0, none⟩) ∧ v = .pointer (some ⟨b, off, none⟩)
  | .rp k m i off, v => ∃ b o n c, g.val k = .slice (some ⟨b, o, none⟩) n c ∧ v = .pointer (some ⟨b, o + (i * m + off), none⟩)
  | .ep e off, v => ∃ b lo cs L, v = .pointer (some ⟨b, lo + off, none⟩) ∧ CellsAt w b lo cs ∧ RCs w e cs L ∧ (∀ x ∈ b :: L, ¬ g.own x) ∧ b < w.heap.size
  | .fn f, v => v = .func (.func f) #[] #[]
def ObR [NW] (g : Gh) (w : World) (k : Nat) : Ob → Prop
  | .gone => g.O k = [] ∧ g.D k = []
  | .box t cs => ∃ b vs, g.val k = .pointer (some ⟨b, 0, none⟩) ∧ g.O k = [b] ∧ g.D k = [] ∧ w.heap[b]? = some (.cells vs.toArray t (0, 0)) ∧ All2 (AVR g w) cs vs
  | .row e m xs d => 0 < m ∧ ∃ cs L, w.ownsV 0 e m (g.val k) xs.length cs ∧ REs w m xs cs L ∧ ((d = 2 ∧ g.O k = (g.val k).ownBlock.toList ∧ g.D k = L) ∨ (d = 1 ∧ g.O k = (g.val k).ownBlock.toList ∧ g.D k = [] ∧ ∀ b ∈ L, ¬ g.own b) ∨ (d = 0 ∧ g.O k = [] ∧ g.D k = [] ∧ ∀ b ∈ (g.val k).ownBlock.toList ++ L, ¬ g.own b))
  | .map kk vk kv => ∃ b es c, g.val k = .map (some b) ∧ g.O k = [b] ∧ g.D k = [] ∧ w.heap[b]? = some (.map es c) ∧ mapOf es = kv ∧ mapOk kk vk kv
/-- what a row, a box or a map is in the heap -/
def PlainAt (w : World) (o : Ob) (b : Nat) : Prop :=
  match o with
  | .map _ _ _ => ∃ es c, w.heap[b]? = some (.map es c)
  | _ => ∃ cur e, w.heap[b]? = some (.cells cur e (0, 0))
theorem PlainAt.lt {w : World} {o : Ob} {b : Nat} (h : PlainAt w o b) : b < w.heap.size := by
  unfold PlainAt at h
  split at h
  · obtain ⟨_, _, h⟩ := h; exact (Array.getElem?_eq_some_iff.1 h).1
  · obtain ⟨_, _, h⟩ := h; exact (Array.getElem?_eq_some_iff.1 h).1
theorem PlainAt.keep {w w' : World} {o : Ob} {b : Nat} (h : PlainAt w o b) (e : w'.heap[b]? = w.heap[b]?) : PlainAt w' o b := by
  unfold PlainAt at h ⊢
  rw [e]; exact h
def mapB : Ob → Bool
  | .map _ _ _ => true
  | _ => false
theorem PlainAt.of {w : World} {o o' : Ob} {b : Nat} (h : PlainAt w o b) (e : mapB o' = mapB o) : PlainAt w o' b := by
  cases o <;> cases o' <;> simp [mapB] at e <;> exact h
structure HI [NW] (W : Base) (g : Gh) (ob : Nat → Ob) (w : World) : Prop where
  below : Bel W w
  obs : ∀ k, ObR g w k (ob k)
  nodup : ∀ k, (g.O k ++ g.D k).Nodup
  apart : ∀ k j, k ≠ j → ∀ b ∈ g.O k ++ g.D k, b ∉ g.O j ++ g.D j
  plain : ∀ k, ∀ b ∈ g.O k ++ g.D k, (W.heap.size ≤ b ∨ W.x b) ∧ PlainAt w (ob k) b
  gz : g.Z = W.z
  zx : ∀ b, W.z b → b < W.heap.size ∧ ¬ W.x b
  nw : ∀ b, (W.heap.size ≤ b ∨ W.x b) → NW.B0 ≤ b
/-- the keys that a state names -/
def avU (U : Nat → Prop) : AV → Prop
  | .row k => U k
  | _ => True
def avsU (U : Nat → Prop) (cs : List AV) : Prop := ∀ x ∈ cs, avU U x
def svU (U : Nat → Prop) : SV → Prop
  | .p _ cs => avsU U cs
  | .tup xs => ∀ x ∈ xs, avsU U x.2
  | .bp k _ => U k
  | .rp k _ _ _ => U k
  | _ => True
def obU (U : Nat → Prop) : Ob → Prop
  | .box _ cs => avsU U cs
  | _ => True
structure StU (U : Nat → Prop) (st : St) : Prop where
  sl : ∀ t, svU U (st.sl t)
  ob : ∀ k, obU U (st.ob k)
  gone : ∀ k, ¬ U k → st.ob k = .gone
theorem HI.lt [NW] {W : Base} {g : Gh} {ob : Nat → Ob} {w : World} (h : HI W g ob w) (k : Nat) : ∀ b ∈ g.O k ++ g.D k, b < w.heap.size := by
  intro b m
  exact (h.plain k b m).2.lt
/-- what a row or a box leads to is no block of a call below -/
theorem HI.nz [NW] {W : Base} {g : Gh} {ob : Nat → Ob} {w : World} (h : HI W g ob w) {k b : Nat} (m : b ∈ g.O k ++ g.D k) : ¬ g.Z b := fun hz => by
  rw [h.gz] at hz
  obtain ⟨h1, h2⟩ := h.zx b hz
  rcases (h.plain k b m).1 with h3 | h3
  · omega
  · exact h2 h3
section
variable {g g' : Gh} {w w' : World} {U : Nat → Prop}
theorem NR.move [NW] {x : CT} {v : Value} (h : NR g w x v)
    (hw : ∀ b, b < w.heap.size → ¬ g.own b → w'.heap[b]? = w.heap[b]?) (ho : ∀ b, g'.own b → g.own b ∨ w.heap.size ≤ b) : NR g' w' x v := by
  obtain ⟨e, m, xs, cs, L, h1, h2, h3, h4, h5, h6⟩ := h
  have hlt : ∀ b ∈ v.ownBlock.toList ++ L, b < w.heap.size := fun b mb => by
    obtain ⟨_, _, _, _, q⟩ := h6 b mb
    exact (Array.getElem?_eq_some_iff.1 q).1
  have hs : ∀ b ∈ v.ownBlock.toList ++ L, w'.heap[b]? = w.heap[b]? := fun b mb => hw b (hlt b mb) (h6 b mb).1
  refine ⟨e, m, xs, cs, L, h1, h2, ownsV_keep h3 fun b mb => hs b (by simp [mb]), h4.keep fun b mb => hs b (by simp [mb]), h5, fun b mb => ⟨fun o => ?_, (h6 b mb).2.1, by rw [hs b mb]; exact (h6 b mb).2.2⟩⟩
  rcases ho b o with o | o
  · exact (h6 b mb).1 o
  · have := hlt b mb; omega
theorem AVR.move [NW] {x : AV} {v : Value} (h : AVR g w x v) (hx : avU U x) (hv : ∀ k, U k → g'.val k = g.val k)
    (hw : ∀ b, b < w.heap.size → ¬ g.own b → w'.heap[b]? = w.heap[b]?) (ho : ∀ b, g'.own b → g.own b ∨ w.heap.size ≤ b) : AVR g' w' x v := by
  cases x with
  | c x =>
    obtain ⟨L, h1, h2⟩ := h
    have hlt := h1.lt
    refine ⟨L, h1.keep fun b m => hw b (hlt b m) (h2 b m), fun b m o => ?_⟩
    rcases ho b o with o | o
    · exact h2 b m o
    · have := hlt b m; omega
  | n x => exact NR.move h hw ho
  | row k => exact ⟨h.1.trans (hv k hx).symm, h.2⟩
  | nil e m => exact h
  | dead => exact h
theorem AVRs.move [NW] {cs : List AV} {vs : List Value} (h : All2 (AVR g w) cs vs) (hx : avsU U cs) (hv : ∀ k, U k → g'.val k = g.val k)
    (hw : ∀ b, b < w.heap.size → ¬ g.own b → w'.heap[b]? = w.heap[b]?) (ho : ∀ b, g'.own b → g.own b ∨ w.heap.size ≤ b) : All2 (AVR g' w') cs vs :=
  h.mono fun a _ m r => r.move (hx a m) hv hw ho
theorem PVR.move [NW] {a : Bool} {cs : List AV} {v : Value} (h : PVR g w a cs v) (hx : avsU U cs) (hv : ∀ k, U k → g'.val k = g.val k)
    (hw : ∀ b, b < w.heap.size → ¬ g.own b → w'.heap[b]? = w.heap[b]?) (ho : ∀ b, g'.own b → g.own b ∨ w.heap.size ≤ b) : PVR g' w' a cs v := by
  cases a with
  | true => obtain ⟨vs, h1, h2⟩ := h; exact ⟨vs, h1, AVRs.move h2 hx hv hw ho⟩
  | false => obtain ⟨x, h1, h2⟩ := h; exact ⟨x, h1, h2.move (hx x (by simp [h1])) hv hw ho⟩
theorem SVR.move [NW] {s : SV} {v : Value} (h : SVR g w s v) (hx : svU U s) (hv : ∀ k, U k → g'.val k = g.val k)
    (hw : ∀ b, b < w.heap.size → ¬ g.own b → w'.heap[b]? = w.heap[b]?) (ho : ∀ b, g'.own b → g.own b ∨ w.heap.size ≤ b) (hs : w.heap.size ≤ w'.heap.size) : SVR g' w' s v := by
  cases s with
  | any => exact h
  | und => exact h
  | p a cs => exact PVR.move h hx hv hw ho
  | tup xs =>
    obtain ⟨vs, h1, h2⟩ := h
    exact ⟨vs, h1, h2.mono fun x _ m r => r.move (hx x m) hv hw ho⟩
  | bp k off => obtain ⟨b, h1, h2⟩ := h; exact ⟨b, (hv k hx).trans h1, h2⟩
  | rp k m i off => obtain ⟨b, o, n, c, h1, h2⟩ := h; exact ⟨b, o, n, c, (hv k hx).trans h1, h2⟩
  | ep e off =>
    obtain ⟨b, lo, cs, L, h1, h2, h3, h4, h5⟩ := h
    have hlt := h3.lt
    refine ⟨b, lo, cs, L, h1, fun j u hu => ?_, h3.keep fun x m => hw x (hlt x m) (h4 x (by simp [m])), fun x m o => ?_, by omega⟩
    · rw [← h2 j u hu]; exact World.cell?_of_block (hw b h5 (h4 b (by simp)))
    · rcases ho x o with o | o
      · exact h4 x m o
      · rcases List.mem_cons.1 m with rfl | m
        · omega
        · have := hlt x m; omega
  | fn f => exact h
/-- a step of the world and of what stands behind the keys: the keys in T are turned, the others stay -/
theorem HI.step [NW] {W : Base} {ob ob' : Nat → Ob} (h : HI W g ob w) (T : Nat → Prop)
    (hbel : Bel W w') (hZ : g'.Z = g.Z)
    (hw : ∀ b, b < w.heap.size → (∀ k, T k → b ∉ g.O k) → w'.heap[b]? = w.heap[b]?)
    (hk : ∀ k, ¬ T k → ob' k = ob k ∧ g'.val k = g.val k ∧ g'.O k = g.O k ∧ g'.D k = g.D k)
    (hobU : ∀ k, obU U (ob k)) (hv : ∀ k, U k → g'.val k = g.val k)
    (ho : ∀ b, g'.own b → g.own b ∨ w.heap.size ≤ b)
    (hT : ∀ k, T k → ObR g' w' k (ob' k) ∧ (g'.O k ++ g'.D k).Nodup ∧ (∀ b ∈ g'.O k ++ g'.D k, (W.heap.size ≤ b ∨ W.x b) ∧ PlainAt w' (ob' k) b) ∧ ∀ j, k ≠ j → ∀ b ∈ g'.O k ++ g'.D k, b ∉ g'.O j ++ g'.D j) :
    HI W g' ob' w' := by
  have hw' : ∀ b, b < w.heap.size → ¬ g.own b → w'.heap[b]? = w.heap[b]? := fun b hb hn => hw b hb fun k _ m => hn (.inl ⟨k, m⟩)
  have hkeepF : ∀ k, ¬ T k → ∀ b ∈ g.O k ++ g.D k, w'.heap[b]? = w.heap[b]? := fun k hk b m =>
    hw b (h.lt k b m) fun j hj mj => h.apart j k (fun e => hk (e ▸ hj)) b (by simp [mj]) m
  refine ⟨hbel, fun k => ?_, fun k => ?_, fun k j hkj b m => ?_, fun k b m => ?_, hZ.trans h.gz, h.zx, h.nw⟩
  · by_cases hTk : T k
    · exact (hT k hTk).1
    · obtain ⟨e1, e2, e3, e4⟩ := hk k hTk
      have hob := h.obs k
      have hF := hkeepF k hTk
      have hU := hobU k
      rw [e1]
      cases hok : ob k with
      | gone => rw [hok] at hob; exact ⟨e3.trans hob.1, e4.trans hob.2⟩
      | box t cs =>
        rw [hok] at hob hU
        obtain ⟨b, vs, h1, h2, h3, h4, h5⟩ := hob
        exact ⟨b, vs, e2.trans h1, e3.trans h2, e4.trans h3, by rw [hF b (by simp [h2])]; exact h4, AVRs.move h5 hU hv hw' ho⟩
      | map kk vk kv =>
        rw [hok] at hob
        obtain ⟨b, es, c, h1, h2, h3, h4, h5⟩ := hob
        exact ⟨b, es, c, e2.trans h1, e3.trans h2, e4.trans h3, by rw [hF b (by simp [h2])]; exact h4, h5⟩
      | row e m xs d =>
        rw [hok] at hob
        obtain ⟨hm, cs, L, h1, h2, h4⟩ := hob
        have hltL := h2.lt
        have hL : ∀ b ∈ L, w'.heap[b]? = w.heap[b]? := fun b mb => by
          rcases h4 with ⟨_, _, h4⟩ | ⟨_, _, _, h4⟩ | ⟨_, _, _, h4⟩
          · exact hF b (by simp [h4, mb])
          · exact hw' b (hltL b mb) (h4 b mb)
          · exact hw' b (hltL b mb) (h4 b (by simp [mb]))
        have hOb : ∀ b ∈ (g.val k).ownBlock.toList, w'.heap[b]? = w.heap[b]? := fun b mb => by
          rcases h4 with ⟨_, h3, _⟩ | ⟨_, h3, _⟩ | ⟨_, _, _, h4⟩
          · exact hF b (by simp [h3, mb])
          · exact hF b (by simp [h3, mb])
          · exact hw' b (own_lt h1 b mb) (h4 b (by simp [mb]))
        refine ⟨hm, cs, L, by rw [e2]; exact ownsV_keep h1 hOb, h2.keep hL, ?_⟩
        rw [e2, e3, e4]
        have hno : ∀ b, b < w.heap.size → ¬ g.own b → ¬ g'.own b := fun b hb hn o => by
          rcases ho b o with o | o
          · exact hn o
          · omega
        rcases h4 with h4 | ⟨hd, h3, h4, h5⟩ | ⟨hd, h3, h4, h5⟩
        · exact .inl h4
        · exact .inr (.inl ⟨hd, h3, h4, fun b mb => hno b (hltL b mb) (h5 b mb)⟩)
        · refine .inr (.inr ⟨hd, h3, h4, fun b mb => ?_⟩)
          rcases List.mem_append.1 mb with m1 | m1
          · exact hno b (own_lt h1 b m1) (h5 b mb)
          · exact hno b (hltL b m1) (h5 b mb)
  · by_cases hTk : T k
    · exact (hT k hTk).2.1
    · obtain ⟨e1, e2, e3, e4⟩ := hk k hTk
      rw [e3, e4]; exact h.nodup k
  · by_cases hTk : T k
    · exact (hT k hTk).2.2.2 j hkj b m
    · by_cases hTj : T j
      · exact fun mj => (hT j hTj).2.2.2 k (fun e => hkj e.symm) b mj m
      · obtain ⟨_, _, e3, e4⟩ := hk k hTk
        obtain ⟨_, _, f3, f4⟩ := hk j hTj
        rw [e3, e4] at m
        rw [f3, f4]
        exact h.apart k j hkj b m
  · by_cases hTk : T k
    · exact (hT k hTk).2.2.1 b m
    · obtain ⟨_, _, e3, e4⟩ := hk k hTk
      rw [e3, e4] at m
      obtain ⟨p1, p2⟩ := h.plain k b m
      obtain ⟨e1, _⟩ := hk k hTk
      exact ⟨p1, by rw [e1]; exact p2.keep (hkeepF k hTk b m)⟩
end
/-- a state stands for a frame and a world -/
structure Inv [NW] (W : Base) (U : Nat → Prop) (st : St) (a : Act) (w : World) : Prop where
  ex : ∃ g, HI W g st.ob w ∧ ∀ t, SVR g w (st.sl t) (a.tmps.getD t undef)
  wf : StU U st
  defers : a.defers = []
  hand : ∀ v, W.hv = some v → a.tmps.getD 0 undef = v
end Go.Proofs.YtlkgkkacnoaeaaaGreatDoor

namespace Go.Proofs.YtlkgkkacnoaeaaaGreatDoor
open Go.RowKit
def constB : AV → Value → Bool
  | .c (.int k n), .int k' n' => k == k' && n == n'
  | .c (.bool b), .bool b' => b == b'
  | .c (.str s), .string s' => s.data.toList == s'.data.toList && strOk s
  | .nil _ m, .slice none 0 0 => Nat.blt 0 m
  | _, _ => false
def kindB : TypeDesc → AV → Bool
  | .int k, .c (.int k' _) => k == k'
  | .bool, .c (.bool _) => true
  | .string, .c (.str _) => true
  | _, _ => false
def aggD : TypeDesc → Bool
  | .struct _ => true
  | .array _ _ => true
  | _ => false
def kindP : PK → TypeDesc → Bool
  | .int k, .int k' => k == k'
  | .str, .string => true
  | .bool, .bool => true
  | _, _ => false
def EqF (P : Program) : List PK → List Field → Nat → Prop
  | [], [], _ => True
  | k :: ks, f :: fs, n => f.name ≠ "_" ∧ f.offset = n ∧ (∃ d, P.underlying f.type = some d ∧ kindP k d = true) ∧ EqF P ks fs (n + 1)
  | _, _, _ => False
def TOk (P : Program) (t : TypeId) : TI → Prop
  | .atom z => ∃ d zv i, P.underlying t = some d ∧ kindB d z = true ∧ P.info? t = some i ∧ i.zero = some zv ∧ i.size = 1 ∧ constB z zv = true
  | .strct fs n z => ∃ (fields : Array Field) (i : TypeInfo) (zvs : Array Value), P.underlying t = some (.struct fields) ∧ P.info? t = some i ∧ i.size = n ∧ i.zero = some (.agg zvs) ∧ All2 (fun a v => constB a v = true) z zvs.toList ∧
      All2 (fun (fi : FI) (f : Field) => f.offset = fi.off ∧ fi.size ≠ 0 ∧ ∃ j d, P.info? f.type = some j ∧ j.size = fi.size ∧ P.underlying f.type = some d ∧ aggD d = fi.agg) fs fields.toList
  | .slice e m bytes z => P.underlying t = some (.slice e) ∧ 0 < m ∧ bytes ≤ 131072 ∧ (∃ (i : TypeInfo) (zv : Value), P.info? e = some i ∧ i.size = m ∧ i.bytes = bytes ∧ i.zero = some zv ∧ All2 (fun a v => constB a v = true) z zv.cells.toList ∧ z.length = m) ∧
      ∃ j : TypeInfo, P.info? t = some j ∧ j.size = 1 ∧ j.zero = some (.slice none 0 0)
  | .ifc => ∃ ms, P.underlying t = some (.interface ms)
  | .map kk vk => ∃ kt et dk dv i zv, P.underlying t = some (.map kt et) ∧ P.underlying kt = some dk ∧ kindP kk dk = true ∧ P.underlying et = some dv ∧ kindP vk dv = true ∧ P.info? et = some i ∧ i.zero = some zv ∧ constB (zeroPK vk) zv = true
  | .eqs ks => ∃ u, t = u + 4000 ∧ P.underlying u = some (.struct (P.fieldsOf u)) ∧ P.stoodInHeld u = false ∧ P.eqGuardType P.depth u = false ∧ EqF P ks (P.fieldsOf u).toList 0
section
variable {P : Program} {w : World} {t : TypeId}
theorem run_info {i : TypeInfo} (h : P.info? t = some i) : (typeInfo t).run P w = .ok i w := by simp [typeInfo, program, Sem.run, h]
theorem run_und {d : TypeDesc} (h : P.underlying t = some d) : (underlying t).run P w = .ok d w := by simp [underlying, program, Sem.run, h]
theorem run_size [NW] {i : TypeInfo} (h : P.info? t = some i) : (sizeOf t).run P w = .ok i.size w := by simp [sizeOf, run_info h]
theorem run_zero [NW] {i : TypeInfo} {z : Value} (h : P.info? t = some i) (hz : i.zero = some z) : (zeroValue t).run P w = .ok z w := by simp [zeroValue, run_info h, hz]
theorem run_agg [NW] {d : TypeDesc} (h : P.underlying t = some d) : (isAgg t).run P w = .ok (aggD d) w := by
  simp only [isAgg, Sem.run_bind, run_und h, Result.andThen_ok]
  cases d <;> rfl
theorem kind_agg {d : TypeDesc} {z : AV} (h : kindB d z = true) : aggD d = false := by
  unfold kindB at h
  split at h <;> first | rfl | simp at h
end
section
variable {g : Gh} {w : World}
theorem strOk_le {s : ByteArray} (h : strOk s = true) : s.size ≤ 9223372036854775807 := by
  unfold strOk at h
  have := Nat.le_of_ble_eq_true h
  rw [Array.length_toList] at this
  exact this
theorem const_AVR [NW] {x : AV} {v : Value} (h : constB x v = true) : AVR g w x v := by
  unfold constB at h
  split at h
  · simp only [Bool.and_eq_true, beq_iff_eq] at h
    exact ⟨[], ⟨by rw [h.1, h.2], rfl⟩, by simp⟩
  · simp only [beq_iff_eq] at h
    exact ⟨[], ⟨by rw [h], rfl⟩, by simp⟩
  · rename_i s s'
    simp only [Bool.and_eq_true, beq_iff_eq] at h
    have e : s = s' := by
      cases s; cases s'
      simpa using h.1
    exact ⟨[], ⟨by rw [e], rfl, strOk_le h.2⟩, by simp⟩
  · rfl
  · simp at h
theorem AVR.one [NW] {x : AV} {v : Value} (h : AVR g w x v) : v.oneCell' = true := by
  cases x with
  | c x => obtain ⟨L, h1, _⟩ := h; exact h1.one
  | n x =>
    obtain ⟨e, m, xs, cs, L, h1, h2, h3, _⟩ := h
    obtain ⟨A, c, hv, _⟩ := ownV_slice h3
    simp [hv, Value.oneCell']
  | row k => exact h.2
  | nil e m => simp [AVR] at h; simp [h, Value.oneCell']
  | dead => exact h
theorem cells_one {v : Value} (h : v.oneCell' = true) : v.cells = #[v] := by
  cases v <;> simp [Value.oneCell'] at h <;> rfl
theorem PVR.cells [NW] {a : Bool} {cs : List AV} {v : Value} (h : PVR g w a cs v) : ∃ vs : List Value, v.cells = vs.toArray ∧ All2 (AVR g w) cs vs := by
  cases a with
  | true => obtain ⟨vs, rfl, h2⟩ := h; exact ⟨vs, rfl, h2⟩
  | false => obtain ⟨x, rfl, h2⟩ := h; exact ⟨[v], by rw [cells_one h2.one], ⟨h2, trivial⟩⟩
theorem AVRs.one [NW] {cs : List AV} {vs : List Value} (h : All2 (AVR g w) cs vs) : ∀ u ∈ vs, u.oneCell' = true := by
  induction vs generalizing cs with
  | nil => simp
  | cons v r ih =>
    cases cs with
    | nil => exact h.elim
    | cons c cs =>
      intro u m
      rcases List.mem_cons.1 m with rfl | m
      · exact h.1.one
      · exact ih h.2 u m
end
theorem ba_list (x y : ByteArray) : (x.toList == y.toList) = decide (x = y) := by
  rw [Bool.eq_iff_iff]
  simp only [beq_iff_eq, decide_eq_true_eq]
  constructor
  · intro h
    have h' : x.data.toList = y.data.toList := by rw [← ByteArray.toList_eq, ← ByteArray.toList_eq]; exact h
    cases x; cases y
    simpa using h'
  · rintro rfl; rfl
end Go.Proofs.YtlkgkkacnoaeaaaGreatDoor

namespace Go.Proofs.YtlkgkkacnoaeaaaGreatDoor
open Go.RowKit
def Uk (U : Nat → Prop) (key : Nat) : Nat → Prop := fun k => U k ∨ (key ≤ k ∧ k < key + 16)
theorem avU.mono {U U' : Nat → Prop} (h : ∀ k, U k → U' k) {x : AV} (hx : avU U x) : avU U' x := by cases x <;> first | exact h _ hx | trivial
theorem avsU.mono [NW] {U U' : Nat → Prop} (h : ∀ k, U k → U' k) {x : List AV} (hx : avsU U x) : avsU U' x := fun y m => (hx y m).mono h
theorem svU.mono [NW] {U U' : Nat → Prop} (h : ∀ k, U k → U' k) {x : SV} (hx : svU U x) : svU U' x := by
  cases x <;> first | exact avsU.mono h hx | exact fun y m => avsU.mono h (hx y m) | exact h _ hx | trivial
theorem obU.mono [NW] {U U' : Nat → Prop} (h : ∀ k, U k → U' k) {x : Ob} (hx : obU U x) : obU U' x := by
  cases x <;> first | exact avsU.mono h hx | trivial
def Fin [NW] (P : Program) (W : Base) (U : Nat → Prop) (key : Nat) (st : St) (g : Gh) (w : World) (s : Sem Next) (r : SV × List (Nat × Ob)) : Prop :=
  ∃ g' cv w', (s.run P w = .ok (.value cv) w' ∨ (s.run P w = .ok .skip w' ∧ cv = undef)) ∧ HI W g' (updAll st.ob r.2) w' ∧ SVR g' w' r.1 cv ∧ (∀ x v, svU U x → SVR g w x v → SVR g' w' x v) ∧
    svU (Uk U key) r.1 ∧ (∀ k, obU (Uk U key) (updAll st.ob r.2 k)) ∧ ∀ k, ¬ Uk U key k → updAll st.ob r.2 k = .gone
section
variable {P : Program} {W : Base} {U : Nat → Prop} {key : Nat} {st : St} {g : Gh} {w : World} {a : Act} {tt : Nat → Option TI}
theorem fin_pure [NW] {s : Sem Next} {v : SV} {cv : Value} (hI : HI W g st.ob w) (hU : StU U st) (hrun : s.run P w = .ok (.value cv) w) (hv : SVR g w v cv) (hu : svU U v) : Fin P W U key st g w s (v, []) :=
  ⟨g, cv, w, .inl hrun, hI, hv, fun _ _ _ h => h, hu.mono fun _ => .inl, fun k => (hU.ob k).mono fun _ => .inl, fun k hk => hU.gone k fun h => hk (.inl h)⟩
theorem svU_c (x : CT) : svU U (.p false [.c x]) := fun y m => by simp at m; subst m; trivial
theorem SVR_int [NW] (k : IntKind) (n : Int) : SVR g w (.p false [.c (.int k n)]) (.int k n) := ⟨_, rfl, [], ⟨rfl, rfl⟩, by simp⟩
theorem SVR_bool [NW] (b : Bool) : SVR g w (.p false [.c (.bool b)]) (.bool b) := ⟨_, rfl, [], ⟨rfl, rfl⟩, by simp⟩
theorem SVR_str [NW] {s : ByteArray} (h : s.size ≤ 9223372036854775807) : SVR g w (.p false [.c (.str s)]) (.string s) := ⟨_, rfl, [], ⟨rfl, rfl, h⟩, by simp⟩
theorem int_of [NW] {k : IntKind} {n : Int} {v : Value} (h : SVR g w (.p false [.c (.int k n)]) v) : v = .int k n := by
  obtain ⟨x, hx, h⟩ := h; simp at hx; subst hx; obtain ⟨L, h1, _⟩ := h; exact h1.1
theorem bool_of [NW] {b : Bool} {v : Value} (h : SVR g w (.p false [.c (.bool b)]) v) : v = .bool b := by
  obtain ⟨x, hx, h⟩ := h; simp at hx; subst hx; obtain ⟨L, h1, _⟩ := h; exact h1.1
theorem str_of [NW] {s : ByteArray} {v : Value} (h : SVR g w (.p false [.c (.str s)]) v) : v = .string s ∧ s.size ≤ 9223372036854775807 := by
  obtain ⟨x, hx, h⟩ := h; simp at hx; subst hx; obtain ⟨L, h1, _⟩ := h; exact ⟨h1.1, h1.2.2⟩
theorem cv_ok [NW] {t : Nat} (htt : ∀ t i, tt t = some i → TOk P t i) (v : Value) : SVR g w (cvT (tt t) v) v ∧ svU U (cvT (tt t) v) := by
  unfold cvT
  split
  · exact ⟨SVR_int _ _, svU_c _⟩
  · exact ⟨SVR_bool _, svU_c _⟩
  · split
    · rename_i h; exact ⟨SVR_str (strOk_le h), svU_c _⟩
    · exact ⟨trivial, trivial⟩
  · split
    · exact ⟨⟨_, rfl, rfl⟩, fun y m => by simp at m; subst m; trivial⟩
    · exact ⟨trivial, trivial⟩
  · exact ⟨trivial, trivial⟩
theorem ev_ok [NW] (htt : ∀ t i, tt t = some i → TOk P t i) (hS : ∀ t, SVR g w (st.sl t) (a.tmps.getD t undef)) (hU : StU U st) (t : Nat) (x : Operand) :
    SVR g w (st.ev tt t x) (a.eval x) ∧ svU U (st.ev tt t x) := by
  cases x with
  | tmp s => exact ⟨hS s, hU.sl s⟩
  | const v => exact cv_ok htt v
  | global _ => exact ⟨trivial, trivial⟩
  | func f => exact ⟨rfl, trivial⟩
set_option maxHeartbeats 1000000 in
theorem bin_int [NW] {op : BinOp} {t : Nat} {ox oy : Operand} {k k' : IntKind} {n n' : Int} {z : CT} (hk : k = k' ∨ op = .shl ∨ op = .shr) (hz : intV op k n n' = some z) :
    ∃ cv, (do eqGuard op t ox oy (.int k n) (.int k' n'); binOp op t (.int k n) (.int k' n') : Sem Value).run P w = .ok cv w ∧ SVR g w (.p false [.c z]) cv := by
  have hg : (eqGuard op t ox oy (.int k n) (.int k' n')).run P w = .ok () w := by
    cases op <;> rfl
  simp only [Sem.run_bind, hg, Result.andThen_ok]
  cases op <;> simp only [intV, bitV, andI, orI, xorI, andNotI, shlI, shrI, Option.map_none, Option.map_some, Option.some.injEq, reduceCtorEq] at hz <;> (try subst hz) <;>
    (try (split at hz <;> simp only [Option.some.injEq, reduceCtorEq] at hz; subst hz)) <;>
    simp only [reduceCtorEq, or_false, or_true] at hk <;> (try subst hk) <;>
    first
      | (refine ⟨_, ?_, SVR_int _ _⟩; simp [binOp, Op.intArith, Op.intDiv, Op.intBits, Op.shift, *]; done)
      | (refine ⟨_, ?_, SVR_bool _⟩; simp [binOp, Op.intCmp]; done)
set_option maxHeartbeats 1000000 in
theorem bin_str [NW] {op : BinOp} {t : Nat} {ox oy : Operand} {s s' : ByteArray} {z : CT} (hz : strV op s s' = some z) :
    ∃ cv, (do eqGuard op t ox oy (.string s) (.string s'); binOp op t (.string s) (.string s') : Sem Value).run P w = .ok cv w ∧ SVR g w (.p false [.c z]) cv := by
  have hg : (eqGuard op t ox oy (.string s) (.string s')).run P w = .ok () w := by
    cases op <;> rfl
  simp only [Sem.run_bind, hg, Result.andThen_ok]
  cases op <;> simp only [strV, Option.some.injEq, reduceCtorEq] at hz <;> (try subst hz) <;>
    first
      | (refine ⟨_, ?_, SVR_bool _⟩; simp only [binOp, Op.stringOp, sLt, sEq, ← ba_list]; rfl)
      | (split at hz
         · rename_i hl
           simp only [Option.some.injEq] at hz
           subst hz
           refine ⟨_, ?_, SVR_str (by rw [ByteArray.size_append]; exact hl)⟩
           have hl' : ¬ ((s.size + s'.size : Nat) : Int) > IntKind.i64.max := by
             have : IntKind.i64.max = 9223372036854775807 := by decide
             omega
           simp only [binOp, Op.stringOp, hl', if_false]
           rfl
         · simp at hz)
theorem bin_bool [NW] {op : BinOp} {t : Nat} {ox oy : Operand} {b b' : Bool} {r : Bool} (ht : P.underlying t = some .bool) (hop : (op = .eql ∧ r = (b == b')) ∨ (op = .neq ∧ r = !(b == b'))) :
    (do eqGuard op t ox oy (.bool b) (.bool b'); binOp op t (.bool b) (.bool b') : Sem Value).run P w = .ok (.bool r) w := by
  have hg : (eqGuard op t ox oy (.bool b) (.bool b')).run P w = .ok () w := by
    cases op <;> rfl
  have he : (Op.equal t (.bool b) (.bool b')).run P w = .ok (b == b') w := by
    have key : ∀ d : Nat, (Op.equalIn (d + 1) t (.bool b) (.bool b')).run P w = .ok (b == b') w := fun d => by
      rw [Op.equalIn]
      simp only [Sem.run_bind, run_und ht, Result.andThen_ok, Sem.run_pure]
    exact key 9999
  simp only [Sem.run_bind, hg, Result.andThen_ok]
  rcases hop with ⟨rfl, rfl⟩ | ⟨rfl, rfl⟩
  · simp only [binOp, Sem.run_bind, he, Result.andThen_ok, Sem.run_pure]
  · simp only [binOp, Sem.run_bind, he, Result.andThen_ok, Sem.run_pure]
theorem bin_ok [NW] (htt : ∀ t i, tt t = some i → TOk P t i) {op : BinOp} {t : Nat} {ox oy : Operand} {x y v : SV} {vx vy : Value} (h : binV (tt t) op x y = some v) (hx : SVR g w x vx) (hy : SVR g w y vy) :
    ∃ cv, (do eqGuard op t ox oy vx vy; binOp op t vx vy : Sem Value).run P w = .ok cv w ∧ SVR g w v cv ∧ svU U v := by
  unfold binV at h
  split at h
  · have ex := int_of hx
    have ey := int_of hy
    subst ex ey
    split at h
    · rename_i hk
      obtain ⟨z, hz, rfl⟩ := Option.map_eq_some_iff.1 h
      obtain ⟨cv, h1, h2⟩ := bin_int (P := P) (g := g) (w := w) (t := t) (ox := ox) (oy := oy) hk hz
      exact ⟨cv, h1, h2, svU_c _⟩
    · simp at h
  · obtain ⟨ex, lx⟩ := str_of hx
    obtain ⟨ey, ly⟩ := str_of hy
    subst ex ey
    obtain ⟨z, hz, rfl⟩ := Option.map_eq_some_iff.1 h
    obtain ⟨cv, h1, h2⟩ := bin_str (P := P) (g := g) (w := w) (t := t) (ox := ox) (oy := oy) hz
    exact ⟨cv, h1, h2, svU_c _⟩
  · have ex := bool_of hx
    have ey := bool_of hy
    subst ex ey
    split at h
    · rename_i hti
      simp only [Option.some.injEq] at h
      subst h
      obtain ⟨d, zv, i, h1, h2, _⟩ := htt t _ hti
      have hd : d = .bool := by cases d <;> simp [kindB] at h2; rfl
      subst hd
      exact ⟨_, bin_bool h1 (.inl ⟨rfl, rfl⟩), SVR_bool _, svU_c _⟩
    · rename_i hti
      simp only [Option.some.injEq] at h
      subst h
      obtain ⟨d, zv, i, h1, h2, _⟩ := htt t _ hti
      have hd : d = .bool := by cases d <;> simp [kindB] at h2; rfl
      subst hd
      exact ⟨_, bin_bool h1 (.inr ⟨rfl, rfl⟩), SVR_bool _, svU_c _⟩
    · simp at h
  · simp at h
theorem kindP_agg {k : PK} {d : TypeDesc} (h : kindP k d = true) : aggD d = false := by
  unfold kindP at h
  split at h <;> first | rfl | simp at h
theorem eqC_ok [NW] {k : PK} {x y : AV} {vx vy : Value} {b : Bool} {t : Nat} {d : TypeDesc} (h : eqC k x y = some b) (hd : P.underlying t = some d) (hk : kindP k d = true) (hx : AVR g w x vx) (hy : AVR g w y vy) (n : Nat) : (Op.equalIn (n + 1) t vx vy).run P w = .ok b w := by
  unfold eqC at h
  split at h
  · split at h <;> simp only [Option.some.injEq, reduceCtorEq] at h
    rename_i kk; subst kk h
    obtain ⟨_, h1, _⟩ := hx; obtain ⟨_, h2, _⟩ := hy
    have e1 := h1.1; have e2 := h2.1; subst e1 e2
    cases d <;> simp [kindP] at hk
    exact run_equalIn_int w n t _ _ _ _ hd
  · simp only [Option.some.injEq] at h; subst h
    obtain ⟨_, h1, _⟩ := hx; obtain ⟨_, h2, _⟩ := hy
    have e1 := h1.1; have e2 := h2.1; subst e1 e2
    cases d <;> simp [kindP] at hk
    rw [run_equalIn_string w n t _ _ hd, sEq, ba_list]
  · simp only [Option.some.injEq] at h; subst h
    obtain ⟨_, h1, _⟩ := hx; obtain ⟨_, h2, _⟩ := hy
    have e1 := h1.1; have e2 := h2.1; subst e1 e2
    cases d <;> simp [kindP] at hk
    exact run_equalIn_bool' w n t _ _ hd
  · simp at h
theorem eqCs_ok [NW] (n : Nat) {X Y : Array Value} : ∀ {ks : List PK} {fs : List Field} {o : Nat} {xs ys : List AV} {vx vy : List Value} {b : Bool}, eqCs ks xs ys = some b → EqF P ks fs o → All2 (AVR g w) xs vx → All2 (AVR g w) ys vy → (∀ j v, vx[j]? = some v → X[o + j]? = some v) → (∀ j v, vy[j]? = some v → Y[o + j]? = some v) → (Op.eqFields (n + 1) X Y fs).run P w = .ok b w
  | [], [], _, [], [], _, _, b, h, _, _, _, _, _ => by simp [eqCs] at h; subst h; simp [Op.eqFields]
  | k :: ks, f :: fs, o, x :: xs, y :: ys, [], _, _, _, _, hx, _, _, _ => hx.elim
  | k :: ks, f :: fs, o, x :: xs, y :: ys, _ :: _, [], _, _, _, _, hy, _, _ => hy.elim
  | k :: ks, f :: fs, o, x :: xs, y :: ys, u :: vx, v :: vy, b, h, hf, hx, hy, hX, hY => by
    simp only [eqCs] at h
    obtain ⟨b1, h1, h⟩ := Option.bind_eq_some_iff.1 h
    obtain ⟨b2, h2, rfl⟩ := Option.map_eq_some_iff.1 h
    obtain ⟨f1, f2, ⟨d, f3, f4⟩, f5⟩ := hf
    have e1 := eqC_ok h1 f3 f4 hx.1 hy.1 n
    have e2 := eqCs_ok n h2 f5 hx.2 hy.2 (fun j v hj => by have := hX (j + 1) v (by simpa using hj); rwa [show o + (j + 1) = o + 1 + j by omega] at this) (fun j v hj => by have := hY (j + 1) v (by simpa using hj); rwa [show o + (j + 1) = o + 1 + j by omega] at this)
    have p1 : (part f.type X f.offset).run P w = .ok u w := by
      have := hX 0 u (by simp)
      simp only [part, Sem.run_bind, run_agg f3, kindP_agg f4, Result.andThen_ok]
      rw [f2]; simp at this; simp [this]
    have p2 : (part f.type Y f.offset).run P w = .ok v w := by
      have := hY 0 v (by simp)
      simp only [part, Sem.run_bind, run_agg f3, kindP_agg f4, Result.andThen_ok]
      rw [f2]; simp at this; simp [this]
    simp only [Op.eqFields, f1, ne_eq, not_false_eq_true, if_true, Sem.run_bind, p1, p2, e1, Result.andThen_ok]
    cases b1
    · simp
    · simpa using e2
  | [], _ :: _, _, _, _, _, _, _, _, hf, _, _, _, _ => hf.elim
  | _ :: _, [], _, _, _, _, _, _, _, hf, _, _, _, _ => hf.elim
  | [], [], _, _ :: _, _, _, _, _, h, _, _, _, _, _ => by simp [eqCs] at h
  | [], [], _, [], _ :: _, _, _, _, h, _, _, _, _, _ => by simp [eqCs] at h
  | _ :: _, _ :: _, _, [], _, _, _, _, h, _, _, _, _, _ => by simp [eqCs] at h
  | _ :: _, _ :: _, _, _ :: _, [], _, _, _, h, _, _, _, _, _ => by simp [eqCs] at h
theorem eqRes_ok {op : BinOp} {b : Bool} {v : SV} (h : eqRes op b = some v) : (op = .eql ∧ v = .p false [.c (.bool b)]) ∨ (op = .neq ∧ v = .p false [.c (.bool (!b))]) := by
  unfold eqRes at h
  split at h <;> simp only [Option.some.injEq, reduceCtorEq] at h <;> subst h
  · exact .inl ⟨rfl, rfl⟩
  · exact .inr ⟨rfl, rfl⟩
theorem agg_ok [NW] (htt : ∀ t i, tt t = some i → TOk P t i) {op : BinOp} {t : Nat} {ox oy : Operand} {x y v : SV} {vx vy : Value} (h : aggV (tt (t + 4000)) op x y = some v) (hx : SVR g w x vx) (hy : SVR g w y vy) :
    ∃ cv, (do eqGuard op t ox oy vx vy; binOp op t vx vy : Sem Value).run P w = .ok cv w ∧ SVR g w v cv ∧ svU U v := by
  unfold aggV at h
  split at h
  · obtain ⟨ks, hks, h'⟩ := Option.bind_eq_some_iff.1 h
    obtain ⟨b, hb, h''⟩ := Option.bind_eq_some_iff.1 h'
    have hti : tt (t + 4000) = some (.eqs ks) := by
      unfold eqsTI at hks
      split at hks <;> simp only [Option.some.injEq, reduceCtorEq] at hks
      rename_i hti
      rw [hti, hks]
    obtain ⟨u, e, h1, h2, h3, h4⟩ := htt _ _ hti
    have e : t = u := Nat.add_right_cancel e
    subst e
    obtain ⟨us, rfl, hus⟩ := hx
    obtain ⟨vs, rfl, hvs⟩ := hy
    have hq := eqCs_ok (X := us.toArray) (Y := vs.toArray) 9998 hb h4 hus hvs (fun j v hj => by simpa using hj) (fun j v hj => by simpa using hj)
    have hg := run_eqGuard_agg (P := P) w op t ox oy us.toArray vs.toArray h3
    rcases eqRes_ok h'' with ⟨rfl, rfl⟩ | ⟨rfl, rfl⟩
    · refine ⟨_, ?_, SVR_bool b, svU_c _⟩
      simp only [Sem.run_bind, hg, Result.andThen_ok, run_eql_struct, run_equalIn_struct w 9999 t _ _ h1 h2, hq]
    · refine ⟨_, ?_, SVR_bool (!b), svU_c _⟩
      simp only [Sem.run_bind, hg, Result.andThen_ok, run_neq_struct, run_equalIn_struct w 9999 t _ _ h1 h2, hq]
  · simp at h
theorem ifc_of [NW] {b : Bool} {v : Value} (h : SVR g w (.p false [.c (.ifc b)]) v) : (b = true ∧ v = .nilIface) ∨ (b = false ∧ ∃ t x, v = .iface t x) := by
  obtain ⟨x, hx, h⟩ := h; simp at hx; subst hx; obtain ⟨L, h1, _⟩ := h
  have h2 := h1.2.2
  cases b with
  | true => exact .inl ⟨rfl, h2⟩
  | false => exact .inr ⟨rfl, h2⟩
theorem bino_ok [NW] (htt : ∀ t i, tt t = some i → TOk P t i) {op : BinOp} {t : Nat} {ox oy : Operand} {x y v : SV} {vx : Value} (h : binO tt t (isNilC oy) op x y = some v) (hx : SVR g w x vx) (hy : SVR g w y (a.eval oy)) :
    ∃ cv, (do eqGuard op t ox oy vx (a.eval oy); binOp op t vx (a.eval oy) : Sem Value).run P w = .ok cv w ∧ SVR g w v cv ∧ svU U v := by
  unfold binO at h
  split at h
  · rename_i hn
    have ho : oy = .const .nilIface := by
      cases oy with
      | const c => cases c <;> first | rfl | (simp [isNilC, isNilV] at hn; done)
      | _ => simp [isNilC] at hn
    subst ho
    split at h
    rotate_left
    · simp at h
    rename_i hif
    have hti : tt t = some .ifc := by
      unfold isIfc at hif
      split at hif
      · assumption
      · simp at hif
    obtain ⟨ms, hms⟩ := htt _ _ hti
    unfold nilV at h
    split at h
    · rename_i b
      have hb := ifc_of hx
      have hev : a.eval (.const .nilIface) = .nilIface := rfl
      rw [hev]
      have hg : ∀ v : Value, (v = .nilIface ∨ ∃ t x, v = .iface t x) → (eqGuard op t ox (.const .nilIface) v .nilIface).run P w = .ok () w := fun v hv => by
        rcases hv with rfl | ⟨t', x', rfl⟩
        · simp only [eqGuard]
          cases ox <;> cases op <;> rfl
        · simp only [eqGuard]
          cases op <;> rfl
      have he : (Op.equal t vx .nilIface).run P w = .ok b w := by
        show (Op.equalIn (9999 + 1) t _ _).run P w = _
        rw [Op.equalIn]
        rcases hb with ⟨rfl, rfl⟩ | ⟨rfl, t', x', rfl⟩
        · simp only [Sem.run_bind, run_und hms, Result.andThen_ok, Sem.run_pure]
        · simp only [Sem.run_bind, run_und hms, Result.andThen_ok, Sem.run_pure]
      have hg' := hg vx (hb.imp (fun h => h.2) (fun h => h.2))
      rcases eqRes_ok h with ⟨rfl, rfl⟩ | ⟨rfl, rfl⟩
      · refine ⟨_, ?_, SVR_bool b, svU_c _⟩
        simp only [Sem.run_bind, hg', Result.andThen_ok]
        rcases hb with ⟨rfl, rfl⟩ | ⟨rfl, t', x', rfl⟩ <;> simp only [binOp, Sem.run_bind, he, Result.andThen_ok, Sem.run_pure]
      · refine ⟨_, ?_, SVR_bool (!b), svU_c _⟩
        simp only [Sem.run_bind, hg', Result.andThen_ok]
        rcases hb with ⟨rfl, rfl⟩ | ⟨rfl, t', x', rfl⟩ <;> simp only [binOp, Sem.run_bind, he, Result.andThen_ok, Sem.run_pure]
    · simp at h
  · split at h
    · exact agg_ok htt h hx hy
    · exact bin_ok htt h hx hy
theorem un_ok [NW] {op : UnOp} {x v : SV} {vx : Value} (h : unV op x = some v) (hx : SVR g w x vx) : ∃ cv, (Op.unary op vx).run P w = .ok cv w ∧ SVR g w v cv ∧ svU U v := by
  unfold unV at h
  split at h
  · have ex := bool_of hx
    subst ex
    split at h <;> simp at h
    subst h
    exact ⟨_, by simp [Op.unary], SVR_bool _, svU_c _⟩
  · have ex := int_of hx
    subst ex
    split at h <;> simp at h
    subst h
    exact ⟨_, by simp [Op.unary, Op.intArith], SVR_int _ _, svU_c _⟩
  · simp at h
end
end Go.Proofs.YtlkgkkacnoaeaaaGreatDoor

namespace Go.Proofs.YtlkgkkacnoaeaaaGreatDoor
open Go.RowKit
section
variable {P : Program} {W : Base} {U : Nat → Prop} {key : Nat} {st : St} {g : Gh} {w : World} {a : Act} {tt : Nat → Option TI}
theorem tt_und {t : Nat} {z : AV} (htt : ∀ t i, tt t = some i → TOk P t i) (h : tt t = some (.atom z)) : ∃ d, P.underlying t = some d := by
  obtain ⟨d, _, _, h, _⟩ := htt t _ h; exact ⟨d, h⟩
theorem isSlice_und {t : Nat} (htt : ∀ t i, tt t = some i → TOk P t i) (h : isSlice (tt t) = true) : ∃ e, P.underlying t = some (.slice e) := by
  unfold isSlice at h
  split at h
  · rename_i h1; exact ⟨_, (htt t _ h1).1⟩
  · simp at h
theorem isStr_und {t : Nat} (htt : ∀ t i, tt t = some i → TOk P t i) (h : isStr (tt t) = true) : P.underlying t = some .string := by
  unfold isStr at h
  split at h
  · rename_i h1
    obtain ⟨d, zv, i, h2, h3, _⟩ := htt t _ h1
    have hd : d = .string := by cases d <;> simp [kindB] at h3; rfl
    rw [hd] at h2; exact h2
  · simp at h
theorem conv_ok [NW] (htt : ∀ t i, tt t = some i → TOk P t i) {s t : Nat} {x v : SV} {vx : Value} (h : convV (tt s) (tt t) x = some v) (hx : SVR g w x vx) : ∃ cv, (convert s t vx).run P w = .ok cv w ∧ SVR g w v cv ∧ svU U v := by
  unfold convV at h
  split at h
  · have ex := int_of hx
    subst ex
    split at h
    · rename_i h1 h2
      simp only [Option.some.injEq] at h
      subst h
      obtain ⟨d, zv, i, h3, h4, _⟩ := htt t _ h2
      have hd : ∃ k, d = .int k := by cases d <;> simp [kindB] at h4; exact ⟨_, rfl⟩
      obtain ⟨k, rfl⟩ := hd
      simp only [kindB, beq_iff_eq] at h4
      subst h4
      obtain ⟨ds, hs⟩ := tt_und htt h1
      refine ⟨_, ?_, SVR_int _ _, svU_c _⟩
      simp [convert, run_und hs, run_und h3, Conv.intToInt]
    · simp at h
  · simp at h
theorem slice_of [NW] {e m : Nat} {xs : List (List CT)} {v : Value} (h : SVR g w (.p false [.c (.sl e m xs)]) v) : ∃ A cap cs L0 L1, v = .slice A xs.length cap ∧ xs.length ≤ cap ∧ cap ≤ maxLen ∧ 0 < m ∧ Sl w m A xs.length cs L0 ∧ REs w m xs cs L1 ∧ (∀ b ∈ L0 ++ L1, ¬ g.own b) := by
  obtain ⟨x, hx, h⟩ := h
  simp at hx
  subst hx
  obtain ⟨L, ⟨A, cap, cs, L0, L1, h1, h2, h3, h4, h5, h6, h7⟩, ho⟩ := h
  exact ⟨A, cap, cs, L0, L1, h1, h2, h3, h5, h6, h7, fun b m => ho b (h4 ▸ m)⟩
theorem row_of [NW] {k : Nat} {v : Value} (h : SVR g w (.p false [.row k]) v) : v = g.val k := by
  obtain ⟨x, hx, h⟩ := h; simp at hx; subst hx; exact h.1
theorem nil_of [NW] {e m : Nat} {v : Value} (h : SVR g w (.p false [.nil e m]) v) : v = .slice none 0 0 := by
  obtain ⟨x, hx, h⟩ := h; simp at hx; subst hx; exact h
theorem own_val {B e m n : Nat} {v : Value} {cs : List Value} (h : w.ownsV B e m v n cs) : ∃ A cap, v = .slice A n cap := by
  obtain ⟨A, c, hv, _⟩ := ownV_slice h
  exact ⟨A, c, hv⟩
theorem un_N [NW] {x : CT} {v : Value} (h : SVR g w (.p false [.n x]) v) : NR g w x v := by
  obtain ⟨y, hy, h⟩ := h; simp at hy; subst hy; exact h
theorem len_ok [NW] (htt : ∀ t i, tt t = some i → TOk P t i) (hI : HI W g st.ob w) {t : Nat} {ts : Array TypeId} {ty : TypeId} (hts : ts[0]? = some t) {x v : SV} {vx : Value} (h : lenV st (tt t) x = some v) (hx : SVR g w x vx) :
    ∃ cv, (Builtin.len_ ts ty #[vx]).run P w = .ok cv w ∧ SVR g w v cv ∧ svU U v := by
  have fin : ∀ (A : Option Addr) (n c : Nat), isSlice (tt t) = true → (Builtin.len_ ts ty #[.slice A n c]).run P w = .ok (.int .i64 n) w := fun A n c hs => by
    obtain ⟨e, he⟩ := isSlice_und htt hs
    simp [Builtin.len_, hts, run_und he, goInt]
  unfold lenV at h
  split at h
  · split at h <;> simp at h
    rename_i hs
    subst h
    obtain ⟨A, cap, _, _, _, rfl, _⟩ := slice_of hx
    exact ⟨_, fin _ _ _ hs, SVR_int _ _, svU_c _⟩
  · split at h <;> simp at h
    rename_i hs
    subst h
    obtain ⟨_, _, _, _, _, h1, _, h3, _⟩ := un_N hx
    simp only [CT.sl.injEq] at h1
    obtain ⟨_, _, rfl⟩ := h1
    obtain ⟨A, cap, rfl⟩ := own_val h3
    exact ⟨_, fin _ _ _ hs, SVR_int _ _, svU_c _⟩
  · split at h <;> simp at h
    rename_i hs
    subst h
    obtain ⟨rfl, _⟩ := str_of hx
    refine ⟨_, ?_, SVR_int _ _, svU_c _⟩
    simp [Builtin.len_, hts, run_und (isStr_und htt hs), goInt]
  · split at h <;> simp at h
    rename_i hs
    subst h
    have := nil_of hx
    subst this
    exact ⟨_, fin _ _ _ hs, SVR_int _ _, svU_c _⟩
  · split at h
    · rename_i k _ e m xs d hk
      split at h <;> simp at h
      rename_i hs
      subst h
      have hv := row_of hx
      subst hv
      have ho := hI.obs k
      rw [hk] at ho
      obtain ⟨_, cs, L, h1, _⟩ := ho
      obtain ⟨A, cap, hv⟩ := own_val h1
      rw [hv]
      exact ⟨_, fin _ _ _ hs, SVR_int _ _, svU_c _⟩
    · simp at h
  · simp at h
theorem fold_bytes {f : Value → ByteArray → Sem (ForInStep ByteArray)} (hf : ∀ n s, f (.int .u8 n) s = pure (ForInStep.yield (s.push (UInt8.ofNat n.toNat)))) : ∀ (l : List Int) (s : ByteArray), (forIn (l.map fun n => Value.int .u8 n) s f).run P w = .ok ⟨s.data ++ (l.map fun n => UInt8.ofNat n.toNat).toArray⟩ w
  | [], s => by simp
  | n :: l, s => by
    have ih := fold_bytes hf l (s.push (UInt8.ofNat n.toNat))
    simp only [List.map_cons, List.forIn_cons, hf, Sem.run_bind, Sem.run_pure, Result.andThen_ok, ih]
    congr 2
    apply Array.ext'
    simp [ByteArray.push]
theorem run_bytes [NW] {b o cap : Nat} (l : List Int) (hc : ∀ j u, (l.map fun n => Value.int .u8 n)[j]? = some u → w.cell? ⟨b, o + j, none⟩ = some u) : (Conv.bytesToString (.slice (some ⟨b, o, none⟩) l.length cap)).run P w = .ok (.string (bytesS l)) w := by
  have h1 := run_loadCells_list (P := P) w ⟨b, o, none⟩ (l.map fun n => Value.int .u8 n) (fun j u hj => by rw [add_lit0]; exact hc j u hj)
  rw [List.length_map] at h1
  unfold Conv.bytesToString
  simp only [Sem.run_bind, h1, Result.andThen_ok, ← Array.forIn_toList]
  rw [fold_bytes (fun _ _ => rfl)]
  simp [bytesS, ByteArray.empty, ByteArray.emptyWithCapacity]
  rfl
theorem ints_cells {m : Nat} : ∀ {xs : List (List CT)} {l : List Int} {cs : List Value} {L : List Nat}, intsOf xs = some l → REs w m xs cs L → cs = l.map (fun n => Value.int .u8 n) ∧ xs.length = l.length
  | [], _, _, _, h, ⟨h1, _⟩ => by simp [intsOf] at h; subst h h1; simp
  | x :: r, l, _, _, h, ⟨c1, c2, L1, L2, rfl, rfl, h3, h4⟩ => by
    unfold intsOf at h
    split at h
    · rename_i he; simp at he
    · rename_i n r' he
      simp only [List.cons.injEq] at he
      obtain ⟨rfl, rfl⟩ := he
      obtain ⟨l', hl, rfl⟩ := Option.map_eq_some_iff.1 h
      obtain ⟨i1, i2⟩ := ints_cells hl h4
      obtain ⟨v, cs', _, _, rfl, rfl, a1, a2⟩ := h3.1
      obtain ⟨rfl, _⟩ := a2
      rw [a1.1, i1]
      exact ⟨rfl, by simp [i2]⟩
    · simp at h
theorem bytesS_size (l : List Int) : (bytesS l).size = l.length := by simp [bytesS, ByteArray.size]
theorem strOf_ok [NW] (htt : ∀ t i, tt t = some i → TOk P t i) (hI : HI W g st.ob w) {s t : Nat} {x v : SV} {vx : Value} (hst : isStr (tt t) = true) (hby : byteTI (elemTI tt (tt s)) = true) (h : strOf st x = some v) (hx : SVR g w x vx) : ∃ cv, (convert s t vx).run P w = .ok cv w ∧ SVR g w v cv ∧ svU U v := by
  have ht := isStr_und htt hst
  have hs : ∃ e, P.underlying s = some (.slice e) ∧ P.underlying e = some (.int .u8) := by
    unfold elemTI at hby
    split at hby
    · rename_i e m b z hti
      have h1 := (htt _ _ hti).1
      unfold byteTI at hby
      split at hby
      · rename_i hte
        obtain ⟨d, zv, i, h2, h3, _⟩ := htt _ _ hte
        cases d <;> simp [kindB] at h3
        subst h3
        exact ⟨e, h1, h2⟩
      · simp at hby
    · simp [byteTI] at hby
  obtain ⟨e, hs, he⟩ := hs
  have go : ∀ A n c, (convert s t (.slice A n c)).run P w = (Conv.bytesToString (.slice A n c)).run P w := fun A n c => by
    unfold convert
    simp only [Sem.run_bind, run_und hs, run_und ht, run_und he, Result.andThen_ok]
  have fin : ∀ (A : Option Addr) (n cap : Nat) (cs : List Value) (L : List Nat) (xs : List (List CT)) (l : List Int) (m : Nat), n = xs.length → 0 < m → intsOf xs = some l → REs w m xs cs L → n ≤ 9223372036854775807 → (n = 0 ∨ ∃ b o, A = some ⟨b, o, none⟩ ∧ CellsAt w b o cs) → ∃ cv, (convert s t (.slice A n cap)).run P w = .ok cv w ∧ SVR g w (.p false [.c (.str (bytesS l))]) cv ∧ svU U (.p false [.c (.str (bytesS l))]) := by
    intro A n cap cs L xs l m hn hm hl hR hsz hA
    obtain ⟨i1, i2⟩ := ints_cells hl hR
    have hsz' : (bytesS l).size ≤ 9223372036854775807 := by rw [bytesS_size]; omega
    refine ⟨.string (bytesS l), ?_, SVR_str hsz', svU_c _⟩
    rw [go]
    rcases hA with h0 | ⟨b, o, rfl, hc⟩
    · have : l = [] := List.eq_nil_of_length_eq_zero (by omega)
      subst this
      cases A with
      | none => rfl
      | some a =>
        have h1 := run_loadCells_list (P := P) w a [] (by simp)
        rw [h0]
        unfold Conv.bytesToString
        simp only [List.length_nil] at h1
        simp only [Sem.run_bind, h1, Result.andThen_ok]
        rfl
    · rw [hn, i2]
      exact run_bytes l fun j u hj => hc j u (by rw [i1]; exact hj)
  unfold strOf at h
  split at h
  · split at h
    · rename_i k _ e' m xs d hk
      obtain ⟨l, hl, rfl⟩ := Option.map_eq_some_iff.1 h
      have hv := row_of hx
      have ho := hI.obs k
      rw [hk] at ho
      obtain ⟨hm, cs, L, h1, h2, _⟩ := ho
      rw [hv]
      rcases h1.2 with ⟨h3, h4⟩ | ⟨b, o, cap, cur, h3, h4, h5, h6, h7, h8, h9⟩
      · rw [h3]
        exact fin _ _ _ cs L xs l m (by omega) hm hl h2 (by omega) (.inl rfl)
      · rw [h3]
        refine fin _ _ _ cs L xs l m rfl hm hl h2 (by unfold maxLen at h7; omega) (.inr ⟨b, o, rfl, fun j u hj => ?_⟩)
        exact ownsV_at h1 h3 j u hj
    · simp at h
  · obtain ⟨l, hl, rfl⟩ := Option.map_eq_some_iff.1 h
    obtain ⟨A, cap, cs, L0, L1, rfl, h2, h3, h5, h6, h7, _⟩ := slice_of hx
    rename_i e' m' xs _
    refine fin _ _ _ cs L1 xs l _ rfl h5 hl h7 (by unfold maxLen at h3; omega) ?_
    rcases Nat.eq_zero_or_pos xs.length with h0 | h0
    · exact .inl h0
    · obtain ⟨b, off, h8, h9, hc⟩ := h6.at_ h0
      exact .inr ⟨b, off, h8, hc⟩
  · simp at h
theorem convO_ok [NW] (htt : ∀ t i, tt t = some i → TOk P t i) (hI : HI W g st.ob w) {s t : Nat} {x v : SV} {vx : Value} (h : convO tt st s t x = some v) (hx : SVR g w x vx) : ∃ cv, (convert s t vx).run P w = .ok cv w ∧ SVR g w v cv ∧ svU U v := by
  unfold convO at h
  split at h
  · rename_i hc
    simp only [Bool.and_eq_true] at hc
    exact strOf_ok htt hI hc.1 hc.2 h hx
  · exact conv_ok htt h hx
theorem RCs.avr [NW] {e : List CT} {cs : List Value} {L : List Nat} : RCs w e cs L → (∀ b ∈ L, ¬ g.own b) → All2 (AVR g w) (e.map .c) cs := by
  induction e generalizing cs L with
  | nil => intro h _; obtain ⟨rfl, rfl⟩ := h; trivial
  | cons x r ih =>
    rintro ⟨v, cs', L1, L2, rfl, rfl, h1, h2⟩ ho
    exact ⟨⟨L1, h1, fun b m => ho b (by simp [m])⟩, ih h2 fun b m => ho b (by simp [m])⟩
theorem svU_cs (a : Bool) (e : List CT) : avsU U (e.map AV.c) := fun y m => by
  obtain ⟨x, _, rfl⟩ := List.mem_map.1 m; trivial
/-- cells that lie from (b, lo) on, cut as a value of a type -/
theorem cut_ok [NW] (htt : ∀ t i, tt t = some i → TOk P t i) {t b lo off : Nat} {cs : List AV} {vs : List Value} {v : SV} (h : cut (tt t) cs off = some v) (hc : CellsAt w b lo vs) (hr : All2 (AVR g w) cs vs) (hu : avsU U cs) :
    ∃ cv, (Instr.loadAt t (.pointer (some ⟨b, lo + off, none⟩))).run P w = .ok cv w ∧ SVR g w v cv ∧ svU U v := by
  have hlen := hr.len
  have one : ∀ d, P.underlying t = some d → aggD d = false → ∀ x, cs[off]? = some x → ∃ cv, (Instr.loadAt t (.pointer (some ⟨b, lo + off, none⟩))).run P w = .ok cv w ∧ SVR g w (.p false [x]) cv ∧ svU U (.p false [x]) := fun d hd ha x hx => by
    obtain ⟨u, h1, h2⟩ := hr.at hx
    refine ⟨u, ?_, ⟨x, rfl, h2⟩, fun y m => by simp at m; subst m; exact hu y (List.mem_of_getElem? hx)⟩
    simp [Instr.loadAt, Instr.sureAddr, loadVar, run_agg hd, ha, load, Sem.run, hc off u h1]
  unfold cut at h
  split at h
  · rename_i fs n z hti
    split at h <;> simp at h
    rename_i hn
    subst h
    obtain ⟨fields, i, zvs, h1, h2, h3, _⟩ := htt t _ hti
    refine ⟨.agg ((vs.drop off).take n).toArray, ?_, ⟨_, rfl, (hr.drop off).take n⟩, fun y m => hu y (List.mem_of_mem_drop (List.mem_of_mem_take m))⟩
    have hl : ((vs.drop off).take n).length = i.size := by simp; omega
    have hload := run_loadCells_list (P := P) w ⟨b, lo + off, none⟩ ((vs.drop off).take n) (fun j u hj => by
      rw [add_lit0, Nat.add_assoc]
      refine hc _ u ?_
      have hjn : j < n := by
        have := (List.getElem?_eq_some_iff.1 hj).1
        simp at this; omega
      rw [List.getElem?_take, if_pos hjn, List.getElem?_drop] at hj
      exact hj)
    rw [hl] at hload
    simp [Instr.loadAt, Instr.sureAddr, loadVar, run_agg h1, aggD, run_size h2, hload]
  · simp at h
  · rename_i i hti hne hns
    obtain ⟨x, hx, rfl⟩ := Option.map_eq_some_iff.1 h
    cases i with
    | atom z => obtain ⟨d, zv, i, h1, h2, _⟩ := htt t _ hns; exact one d h1 (kind_agg h2) x hx
    | strct fs n z => exact absurd rfl (hti _ _ _)
    | slice e m b z => exact one _ (htt t _ hns).1 rfl x hx
    | map kk vk =>
      obtain ⟨kt, et, _, _, _, _, h1, _⟩ := htt t _ hns
      exact one _ h1 rfl x hx
    | ifc => obtain ⟨ms, h1⟩ := htt t _ hns; exact one _ h1 rfl x hx
    | eqs ks => exact absurd rfl (hne _)
  · simp at h
end
end Go.Proofs.YtlkgkkacnoaeaaaGreatDoor
