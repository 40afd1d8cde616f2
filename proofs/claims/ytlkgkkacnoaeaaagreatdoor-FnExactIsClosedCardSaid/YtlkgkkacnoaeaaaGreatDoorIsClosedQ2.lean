/- Texts of this proof, joined: E3, E15, P5, F3, F4, P14, R14, S14, F6, BInv, BRun, BOps1, BOps2, BOps3, BOps4, BOps5, BOps6, BOps7. What each holds is said at its theorems. -/
import Derived.Test.YtlkgkkacnoaeaaaGreatDoorIsClosedQ1
import Derived.Lib.Bytealg
import Derived.Laws.CopyRow
import Derived.Laws.OwnMore
import Derived.Laws.StructEq
import Derived.Laws.Tables
import Derived.Great.BuildSlice
set_option linter.unusedSimpArgs false
set_option linter.unusedVariables false
namespace Go.Proofs.YtlkgkkacnoaeaaaGreatDoor
/-- comparing is an order in which only equal things are alike -/
structure IsCmp {α : Type} (c : α → α → Int) : Prop where
  eq : ∀ a b, c a b = 0 ↔ a = b
  anti : ∀ a b, c b a = - c a b
  tr : ∀ a b d, c a b < 0 → c b d < 0 → c a d < 0
/-- texts, byte by byte -/
def cmpB (a b : ByteArray) : Int := Lib.compareBytes (toL a) (toL b)
theorem compare_bytes : ∀ (x y : List UInt8), Lib.compareBytes x y = if Op.bytesLess x y = true then -1 else if x = y then 0 else 1
  | [], [] => by simp [Lib.compareBytes, Op.bytesLess]
  | [], _ :: _ => by simp [Lib.compareBytes, Op.bytesLess]
  | _ :: _, [] => by simp [Lib.compareBytes, Op.bytesLess]
  | a :: x, b :: y => by
    have ih := compare_bytes x y
    unfold Lib.compareBytes Op.bytesLess
    by_cases h1 : a < b
    · simp [h1]
    · rw [if_neg h1]
      by_cases h2 : b < a
      · have h3 : ¬ a = b := fun e => by rw [e] at h2; exact absurd h2 (UInt8.lt_irrefl _)
        rw [if_pos h2]
        simp [h1, h3]
      · have h3 : a = b := by
          apply UInt8.toNat_inj.1
          rw [UInt8.lt_iff_toNat_lt] at h1 h2
          omega
        subst h3
        rw [if_neg h2, ih]
        simp [h1]
theorem cmpB_eq (a b : ByteArray) : cmpB a b = if sLt a b = true then -1 else if a = b then 0 else 1 := by
  unfold cmpB
  rw [compare_bytes]
  have h1 : Op.bytesLess (toL a) (toL b) = sLt a b := by unfold sLt toL; rw [ByteArray.toList_eq, ByteArray.toList_eq]
  rw [h1]
  by_cases h : a = b
  · subst h; simp
  · rw [if_neg h, if_neg (fun e => h (toL_inj e))]
theorem cmpB_ok : IsCmp cmpB where
  eq := fun a b => by
    rw [cmpB_eq]
    by_cases h : sLt a b = true
    · simp [h, sLt_ne h]
    · rw [if_neg h]
      by_cases h2 : a = b <;> simp [h2]
  anti := fun a b => by
    rw [cmpB_eq, cmpB_eq]
    by_cases h : sLt a b = true
    · have h2 := sLt_asymm h
      have h3 := sLt_ne h
      rw [if_pos h, if_neg (by simp [h2]), if_neg (fun e => h3 e.symm)]; rfl
    · rw [if_neg h]
      by_cases h2 : a = b
      · subst h2; rw [if_neg h]; simp
      · rw [if_pos (sLt_total (by simpa using h) h2), if_neg h2]
  tr := fun a b d h1 h2 => by
    have key : ∀ x y, cmpB x y < 0 → sLt x y = true := fun x y h => by
      rw [cmpB_eq] at h
      by_cases hx : sLt x y = true
      · exact hx
      · rw [if_neg hx] at h; split at h <;> omega
    rw [cmpB_eq, if_pos (sLt_trans (key _ _ h1) (key _ _ h2))]
    omega
theorem s_l1Cmp_eq (a b : ByteArray) : s_l1Cmp a b = some (cmpB a b) := by
  unfold s_l1Cmp
  rw [cmpB_eq]
  by_cases h : sLt a b = true
  · rw [if_pos h, if_pos h]
  · rw [if_neg h, if_neg h]
    by_cases h2 : a = b
    · subst h2; rw [if_pos (by rw [sEq_self]; simp), if_pos rfl]
    · rw [if_neg (by simp only [Bool.or_eq_true, sEq_iff]; rintro (h3 | h3); exact h h3; exact h2 h3), if_neg h2]
theorem x_Compare_eq (a b : ByteArray) : x_Compare a b = some (cmpB a b) := rfl
/- numbers -/
theorem decDigits_mem {u : Nat} {b : UInt8} (h : b ∈ Lib.decDigits u) : 48 ≤ b.toNat ∧ b.toNat ≤ 57 := by
  rw [Lib.decDigits_eq, List.mem_map] at h
  obtain ⟨t, _, rfl⟩ := h
  unfold Lib.dg
  have : u / 10 ^ (Lib.nDigits u - 1 - t) % 10 < 10 := Nat.mod_lt _ (by omega)
  rw [UInt8.toNat_ofNat']
  omega
/-- the number that a text is, if it is one of at most four digits -/
def numN (s : ByteArray) : Option Nat :=
  if 1 ≤ s.size ∧ s.size ≤ 4 then (match Lib.decNat (toL s) with | some n => if ofL (Lib.decDigits n) = s then some n else none | none => none) else none
def numR (s : ByteArray) : Int × Bool := match numN s with | some n => ((n : Int), true) | none => (0, false)
theorem numN_some {s : ByteArray} {n : Nat} (h : numN s = some n) : s = ofL (Lib.decDigits n) ∧ n ≤ 9999 := by
  unfold numN at h
  split at h
  · rename_i hs
    split at h
    · split at h
      · rename_i m _ he
        obtain rfl := Option.some.inj h
        refine ⟨he.symm, ?_⟩
        have hl : Lib.nDigits m ≤ 4 := by
          have := congrArg ByteArray.size he
          rw [ofL_size, Lib.decDigits_length] at this
          omega
        have := Lib.lt_pow_nDigits m
        have h2 : 10 ^ Lib.nDigits m ≤ 10 ^ 4 := Nat.pow_le_pow_right (by omega) hl
        omega
      · simp at h
    · simp at h
  · simp at h
/-- the reference's loop over digits -/
theorem dec_loop {body : Nat → UInt8 → Int → Option (Int ⊕ (Int × Bool))} {fin : Int → Option (Int × Bool)}
    (hb : ∀ i (x : UInt8) n, body i x n = if (decide (((x.toNat : Nat) : Int) < 48)) = true then some (.inr (0, false)) else if (decide (57 < ((x.toNat : Nat) : Int))) = true then some (.inr (0, false)) else some (.inl (IntKind.i64.wrap ((IntKind.i64.wrap (10 * n)) + IntKind.i64.wrap (IntKind.u8.wrap (((x.toNat : Nat) : Int) - 48)))))) :
    ∀ (l : List UInt8) (i acc : Nat), (acc + 1) * 10 ^ l.length ≤ 100000 → forL body fin l i (acc : Int) = match Lib.decFrom acc l with | some n => fin (n : Int) | none => some (0, false)
  | [], i, acc, _ => rfl
  | x :: l, i, acc, h => by
    unfold Lib.decFrom Lib.digitVal
    by_cases h1 : 48 ≤ x.toNat ∧ x.toNat ≤ 57
    · have e : body i x (acc : Int) = some (.inl ((acc * 10 + (x.toNat - 48) : Nat) : Int)) := by
        have hp : 1 ≤ 10 ^ (x :: l).length := Nat.one_le_pow _ _ (by omega)
        have h2 : acc + 1 ≤ 100000 := Nat.le_trans (Nat.le_mul_of_pos_right _ hp) h
        rw [hb, if_neg (by simp; omega), if_neg (by simp; omega), wrap_in (n := 10 * (acc : Int)) (by omega) (by omega), IntKind.wrap_u8, wrap_in (n := (((x.toNat : Nat) : Int) - 48) % 256) (by omega) (by omega), wrap_in (by omega) (by omega)]
        congr 2
        omega
      rw [forL_next e, if_pos h1]
      refine dec_loop hb l (i + 1) _ ?_
      rw [List.length_cons, Nat.pow_succ] at h
      refine Nat.le_trans ?_ h
      rw [show (acc + 1) * (10 ^ l.length * 10) = ((acc + 1) * 10) * 10 ^ l.length by rw [Nat.mul_assoc, Nat.mul_comm 10]]
      exact Nat.mul_le_mul_right _ (by omega)
    · have e : body i x (acc : Int) = some (.inr (0, false)) := by
        rw [hb]
        by_cases h2 : x.toNat < 48
        · rw [if_pos (by simp; omega)]
        · rw [if_neg (by simp; omega), if_pos (by simp; omega)]
      rw [forL_stop e, if_neg h1]
theorem s_In_num (n a b : Int) : s_l1In n a b = some (decide (a ≤ n) && decide (n ≤ b)) := by
  unfold s_l1In
  by_cases h : a ≤ n <;> simp [h]
theorem s_ParseInt_eq (s : ByteArray) : s_ParseInt s = some (numR s) := by
  unfold s_ParseInt numR numN
  rw [s_In_num, Option.bind_some]
  by_cases hs : 1 ≤ s.size ∧ s.size ≤ 4
  · rw [if_pos (by simp; omega), if_pos hs]
    have hl : s.data.toList.length = s.size := toL_len s
    refine (dec_loop (fun _ _ _ => rfl) s.data.toList 0 0 (by
      rw [hl, Nat.zero_add, Nat.one_mul]
      exact Nat.le_trans (Nat.pow_le_pow_right (by omega) hs.2) (by omega))).trans ?_
    have hd : Lib.decNat (toL s) = Lib.decFrom 0 s.data.toList := by
      unfold Lib.decNat
      rw [if_neg]
      · rfl
      · intro e
        have := toL_len s
        rw [List.isEmpty_iff.1 e] at this
        simp at this; omega
    rw [hd]
    cases hv : Lib.decFrom 0 s.data.toList with
    | none => rfl
    | some n =>
      have hb : n < 1000000000000000000 := Lib.decFrom_lt18 hv (by omega)
      show (s_FormatInt ((n : Nat) : Int)).bind _ = _
      rw [s_FormatInt_eq ⟨by omega, by omega⟩, Option.bind_some, Lib.itoa_nonneg]
      by_cases he : ofL (Lib.decDigits n) = s
      · rw [if_pos (sEq_iff.2 he)]
        simp only [he, if_true]
      · rw [if_neg (by rw [sEq_iff]; exact he)]
        simp only [he, if_false]
  · rw [if_neg (by simp; omega), if_neg hs]
theorem dec_sign {b : UInt8} {r : List UInt8} (h : b = 45 ∨ b = 43) : Lib.decNat (b :: r) = none := by
  rcases h with rfl | rfl <;> simp [Lib.decNat, Lib.decFrom, Lib.digitVal]
theorem numN_none {s : ByteArray} (h : Lib.decNat (toL s) = none) : numN s = none := by
  unfold numN
  rw [h]
  split <;> rfl
theorem i_ParseInt_eq (s : ByteArray) : i_ParseInt s = some (numR s) := by
  unfold i_ParseInt
  by_cases h1 : s.size < 1
  · rw [if_pos (by simp; omega)]
    unfold numR numN
    rw [if_neg (by omega)]
  by_cases h2 : 4 < s.size
  · rw [if_neg (by simp; omega), if_pos (by simp; omega)]
    unfold numR numN
    rw [if_neg (by omega)]
  rw [if_neg (by simp; omega), if_neg (by simp; omega)]
  have hl := toL_len s
  have hx : x_Atoi s = some (match Lib.atoi (toL s) with | some n => (n, true) | none => (0, false)) := by
    unfold x_Atoi
    exact chk_pos _ (by omega)
  rw [hx, Option.bind_some]
  cases hL : toL s with
  | nil => rw [hL] at hl; simp at hl; omega
  | cons b r =>
    have sgn : b = 45 ∨ b = 43 → numR s = (0, false) := fun h => by
      unfold numR
      rw [numN_none (by rw [hL]; exact dec_sign h)]
    have bad : ∀ m, (b = 45 ∨ b = 43) → ¬ ofL (Lib.decDigits m) = s := fun m h e => by
      have hm : b ∈ Lib.decDigits m := by
        have : toL s = Lib.decDigits m := by rw [← e, toL_ofL]
        rw [← this, hL]; simp
      have := decDigits_mem hm
      rcases h with rfl | rfl <;> simp at this
    by_cases hb1 : b = 45
    · rw [sgn (.inl hb1)]
      cases hd : Lib.decNat r with
      | none => simp [Lib.atoi, hb1, hd]
      | some m =>
        have e : Lib.atoi (b :: r) = some (-(m : Int)) := by simp [Lib.atoi, hb1, hd]
        rw [e]
        simp only [if_true]
        by_cases hm : m = 0
        · subst hm
          rw [if_neg (by simp), if_neg (by simp)]
          show (i_FormatInt ((0 : Nat) : Int)).bind _ = _
          rw [i_FormatInt_eq ⟨by omega, by omega⟩, Option.bind_some, Lib.itoa_nonneg, if_neg (by rw [sEq_iff]; exact bad 0 (.inl hb1))]
        · rw [if_pos (by simp; omega)]
    · by_cases hb2 : b = 43
      · rw [sgn (.inr hb2)]
        cases hd : Lib.decNat r with
        | none => simp [Lib.atoi, hb2, hd]
        | some m =>
          have e : Lib.atoi (b :: r) = some (m : Int) := by simp [Lib.atoi, hb2, hd]
          rw [e]
          simp only [if_true]
          rw [if_neg (by simp)]
          by_cases hm : 9999 < m
          · rw [if_pos (by simp; omega)]
          · rw [if_neg (by simp; omega), i_FormatInt_eq ⟨by omega, by omega⟩, Option.bind_some, Lib.itoa_nonneg, if_neg (by rw [sEq_iff]; exact bad m (.inr hb2))]
      · have e : Lib.atoi (b :: r) = (Lib.decNat (b :: r)).map fun (m : Nat) => (m : Int) := by simp [Lib.atoi, hb1, hb2]
        rw [e]
        cases hd : Lib.decNat (b :: r) with
        | none =>
          unfold numR
          rw [numN_none (by rw [hL]; exact hd)]
          rfl
        | some m =>
          simp only [Option.map_some, if_true]
          rw [if_neg (by simp)]
          have hn : numN s = if ofL (Lib.decDigits m) = s then some m else none := by
            unfold numN
            rw [if_pos (by omega), hL, hd]
          by_cases hm : 9999 < m
          · rw [if_pos (by simp; omega)]
            have : numN s = none := by
              cases hq : numN s with
              | none => rfl
              | some n =>
                have h3 := (numN_some hq).2
                rw [hn] at hq
                split at hq
                · obtain rfl := Option.some.inj hq; omega
                · simp at hq
            unfold numR
            rw [this]
          · rw [if_neg (by simp; omega), i_FormatInt_eq ⟨by omega, by omega⟩, Option.bind_some, Lib.itoa_nonneg]
            unfold numR
            rw [hn]
            by_cases he : ofL (Lib.decDigits m) = s
            · rw [if_pos (sEq_iff.2 he), if_pos he]
            · rw [if_neg (by rw [sEq_iff]; exact he), if_neg he]
/-- numbers -/
def cmpN (x y : Nat) : Int := if x < y then -1 else if y < x then 1 else 0
/-- atoms: numbers ahead of other texts -/
def cmpA (a b : ByteArray) : Int :=
  match numN a, numN b with
  | some x, some y => cmpN x y
  | some _, none => -1
  | none, some _ => 1
  | none, none => cmpB a b
theorem i_compareInts_eq (x y : Nat) : i_compareInts (x : Int) (y : Int) = some (cmpN x y) := by
  unfold i_compareInts cmpN
  by_cases h1 : x < y
  · rw [if_pos (by simpa using h1), if_pos h1]
  · rw [if_neg (by simpa using h1), if_neg h1]
    by_cases h2 : y < x
    · rw [if_pos (by simpa using h2), if_pos h2]
    · rw [if_neg (by simpa using h2), if_neg h2]
theorem s_CompareAtoms_eq (a b : ByteArray) : s_CompareAtoms a b = some (cmpA a b) := by
  unfold s_CompareAtoms cmpA
  rw [s_ParseInt_eq, Option.bind_some, s_ParseInt_eq, Option.bind_some]
  unfold numR
  cases numN a with
  | none =>
    cases numN b with
    | none => simp only [Bool.false_eq_true, if_false]; rw [s_l1Cmp_eq]; rfl
    | some y => rfl
  | some x =>
    cases numN b with
    | none => rfl
    | some y =>
      simp only [if_true]
      unfold cmpN
      by_cases h1 : x < y
      · rw [if_pos (by simpa using h1), if_pos h1]
      · rw [if_neg (by simpa using h1), if_neg h1]
        by_cases h2 : y < x
        · rw [if_pos (by simpa using h2), if_pos h2]
        · rw [if_neg (by simpa using h2), if_neg h2]
theorem i_CompareAtoms_eq (a b : ByteArray) : i_CompareAtoms a b = some (cmpA a b) := by
  unfold i_CompareAtoms cmpA
  rw [i_ParseInt_eq, Option.bind_some, i_ParseInt_eq, Option.bind_some]
  unfold numR
  cases numN a with
  | none =>
    cases numN b with
    | none => simp only [Bool.false_eq_true, if_false]; rw [x_Compare_eq]; rfl
    | some y => rfl
  | some x =>
    cases numN b with
    | none => rfl
    | some y => simp only [if_true]; rw [i_compareInts_eq]; rfl
/-- lists, the first difference decides -/
def cmpL {α : Type} (c : α → α → Int) : List α → List α → Int
  | [], [] => 0
  | [], _ :: _ => -1
  | _ :: _, [] => 1
  | x :: l, y :: r => if c x y = 0 then cmpL c l r else c x y
/-- facts -/
def cmpF (a b : FactD) : Int := if cmpB a.rel b.rel = 0 then cmpL cmpA a.args b.args else cmpB a.rel b.rel
theorem fact_ext {a b : FactD} (h1 : a.rel = b.rel) (h2 : a.args = b.args) : a = b := by cases a; cases b; simp_all
theorem atI_nat {α : Type} (l : List α) (i : Nat) : atI l (i : Int) = l[i]? := by unfold atI; rw [if_pos (by omega), Int.toNat_natCast]
/-- the walk over the arguments -/
theorem args_loop {A B : List ByteArray} {body : Nat → ByteArray → Unit → Option (Unit ⊕ Int)} {fin : Unit → Option Int}
    (hlt : ∀ i x y, B[i]? = some y → body i x () = if cmpA x y = 0 then some (.inl ()) else some (.inr (cmpA x y))) (hge : ∀ x, B.length < A.length → body B.length x () = some (.inr 1)) (hfin : A.length ≤ B.length → fin () = some (if A.length < B.length then -1 else 0)) :
    ∀ (l : List ByteArray) (i : Nat), i + l.length = A.length → i ≤ B.length → forL body fin l i () = some (cmpL cmpA l (B.drop i))
  | [], i, h, hi => by
    simp at h
    rw [forL_nil, hfin (by omega)]
    by_cases hb : A.length < B.length
    · rw [if_pos hb]
      cases hd : B.drop i with
      | nil => have := congrArg List.length hd; simp at this; omega
      | cons y r => rfl
    · rw [if_neg hb, List.drop_eq_nil_of_le (by omega)]
      rfl
  | x :: l, i, h, hi => by
    simp only [List.length_cons] at h
    by_cases hb : i < B.length
    · have hy : B[i]? = some B[i] := List.getElem?_eq_getElem hb
      rw [List.drop_eq_getElem_cons hb]
      simp only [cmpL]
      by_cases hc : cmpA x B[i] = 0
      · rw [forL_next (by rw [hlt i x _ hy, if_pos hc]), if_pos hc]
        exact args_loop hlt hge hfin l (i + 1) (by omega) (by omega)
      · rw [forL_stop (by rw [hlt i x _ hy, if_neg hc]), if_neg hc]
    · obtain rfl : i = B.length := by omega
      rw [forL_stop (hge x (by omega)), List.drop_eq_nil_of_le (Nat.le_refl _)]
      rfl
theorem s_CompareFacts_eq (a b : FactD) : s_CompareFacts a b = some (cmpF a b) := by
  unfold s_CompareFacts cmpF
  by_cases h : a.rel = b.rel
  · rw [if_pos (sEq_iff.2 h), if_pos ((cmpB_ok.eq _ _).2 h)]
    refine args_loop (A := a.args) (B := b.args) (fun i x y hy => ?_) (fun x hx => ?_) (fun hx => ?_) a.args 0 (by simp) (Nat.zero_le _)
    · have hi := (List.getElem?_eq_some_iff.1 hy).1
      rw [if_pos (by simpa using hi), atI_nat, hy, Option.bind_some, s_CompareAtoms_eq, Option.bind_some]
      by_cases hc : cmpA x y = 0
      · rw [hc]; rfl
      · rw [if_pos (by simpa using hc), if_neg hc]
    · rw [if_neg (by simp), if_neg (by simp; omega), if_pos (by simpa using hx)]
    · by_cases h2 : a.args.length < b.args.length
      · rw [if_pos (by simpa using h2), if_pos h2]
      · rw [if_neg (by simpa using h2), if_neg (by simp; omega), if_neg h2]
  · rw [if_neg (by rw [sEq_iff]; exact h), if_neg (fun e => h ((cmpB_ok.eq _ _).1 e)), s_l1Cmp_eq]
    rfl
theorem i_CompareFacts_eq (a b : FactD) : i_CompareFacts a b = some (cmpF a b) := by
  unfold i_CompareFacts cmpF
  rw [x_Compare_eq, Option.bind_some]
  by_cases h : cmpB a.rel b.rel = 0
  · rw [if_neg (by simpa using h), if_pos h]
    refine args_loop (A := a.args) (B := b.args) (fun i x y hy => ?_) (fun x hx => ?_) (fun hx => ?_) a.args 0 (by simp) (Nat.zero_le _)
    · have hi := (List.getElem?_eq_some_iff.1 hy).1
      rw [if_pos (by simpa using hi), atI_nat, hy, Option.bind_some, i_CompareAtoms_eq, Option.bind_some]
      by_cases hc : cmpA x y = 0
      · rw [hc]; rfl
      · rw [if_pos (by simpa using hc), if_neg hc]
    · rw [if_neg (by simp), i_compareInts_eq]
      unfold cmpN
      rw [if_neg (by omega), if_pos hx]
      rfl
    · rw [i_compareInts_eq]
      unfold cmpN
      by_cases h2 : a.args.length < b.args.length
      · rw [if_pos h2, if_pos h2]; rfl
      · rw [if_neg h2, if_neg (by omega), if_neg h2]; rfl
  · rw [if_pos (by simpa using h), if_neg h]
end Go.Proofs.YtlkgkkacnoaeaaaGreatDoor

namespace Go.Proofs.YtlkgkkacnoaeaaaGreatDoor
theorem s_l2Copy_eq (f : FactD) (h : f.args.length ≤ 1048576) : s_l2Copy f = some f := by
  unfold s_l2Copy
  rw [s_l1Texts_eq _ (by omega)]
  rfl
theorem i_copyFact_eq (f : FactD) (h : f.args.length ≤ 1048576) : i_copyFact f = some f := by
  unfold i_copyFact
  rw [i_copyTexts_eq _ (by omega)]
  rfl
theorem texts_loop {B : List ByteArray} {body : Nat → ByteArray → Unit → Option (Unit ⊕ Bool)} (hb : ∀ i x y, B[i]? = some y → body i x () = if x = y then some (.inl ()) else some (.inr false)) :
    ∀ (l : List ByteArray) (i : Nat), i + l.length = B.length → forL body (fun _ => some true) l i () = some (decide (l = B.drop i))
  | [], i, h => by
    simp at h
    rw [forL_nil, List.drop_eq_nil_of_le (by omega)]
    simp
  | x :: l, i, h => by
    simp only [List.length_cons] at h
    have hi : i < B.length := by omega
    have hd : (x :: l = B.drop i) ↔ (x = B[i] ∧ l = B.drop (i + 1)) := by rw [List.drop_eq_getElem_cons hi, List.cons.injEq]
    rw [Bool.eq_iff_iff.2 (show decide (x :: l = B.drop i) = true ↔ decide (x = B[i] ∧ l = B.drop (i + 1)) = true by rw [decide_eq_true_iff, decide_eq_true_iff]; exact hd)]
    by_cases hx : x = B[i]
    · rw [forL_next (by rw [hb i x _ (List.getElem?_eq_getElem hi), if_pos hx]), texts_loop hb l (i + 1) (by omega)]
      simp [hx]
    · rw [forL_stop (by rw [hb i x _ (List.getElem?_eq_getElem hi), if_neg hx])]
      simp [hx]
theorem i_sameTexts_eq (a b : List ByteArray) : i_sameTexts a b = some (decide (a = b)) := by
  unfold i_sameTexts
  by_cases h : a.length = b.length
  · rw [if_neg (by simp; omega)]
    have := texts_loop (B := b) (body := fun i6 x7 _ => (atI b ((i6 : Nat) : Int)).bind fun x8 => if (sEq x7 x8) = true then some (.inl ()) else some (.inr false)) (fun i x y hy => by
      show (atI b ((i : Nat) : Int)).bind _ = _
      rw [atI_nat, hy, Option.bind_some]
      by_cases hx : x = y
      · rw [if_pos (sEq_iff.2 hx), if_pos hx]
      · rw [if_neg (by rw [sEq_iff]; exact hx), if_neg hx]) a 0 (by omega)
    simpa using this
  · rw [if_pos (by simp; omega), decide_eq_false (fun e => h (by rw [e]))]
open Classical
theorem i_sameFact_eq (a b : FactD) : i_sameFact a b = some (decide (a = b)) := by
  unfold i_sameFact
  by_cases h : a.rel = b.rel
  · rw [if_pos (sEq_iff.2 h), i_sameTexts_eq, Option.bind_some]
    congr 1
    rw [Bool.eq_iff_iff, decide_eq_true_iff, decide_eq_true_iff]
    exact ⟨fun e => fact_ext h e, fun e => by rw [e]⟩
  · rw [if_neg (by rw [sEq_iff]; exact h), decide_eq_false (fun e => h (by rw [e]))]
theorem i_FindFact_eq (l : List FactD) (f : FactD) : ∃ z, i_FindFact l f = some z ∧ (z < 0 ↔ f ∉ l) := by
  unfold i_FindFact
  have key : ∀ (l : List FactD) (i : Nat), ∃ z, forL (σ := Unit) (fun (i6 : Nat) (x7 : FactD) _ => (i_sameFact x7 f).bind fun v8 => if v8 = true then some (.inr ((i6 : Nat) : Int)) else some (.inl ())) (fun _ => some (-1)) l i () = some z ∧ (z < 0 ↔ f ∉ l) := by
    intro l
    induction l with
    | nil => intro i; exact ⟨-1, rfl, by simp⟩
    | cons x l ih =>
      intro i
      by_cases hx : x = f
      · refine ⟨(i : Int), forL_stop (by rw [i_sameFact_eq, Option.bind_some, if_pos (decide_eq_true hx)]), by simp [hx]⟩
      · obtain ⟨z, e, hz⟩ := ih (i + 1)
        refine ⟨z, (forL_next (by rw [i_sameFact_eq, Option.bind_some, if_neg (by simpa using hx)])).trans e, ?_⟩
        rw [hz, List.mem_cons]
        exact ⟨fun h => by rintro (h1 | h1); exact hx h1.symm; exact h h1, fun h h1 => h (.inr h1)⟩
  exact key l 0
end Go.Proofs.YtlkgkkacnoaeaaaGreatDoor

namespace Go.Proofs.YtlkgkkacnoaeaaaGreatDoor

def isPatternB (p : PatternD) : Bool := isNameB p.rel && decide (p.args.length ≤ 3) && p.args.all isTermB

theorem s_IsPattern_eq (p : PatternD) : s_IsPattern p = some (isPatternB p) := by
  unfold s_IsPattern isPatternB
  rw [forL_all (p := isTermB) (r := false)]
  · simp only [s_IsName_eq, Option.bind_some]
    have : decide (((p.args.length : Nat) : Int) ≤ 3) = decide (p.args.length ≤ 3) := by rw [Bool.eq_iff_iff]; simp only [decide_eq_true_eq]; omega
    rw [this]
    cases p.args.all isTermB <;> cases isNameB p.rel <;> simp
  · intro i x _
    rw [s_IsTerm_eq]
    cases isTermB x <;> simp

theorem i_IsPattern_eq (p : PatternD) : i_IsPattern p = some (isPatternB p) := by
  unfold i_IsPattern isPatternB
  rw [i_IsName_eq, forL_all (p := isTermB) (r := false)]
  · by_cases h : p.args.length ≤ 3
    · have h' : ¬ (3 : Int) < ((p.args.length : Nat) : Int) := by omega
      cases p.args.all isTermB <;> cases isNameB p.rel <;> simp [h, h']
    · have h' : (3 : Int) < ((p.args.length : Nat) : Int) := by omega
      cases isNameB p.rel <;> simp [h, h']
  · intro i x _
    rw [i_IsTerm_eq]
    cases isTermB x <;> simp

def zeroPatternB (p : PatternD) : Bool := sEq p.rel ⟨#[]⟩ && decide (p.args.length = 0)

theorem len0 {α : Type} (l : List α) : ((((l.length : Nat) : Int)) == 0) = decide (l.length = 0) := by
  rw [Bool.eq_iff_iff, beq_iff_eq, decide_eq_true_eq]; omega

theorem i_zeroPattern_eq (p : PatternD) : i_zeroPattern p = some (zeroPatternB p) := by
  unfold i_zeroPattern zeroPatternB
  rw [len0]
  cases sEq p.rel ⟨#[]⟩ <;> simp

def isCondB (x : CondD) : Bool :=
  if x.kind = 1 ∨ x.kind = 2 then isPatternB x.pattern && sEq x.left ⟨#[]⟩ && sEq x.right ⟨#[]⟩
  else if x.kind = 3 ∨ x.kind = 4 ∨ x.kind = 5 then zeroPatternB x.pattern && isTermB x.left && isTermB x.right
  else false

theorem s_IsCond_eq (x : CondD) : s_IsCond x = some (isCondB x) := by
  unfold s_IsCond isCondB
  simp only [s_IsPattern_eq, s_IsTerm_eq, Option.bind_some, zeroPatternB, len0, beq_iff_eq]
  by_cases h1 : x.kind = 1
  · simp only [h1, if_true, true_or]; cases isPatternB x.pattern <;> cases sEq x.left ⟨#[]⟩ <;> simp
  by_cases h2 : x.kind = 2
  · simp only [h2, if_true, or_true]; cases isPatternB x.pattern <;> cases sEq x.left ⟨#[]⟩ <;> simp
  simp only [h1, h2, if_false, or_self]
  by_cases h3 : x.kind = 3
  · simp only [h3, if_true, true_or]; cases sEq x.pattern.rel ⟨#[]⟩ <;> cases decide (x.pattern.args.length = 0) <;> cases isTermB x.left <;> simp
  by_cases h4 : x.kind = 4
  · simp only [h4, if_true, true_or, or_true]; cases sEq x.pattern.rel ⟨#[]⟩ <;> cases decide (x.pattern.args.length = 0) <;> cases isTermB x.left <;> simp
  by_cases h5 : x.kind = 5
  · simp only [h5, if_true, or_true]; cases sEq x.pattern.rel ⟨#[]⟩ <;> cases decide (x.pattern.args.length = 0) <;> cases isTermB x.left <;> simp
  simp [h3, h4, h5]

theorem i_IsCond_eq (x : CondD) : i_IsCond x = some (isCondB x) := by
  unfold i_IsCond isCondB
  simp only [i_IsPattern_eq, i_IsTerm_eq, i_zeroPattern_eq, Option.bind_some, beq_iff_eq]
  by_cases h1 : x.kind = 1
  · simp only [h1, if_true, true_or]; cases isPatternB x.pattern <;> cases sEq x.left ⟨#[]⟩ <;> simp
  by_cases h2 : x.kind = 2
  · simp only [h2, if_true, or_true]; cases isPatternB x.pattern <;> cases sEq x.left ⟨#[]⟩ <;> simp
  simp only [h1, h2, if_false, or_self]
  by_cases h3 : x.kind = 3
  · simp only [h3, if_true, true_or]; cases zeroPatternB x.pattern <;> cases isTermB x.left <;> cases isTermB x.right <;> simp
  by_cases h4 : x.kind = 4
  · simp only [h4, if_true, true_or, or_true]; cases zeroPatternB x.pattern <;> cases isTermB x.left <;> cases isTermB x.right <;> simp
  by_cases h5 : x.kind = 5
  · simp only [h5, if_true, or_true]; cases zeroPatternB x.pattern <;> cases isTermB x.left <;> cases isTermB x.right <;> simp
  simp [h3, h4, h5]

theorem isCondB_kind {x : CondD} (h : isCondB x = true) : x.kind = 1 ∨ x.kind = 2 ∨ x.kind = 3 ∨ x.kind = 4 ∨ x.kind = 5 := by
  unfold isCondB at h
  split at h
  · rename_i h1; omega
  · split at h
    · rename_i h1; omega
    · simp at h

theorem s_IsTest_eq (x : CondD) : s_IsTest x = some (isCondB x && decide (3 ≤ x.kind)) := by
  unfold s_IsTest
  rw [s_IsCond_eq]
  cases isCondB x <;> simp

def isActionB (a : ActionD) : Bool :=
  if a.kind = 1 ∨ a.kind = 2 then isPatternB a.pattern else if a.kind = 3 then zeroPatternB a.pattern else false

theorem s_IsAction_eq (a : ActionD) : s_IsAction a = some (isActionB a) := by
  unfold s_IsAction isActionB
  simp only [s_IsPattern_eq, Option.bind_some, zeroPatternB, len0, beq_iff_eq]
  by_cases h1 : a.kind = 1
  · simp [h1]
  by_cases h2 : a.kind = 2
  · simp [h2]
  by_cases h3 : a.kind = 3
  · simp only [h3, if_true]; cases sEq a.pattern.rel ⟨#[]⟩ <;> simp
  simp [h1, h2, h3]

theorem i_IsAction_eq (a : ActionD) : i_IsAction a = some (isActionB a) := by
  unfold i_IsAction isActionB
  simp only [i_IsPattern_eq, i_zeroPattern_eq, Option.bind_some, beq_iff_eq]
  by_cases h1 : a.kind = 1
  · simp [h1]
  by_cases h2 : a.kind = 2
  · simp [h2]
  by_cases h3 : a.kind = 3
  · simp [h3]
  simp [h1, h2, h3]

def varsA (l : List ByteArray) : List ByteArray := l.filter isVarB

theorem varsA_len (l : List ByteArray) : (varsA l).length ≤ l.length := List.length_filter_le _ _

theorem mem_varsA {x : ByteArray} {l : List ByteArray} : x ∈ varsA l ↔ x ∈ l ∧ isVarB x = true := by simp [varsA]

theorem i_varsAmong_eq (l : List ByteArray) (h : l.length ≤ 1073741824) : i_varsAmong l = some (varsA l) := by
  unfold i_varsAmong
  rw [forL_filter (p := isVarB)]
  · simp [varsA]
  · intro j x s _ hs
    rw [i_IsVar_eq, Option.bind_some]
    split
    · rw [chk_pos _ (by simp at hs; omega)]
    · rfl

theorem fold_filter {p : ByteArray → Bool} : ∀ (l acc : List ByteArray), l.foldl (fun s x => if p x = true then putT s x else s) acc = (l.filter p).foldl putT acc
  | [], _ => rfl
  | x :: l, acc => by
    rw [List.foldl_cons, fold_filter l]
    by_cases h : p x = true <;> simp [h]

theorem s_VarsOf_eq (p : PatternD) (h : p.args.length ≤ 1073741823) : s_VarsOf p = some (sortedT (varsA p.args)) := by
  unfold s_VarsOf
  rw [forL_fold (f := fun s x => if isVarB x = true then putT s x else s) (fun j s => s.length ≤ j) (by simp)]
  · rw [fold_filter]; rfl
  · intro j x s _ _ hl hI
    simp at hl
    have := putT_len x s
    rw [s_IsVar_eq, Option.bind_some]
    split
    · rw [s_l1Put_eq _ _ (by omega)]
      exact ⟨rfl, by omega⟩
    · exact ⟨rfl, by omega⟩

def termsD (x : CondD) : List ByteArray := x.pattern.args ++ [x.left, x.right]

def condV (x : CondD) : List ByteArray := sortedT (varsA (termsD x))

theorem i_CondVars_eq (x : CondD) (h : x.pattern.args.length ≤ 1073741822) : i_CondVars x = some (condV x) := by
  unfold i_CondVars i_termsOf
  rw [i_copyTexts_eq _ (by omega), Option.bind_some, chk_pos _ (by omega), Option.bind_some, i_varsAmong_eq _ (by simp; omega), Option.bind_some]
  have := varsA_len (x.pattern.args ++ [x.left, x.right])
  simp at this
  rw [i_SortedTexts_eq _ (by omega)]
  rfl

theorem s_CondVars_eq (x : CondD) (h : x.pattern.args.length ≤ 1073741820) : s_CondVars x = some (condV x) := by
  unfold s_CondVars
  have h1 := sortedT_len (varsA x.pattern.args)
  have h2 := varsA_len x.pattern.args
  have h3 := putT_len x.left (sortedT (varsA x.pattern.args))
  have key : ∀ l : List ByteArray, (∀ y, y ∈ l ↔ y ∈ varsA (termsD x)) → Asc l → l = condV x := fun l hm ha => sortedT_of ha hm
  rw [s_VarsOf_eq _ (by omega), Option.bind_some, s_IsVar_eq, Option.bind_some, s_IsVar_eq]
  simp only [Option.bind_some]
  rw [s_l1Put_eq _ _ (by omega), Option.bind_some, s_l1Put_eq (putT _ _) _ (by omega), Option.bind_some, s_l1Put_eq _ x.right (by omega), Option.bind_some]
  cases hl : isVarB x.left <;> cases hr : isVarB x.right <;> simp only [if_true, Bool.false_eq_true, if_false] <;> congr 1 <;> apply key <;> (try intro y) <;> (try simp only [mem_putT, mem_sortedT, mem_varsA, termsD, List.mem_append, List.mem_cons, List.not_mem_nil, or_false])
  all_goals first
    | exact asc_sortedT _
    | exact asc_putT (asc_sortedT _)
    | exact asc_putT (asc_putT (asc_sortedT _))
    | skip
  · constructor
    · rintro ⟨a, b⟩; exact ⟨.inl a, b⟩
    · rintro ⟨a | rfl | rfl, b⟩
      · exact ⟨a, b⟩
      · rw [hl] at b; simp at b
      · rw [hr] at b; simp at b
  · constructor
    · rintro (rfl | ⟨a, b⟩)
      · exact ⟨by simp, hr⟩
      · exact ⟨.inl a, b⟩
    · rintro ⟨a | rfl | rfl, b⟩
      · exact .inr ⟨a, b⟩
      · rw [hl] at b; simp at b
      · exact .inl rfl
  · constructor
    · rintro (rfl | ⟨a, b⟩)
      · exact ⟨by simp, hl⟩
      · exact ⟨.inl a, b⟩
    · rintro ⟨a | rfl | rfl, b⟩
      · exact .inr ⟨a, b⟩
      · exact .inl rfl
      · rw [hr] at b; simp at b
  · constructor
    · rintro (rfl | rfl | ⟨a, b⟩)
      · exact ⟨by simp, hr⟩
      · exact ⟨by simp, hl⟩
      · exact ⟨.inl a, b⟩
    · rintro ⟨a | rfl | rfl, b⟩
      · exact .inr (.inr ⟨a, b⟩)
      · exact .inr (.inl rfl)
      · exact .inl rfl

theorem condV_len (x : CondD) : (condV x).length ≤ x.pattern.args.length + 2 := by
  have h1 := sortedT_len (varsA (termsD x))
  have h2 := varsA_len (termsD x)
  have h3 : (termsD x).length = x.pattern.args.length + 2 := by simp [termsD]
  unfold condV
  omega

theorem condV_var {x : CondD} {v : ByteArray} (h : v ∈ condV x) : isVarB v = true := (mem_varsA.1 (mem_sortedT.1 h)).2

/-- rules that are not too large to be looked at -/
structure SmallR (r : RuleD) : Prop where
  cl : r.cond.length ≤ 1048576
  tl : r.thn.length ≤ 1048576
  ca : ∀ x ∈ r.cond, x.pattern.args.length ≤ 1048576
  ta : ∀ a ∈ r.thn, a.pattern.args.length ≤ 1048576

/-- the variables of the presences among conditions -/
def hasVars (l : List CondD) : List ByteArray := l.flatMap fun x => if x.kind = 1 then varsA x.pattern.args else []

def boundV (r : RuleD) (n : Nat) : List ByteArray := sortedT (hasVars (r.cond.take n))

theorem i_BoundVars_eq (r : RuleD) (n : Int) (h : SmallR r) (h4 : r.cond.length ≤ 4) : i_BoundVars r n = some (boundV r n.toNat) := by
  unfold i_BoundVars boundV
  refine (forL_rec (fun l i (row : List ByteArray) => some (sortedT (row ++ hasVars (l.take (n.toNat - i))))) (fun l i row => r.cond.drop i = l ∧ row.length ≤ 1048576 * i ∧ i ≤ r.cond.length) ?_ ?_ r.cond 0 [] ⟨by simp, by simp, by simp⟩).trans (by simp)
  · rintro i row ⟨h1, h2, h3⟩
    rw [i_SortedTexts_eq _ (by omega)]
    simp [hasVars]
  · rintro x l i row ⟨h1, h2, h3⟩
    left
    have hi : r.cond[i]? = some x := by have := congrArg (fun l => l[0]?) h1; simpa using this
    have hlt : i < r.cond.length := (List.getElem?_eq_some_iff.1 hi).1
    have hr : r.cond.drop (i + 1) = l := by have := congrArg List.tail h1; simpa using this
    have hx := h.ca x (List.mem_of_getElem? hi)
    have hv := varsA_len x.pattern.args
    by_cases hn : ((i : Nat) : Int) < n
    · have e : n.toNat - i = (n.toNat - (i + 1)) + 1 := by omega
      by_cases hk : x.kind = 1
      · refine ⟨row ++ varsA x.pattern.args, ?_, ⟨hr, by simp; omega, by omega⟩, ?_⟩
        · simp only [hn, hk, decide_true, beq_self_eq_true, if_true]
          rw [i_varsAmong_eq _ (by omega), Option.bind_some, chk_pos _ (by omega)]
        · rw [e]; simp [hasVars, hk]
      · refine ⟨row, ?_, ⟨hr, by omega, by omega⟩, ?_⟩
        · simp [hn, hk]
        · rw [e]; simp [hasVars, hk]
    · have e : n.toNat - i = 0 := by omega
      have e' : n.toNat - (i + 1) = 0 := by omega
      refine ⟨row, ?_, ⟨hr, by omega, by omega⟩, ?_⟩
      · simp [hn]
      · rw [e, e']; simp

theorem s_BoundVars_eq (r : RuleD) (n : Int) (h : SmallR r) (h4 : r.cond.length ≤ 4) : s_BoundVars r n = some (boundV r n.toNat) := by
  unfold s_BoundVars boundV
  refine (forL_rec (fun l i (row : List ByteArray) => some ((hasVars (l.take (n.toNat - i))).foldl putT row)) (fun l i row => r.cond.drop i = l ∧ row.length ≤ 1048576 * i ∧ i ≤ r.cond.length ∧ Asc row) ?_ ?_ r.cond 0 [] ⟨by simp, by simp, by simp, List.Pairwise.nil⟩).trans (by simp [sortedT])
  · rintro i row ⟨h1, h2, h3, h5⟩
    simp [hasVars]
  · rintro x l i row ⟨h1, h2, h3, h5⟩
    have hi : r.cond[i]? = some x := by have := congrArg (fun l => l[0]?) h1; simpa using this
    have hlt : i < r.cond.length := (List.getElem?_eq_some_iff.1 hi).1
    have hr : r.cond.drop (i + 1) = l := by have := congrArg List.tail h1; simpa using this
    have hx := h.ca x (List.mem_of_getElem? hi)
    have hv := varsA_len x.pattern.args
    have hs := sortedT_len (varsA x.pattern.args)
    by_cases hn : ((i : Nat) : Int) < n
    · left
      have e : n.toNat - i = (n.toNat - (i + 1)) + 1 := by omega
      by_cases hk : x.kind = 1
      · obtain ⟨f1, f2, f3⟩ := foldPut (sortedT (varsA x.pattern.args)) row h5
        refine ⟨(sortedT (varsA x.pattern.args)).foldl putT row, ?_, ⟨hr, by omega, by omega, f1⟩, ?_⟩
        · simp only [hn, hk, decide_true, beq_self_eq_true, if_true]
          rw [s_VarsOf_eq _ (by omega), Option.bind_some, forL_put (fun _ _ _ => rfl) (by omega)]
        · rw [e]
          simp only [hasVars, List.take_succ_cons, List.flatMap_cons, hk, if_true, List.foldl_append]
          congr 2
          obtain ⟨g1, g2, _⟩ := foldPut (varsA x.pattern.args) row h5
          exact asc_ext g1 f1 fun y => by rw [g2, f2, mem_sortedT]
      · refine ⟨row, ?_, ⟨hr, by omega, by omega, h5⟩, ?_⟩
        · simp [hn, hk]
        · rw [e]; simp [hasVars, hk]
    · right
      have e : n.toNat - i = 0 := by omega
      refine ⟨row, by simp [hn], by rw [e]; simp [hasVars]⟩

def elseB (r : RuleD) (i : Int) (v : ByteArray) : Bool := !(allI (fun k x => !(decide ((k : Int) ≠ i) && hasT (condV x) v)) r.cond 0 && r.thn.all fun a => !hasT a.pattern.args v)

theorem elsewhere_step {r : RuleD} {i : Int} {v : ByteArray} {f : CondD → Option (List ByteArray)} {g : List ByteArray → ByteArray → Option Bool} (hf : ∀ x ∈ r.cond, f x = some (condV x)) (hg : ∀ l, g l v = some (hasT l v)) {fin : Unit → Option Bool} (hfin : fin () = some (!(r.thn.all fun a => !hasT a.pattern.args v))) :
    forL (σ := Unit) (fun (k : Nat) (x : CondD) _ => if (((k : Nat) : Int) != i) = true then (f x).bind fun l => (g l v).bind fun b => if b = true then some (.inr true) else some (.inl ()) else some (.inl ())) fin r.cond 0 () = some (elseB r i v) := by
  rw [forL_allI (p := fun k x => !(decide ((k : Int) ≠ i) && hasT (condV x) v)) (r := true)]
  · unfold elseB
    cases allI (fun k x => !(decide ((k : Int) ≠ i) && hasT (condV x) v)) r.cond 0 with
    | true => simp only [if_true, hfin, Bool.true_and]
    | false => simp
  · intro j x hj
    rw [hf x (List.mem_of_getElem? hj), Option.bind_some, hg, Option.bind_some, Nat.zero_add]
    by_cases h : (j : Int) = i
    · simp [h]
    · have : ((j : Int) != i) = true := by simpa using h
      simp only [this, if_true]
      cases hasT (condV x) v <;> simp [h]

theorem i_occursElsewhere_eq (r : RuleD) (i : Int) (v : ByteArray) (h : SmallR r) : i_occursElsewhere r i v = some (elseB r i v) := by
  unfold i_occursElsewhere
  refine elsewhere_step (f := i_CondVars) (g := i_hasText) (fun x mx => i_CondVars_eq x (by have := h.ca x mx; omega)) (fun l => i_hasText_eq l v) ?_
  rw [forL_any (p := fun a => hasT a.pattern.args v) (r := true)]
  · simp only [← List.not_any_eq_all_not, Bool.not_not]
    cases r.thn.any fun a => hasT a.pattern.args v <;> rfl
  · intro j a _
    rw [i_hasText_eq]
    cases hasT a.pattern.args v <;> simp

theorem s_l5Elsewhere_eq (r : RuleD) (i : Int) (v : ByteArray) (h : SmallR r) (hv : isVarB v = true) : s_l5Elsewhere r i v = some (elseB r i v) := by
  unfold s_l5Elsewhere
  refine elsewhere_step (f := s_CondVars) (g := s_l1HasText) (fun x mx => s_CondVars_eq x (by have := h.ca x mx; omega)) (fun l => s_l1HasText_eq l v) ?_
  rw [forL_any (p := fun a => hasT a.pattern.args v) (r := true)]
  · simp only [← List.not_any_eq_all_not, Bool.not_not]
    cases r.thn.any fun a => hasT a.pattern.args v <;> rfl
  · intro j a ma
    rw [s_VarsOf_eq _ (by have := h.ta a ma; omega), Option.bind_some, s_l1HasText_eq, Option.bind_some]
    have : hasT (sortedT (varsA a.pattern.args)) v = hasT a.pattern.args v := by
      rw [Bool.eq_iff_iff, hasT_iff, hasT_iff, mem_sortedT, mem_varsA]
      simp [hv]
    rw [this]
    cases hasT a.pattern.args v <;> simp

def fitsV (r : RuleD) (i : Nat) (x : CondD) (v : ByteArray) : Bool := decide (x.kind = 1) || hasT (boundV r i) v || (decide (x.kind = 2) && !elseB r i v)

def fitsB (r : RuleD) (i : Nat) (x : CondD) : Bool := (condV x).all (fitsV r i x)

theorem i_condFits_eq (r : RuleD) (i : Nat) (x : CondD) (h : SmallR r) (h4 : r.cond.length ≤ 4) (hx : r.cond[i]? = some x) : i_condFits r i = some (fitsB r i x) := by
  unfold i_condFits fitsB
  have ha : atI r.cond (i : Int) = some x := by unfold atI; rw [if_pos (by omega), Int.toNat_natCast]; exact hx
  rw [ha, Option.bind_some, i_BoundVars_eq r _ h h4, Option.bind_some, i_CondVars_eq x (by have := h.ca x (List.mem_of_getElem? hx); omega), Option.bind_some, Int.toNat_natCast]
  rw [forL_all (p := fitsV r i x) (r := false)]
  · cases (condV x).all (fitsV r i x) <;> rfl
  · intro j v mv
    rw [i_hasText_eq, i_occursElsewhere_eq r _ v h]
    simp only [Option.bind_some, fitsV, beq_iff_eq, bne_iff_ne, ne_eq]
    by_cases h1 : x.kind = 1
    · simp [h1]
    · simp only [h1, if_false, decide_false, Bool.false_or]
      cases hasT (boundV r i) v with
      | true => simp
      | false =>
        by_cases h2 : x.kind = 2
        · simp only [h2, not_true_eq_false, if_false, Bool.false_eq_true, decide_true, Bool.true_and, Bool.false_or]
          cases elseB r i v <;> simp
        · simp [h2]

def isRuleB (r : RuleD) : Bool :=
  isNameB r.name && decide (0 ≤ r.priority) && decide (r.priority ≤ 9) && decide (1 ≤ r.cond.length) && decide (r.cond.length ≤ 4) && decide (1 ≤ r.thn.length) && decide (r.thn.length ≤ 2)
    && allI (fun i x => isCondB x && (decide (i ≠ 0) || decide (x.kind = 1)) && fitsB r i x) r.cond 0
    && r.thn.all (fun a => isActionB a && (varsA a.pattern.args).all (hasT (boundV r r.cond.length)))
    && decide ((sortedT (r.cond.flatMap condV)).length ≤ 6)

theorem i_condVarsOf_eq (l : List CondD) (h : ∀ x ∈ l, x.pattern.args.length ≤ 1048576) (h4 : l.length ≤ 4) : i_condVarsOf l = some (l.flatMap condV) := by
  unfold i_condVarsOf
  rw [forL_fold (f := fun s x => s ++ condV x) (fun j s => s.length ≤ 1048578 * j) (by simp)]
  · congr 1
    have : ∀ (l : List CondD) (acc : List ByteArray), l.foldl (fun s x => s ++ condV x) acc = acc ++ l.flatMap condV := by
      intro l
      induction l with
      | nil => simp
      | cons x l ih => intro acc; rw [List.foldl_cons, ih]; simp
    simpa using this l []
  · intro j x s mx _ hl hI
    have := h x mx
    have := condV_len x
    rw [i_CondVars_eq x (by omega), Option.bind_some, chk_pos _ (by omega)]
    exact ⟨rfl, by simp; omega⟩

theorem i_IsRule_eq (r : RuleD) (h : SmallR r) : i_IsRule r = some (isRuleB r) := by
  unfold i_IsRule isRuleB
  rw [i_IsName_eq, Option.bind_some]
  cases isNameB r.name with
  | false => simp
  | true =>
  simp only [if_true, decide_eq_true_eq, Bool.true_and]
  split
  · rw [decide_eq_false (show ¬ 0 ≤ r.priority by omega)]; simp
  split
  · rw [decide_eq_false (show ¬ r.priority ≤ 9 by omega)]; simp
  split
  · rw [decide_eq_false (show ¬ 1 ≤ r.cond.length by omega)]; simp
  split
  · rw [decide_eq_false (show ¬ r.cond.length ≤ 4 by omega)]; simp
  split
  · rw [decide_eq_false (show ¬ 1 ≤ r.thn.length by omega)]; simp
  split
  · rw [decide_eq_false (show ¬ r.thn.length ≤ 2 by omega)]; simp
  rw [decide_eq_true (show 0 ≤ r.priority by omega), decide_eq_true (show r.priority ≤ 9 by omega), decide_eq_true (show 1 ≤ r.cond.length by omega), decide_eq_true (show r.cond.length ≤ 4 by omega), decide_eq_true (show 1 ≤ r.thn.length by omega), decide_eq_true (show r.thn.length ≤ 2 by omega)]
  simp only [Bool.true_and]
  have h4 : r.cond.length ≤ 4 := by omega
  rw [forL_allI (p := fun i x => isCondB x && (decide (i ≠ 0) || decide (x.kind = 1)) && fitsB r i x) (r := false)]
  · cases allI (fun i x => isCondB x && (decide (i ≠ 0) || decide (x.kind = 1)) && fitsB r i x) r.cond 0 with
    | false => simp
    | true =>
      simp only [if_true, Bool.true_and]
      rw [i_BoundVars_eq r _ h h4, Option.bind_some, Int.toNat_natCast, forL_all (p := fun a => isActionB a && (varsA a.pattern.args).all (hasT (boundV r r.cond.length))) (r := false)]
      · cases r.thn.all fun a => isActionB a && (varsA a.pattern.args).all (hasT (boundV r r.cond.length)) with
        | false => simp
        | true =>
          have hl : (r.cond.flatMap condV).length ≤ 1048578 * r.cond.length := by
            have : ∀ l : List CondD, (∀ x ∈ l, x.pattern.args.length ≤ 1048576) → (l.flatMap condV).length ≤ 1048578 * l.length := by
              intro l
              induction l with
              | nil => simp
              | cons x l ih =>
                intro hl
                have h1 := ih fun y my => hl y (by simp [my])
                have h2 := hl x (by simp)
                have h3 := condV_len x
                simp only [List.flatMap_cons, List.length_append, List.length_cons]
                omega
            exact this r.cond h.ca
          simp only [if_true, Bool.true_and]
          rw [i_condVarsOf_eq _ h.ca h4, Option.bind_some, i_SortedTexts_eq _ (by omega), Option.bind_some]
          congr 1
          rw [Bool.eq_iff_iff]
          simp only [decide_eq_true_eq]
          omega
      · intro j a ma
        rw [i_IsAction_eq, Option.bind_some]
        cases isActionB a with
        | false => simp
        | true =>
          simp only [if_true, Bool.true_and]
          rw [i_varsAmong_eq _ (by have := h.ta a ma; omega), Option.bind_some, forL_all (p := hasT (boundV r r.cond.length)) (r := .inr false)]
          · cases (varsA a.pattern.args).all (hasT (boundV r r.cond.length)) <;> rfl
          · intro k v _
            rw [i_hasText_eq, Option.bind_some]
            cases hasT (boundV r r.cond.length) v <;> simp
  · intro j x hj
    rw [Nat.zero_add, i_IsCond_eq, Option.bind_some, i_condFits_eq r j x h h4 hj]
    simp only [Option.bind_some]
    cases isCondB x with
    | false => simp
    | true =>
      by_cases h0 : j = 0
      · subst h0
        by_cases hk : x.kind = 1
        · simp only [hk]; cases fitsB r 0 x <;> simp
        · simp [hk]
      · have : ((j : Int) == 0) = false := by rw [beq_eq_false_iff_ne]; omega
        simp only [this]
        cases fitsB r j x <;> simp [h0]

theorem foldPut_flat {α : Type} (f : α → List ByteArray) : ∀ (l : List α) (acc : List ByteArray), Asc acc → l.foldl (fun s x => (f x).foldl putT s) acc = (l.flatMap f).foldl putT acc
  | [], _, _ => rfl
  | x :: l, acc, h => by rw [List.foldl_cons, foldPut_flat f l _ (foldPut (f x) acc h).1, List.flatMap_cons, List.foldl_append]

/-- the variables of the conditions and the actions -/
def ruleVars (r : RuleD) : List ByteArray := sortedT (r.cond.flatMap condV ++ r.thn.flatMap fun a => varsA a.pattern.args)

theorem s_RuleVars_eq (r : RuleD) (h : SmallR r) (h4 : r.cond.length ≤ 4) (h2 : r.thn.length ≤ 2) : s_RuleVars r = some (ruleVars r) := by
  unfold s_RuleVars ruleVars
  rw [forL_fold (f := fun s x => (condV x).foldl putT s) (fun j s => s.length ≤ 1048578 * j ∧ Asc s) ⟨by simp, List.Pairwise.nil⟩]
  · have hA := foldPut_flat condV r.cond [] List.Pairwise.nil
    have hB : Asc (r.cond.foldl (fun s x => (condV x).foldl putT s) []) := by rw [hA]; exact (foldPut _ [] List.Pairwise.nil).1
    have hl : (r.cond.foldl (fun s x => (condV x).foldl putT s) []).length ≤ 1048578 * 4 := by
      rw [hA]
      have := (foldPut (r.cond.flatMap condV) [] List.Pairwise.nil).2.2
      have h3 : (r.cond.flatMap condV).length ≤ 1048578 * r.cond.length := by
        have : ∀ l : List CondD, (∀ x ∈ l, x.pattern.args.length ≤ 1048576) → (l.flatMap condV).length ≤ 1048578 * l.length := by
          intro l
          induction l with
          | nil => simp
          | cons x l ih =>
            intro hl
            have h1 := ih fun y my => hl y (by simp [my])
            have h2 := hl x (by simp)
            have h3 := condV_len x
            simp only [List.flatMap_cons, List.length_append, List.length_cons]
            omega
        exact this r.cond h.ca
      simp only [List.length_nil, Nat.add_zero] at this
      omega
    rw [forL_fold (f := fun s a => (sortedT (varsA a.pattern.args)).foldl putT s) (fun j s => s.length ≤ 1048578 * 4 + 1048576 * j ∧ Asc s) ⟨by omega, hB⟩]
    · congr 1
      rw [foldPut_flat (fun a : ActionD => sortedT (varsA a.pattern.args)) r.thn _ hB, hA]
      refine sortedT_of (foldPut _ _ (foldPut _ [] List.Pairwise.nil).1).1 fun y => ?_
      rw [(foldPut _ _ (foldPut _ [] List.Pairwise.nil).1).2.1 y, (foldPut _ [] List.Pairwise.nil).2.1 y]
      simp only [List.mem_append, List.mem_flatMap, mem_sortedT, List.not_mem_nil, or_false]
      exact Or.comm
    · intro j a s ma _ hj hI
      have h5 := h.ta a ma
      have h6 := varsA_len a.pattern.args
      have h7 := sortedT_len (varsA a.pattern.args)
      obtain ⟨f1, f2, f3⟩ := foldPut (sortedT (varsA a.pattern.args)) s hI.2
      rw [s_VarsOf_eq _ (by omega), Option.bind_some, forL_put (fun _ _ _ => rfl) (by omega)]
      exact ⟨rfl, by omega, f1⟩
  · intro j x s mx _ hj hI
    have h5 := h.ca x mx
    have h6 := condV_len x
    obtain ⟨f1, f2, f3⟩ := foldPut (condV x) s hI.2
    rw [s_CondVars_eq _ (by omega), Option.bind_some, forL_put (fun _ _ _ => rfl) (by omega)]
    exact ⟨rfl, by omega, f1⟩

theorem hasVars_sub {l : List CondD} {y : ByteArray} (h : y ∈ hasVars l) : y ∈ l.flatMap condV := by
  simp only [hasVars, List.mem_flatMap] at h ⊢
  obtain ⟨x, hx, hy⟩ := h
  refine ⟨x, hx, ?_⟩
  split at hy
  · rw [condV, mem_sortedT, mem_varsA]
    rw [mem_varsA] at hy
    exact ⟨by simp [termsD, hy.1], hy.2⟩
  · simp at hy

theorem s_IsRule_eq (r : RuleD) (h : SmallR r) : s_IsRule r = some (isRuleB r) := by
  unfold s_IsRule isRuleB
  rw [s_IsName_eq, Option.bind_some]
  cases isNameB r.name with
  | false => simp
  | true =>
  simp only [if_true, s_l1In_eq, Option.bind_some, Bool.true_and, Bool.and_eq_true, decide_eq_true_eq]
  split
  rotate_left
  · rename_i hh
    have : (decide (0 ≤ r.priority) && decide (r.priority ≤ 9)) = false := by simp; omega
    rw [this]; simp
  rename_i hp
  rw [decide_eq_true hp.1, decide_eq_true hp.2]
  split
  rotate_left
  · rename_i hh
    have : (decide (1 ≤ r.cond.length) && decide (r.cond.length ≤ 4)) = false := by simp; omega
    simp only [Bool.true_and, this, Bool.false_and]
  rename_i hc
  rw [decide_eq_true (show 1 ≤ r.cond.length by omega), decide_eq_true (show r.cond.length ≤ 4 by omega)]
  split
  rotate_left
  · rename_i hh
    have : (decide (1 ≤ r.thn.length) && decide (r.thn.length ≤ 2)) = false := by simp; omega
    simp only [Bool.true_and, this, Bool.false_and]
  rename_i ht
  rw [decide_eq_true (show 1 ≤ r.thn.length by omega), decide_eq_true (show r.thn.length ≤ 2 by omega)]
  simp only [Bool.true_and]
  have h4 : r.cond.length ≤ 4 := by omega
  rw [s_BoundVars_eq r _ h h4, Option.bind_some, Int.toNat_natCast]
  rw [forL_allI (p := fun i x => isCondB x && (decide (i ≠ 0) || decide (x.kind = 1)) && fitsB r i x) (r := false)]
  · cases allI (fun i x => isCondB x && (decide (i ≠ 0) || decide (x.kind = 1)) && fitsB r i x) r.cond 0 with
    | false => simp
    | true =>
      simp only [if_true, Bool.true_and]
      rw [forL_all (p := fun a => isActionB a && (varsA a.pattern.args).all (hasT (boundV r r.cond.length))) (r := false)]
      · cases ha : r.thn.all fun a => isActionB a && (varsA a.pattern.args).all (hasT (boundV r r.cond.length)) with
        | false => simp
        | true =>
          simp only [if_true, Bool.true_and]
          rw [s_RuleVars_eq r h h4 (by omega), Option.bind_some]
          have e : ruleVars r = sortedT (r.cond.flatMap condV) := sortedT_congr fun y => by
            simp only [List.mem_append]
            refine ⟨fun hy => ?_, .inl⟩
            rcases hy with hy | hy
            · exact hy
            · obtain ⟨a, ma, hy⟩ := List.mem_flatMap.1 hy
              have := List.all_eq_true.1 ha a ma
              simp only [Bool.and_eq_true] at this
              have := List.all_eq_true.1 this.2 y hy
              rw [hasT_iff, boundV, mem_sortedT, List.take_length] at this
              exact hasVars_sub this
          rw [e]
          congr 1
          rw [Bool.eq_iff_iff]
          simp only [decide_eq_true_eq]
          omega
      · intro j a ma
        rw [s_IsAction_eq, Option.bind_some]
        cases isActionB a with
        | false => simp
        | true =>
          simp only [if_true, Bool.true_and]
          rw [s_VarsOf_eq _ (by have := h.ta a ma; omega), Option.bind_some, forL_all (p := hasT (boundV r r.cond.length)) (r := .inr false)]
          · have : (sortedT (varsA a.pattern.args)).all (hasT (boundV r r.cond.length)) = (varsA a.pattern.args).all (hasT (boundV r r.cond.length)) := by
              rw [Bool.eq_iff_iff, List.all_eq_true, List.all_eq_true]
              simp only [mem_sortedT]
            rw [this]
            cases (varsA a.pattern.args).all (hasT (boundV r r.cond.length)) <;> rfl
          · intro k v _
            rw [s_l1HasText_eq, Option.bind_some]
            cases hasT (boundV r r.cond.length) v <;> simp
  · intro j x hj
    have hxa := h.ca x (List.mem_of_getElem? hj)
    rw [Nat.zero_add, s_IsCond_eq, Option.bind_some, s_BoundVars_eq r _ h h4, s_CondVars_eq x (by omega), Int.toNat_natCast]
    simp only [Option.bind_some]
    cases hic : isCondB x with
    | false => simp
    | true =>
      have loop : ∀ {fin : Unit → Option (Unit ⊕ Bool)} (hfin : fin () = some (.inl ())), forL (σ := Unit) (ρ := Unit ⊕ Bool) (fun (_ : Nat) (v : ByteArray) _ => (s_l1HasText (boundV r j) v).bind fun b => (s_IsTest x).bind fun t => if t = true then (if b = true then (if (x.kind == 2) = true then some (.inl ()) else some (.inl ())) else some (.inr (.inr false))) else (if (x.kind == 2) = true then (if b = true then some (.inl ()) else (s_l5Elsewhere r ((j : Nat) : Int) v).bind fun e => if e = true then some (.inr (.inr false)) else some (.inl ())) else some (.inl ()))) fin (condV x) 0 () = some (bif fitsB r j x then .inl () else .inr false) := fun {fin} hfin => by
        rw [forL_all (p := fitsV r j x) (r := .inr false)]
        · unfold fitsB
          cases (condV x).all (fitsV r j x) <;> simp [hfin]
        · intro k v mv
          rw [s_l1HasText_eq, s_IsTest_eq, s_l5Elsewhere_eq r _ v h (condV_var mv), hic]
          simp only [Option.bind_some, Bool.true_and, decide_eq_true_eq, beq_iff_eq, fitsV]
          rcases isCondB_kind hic with hk | hk | hk | hk | hk <;> rw [hk] <;> cases hasT (boundV r j) v <;> cases elseB r j v <;> simp
      by_cases h0 : j = 0
      · subst h0
        by_cases hk : x.kind = 1
        · have hk' : (x.kind != 1) = false := by simp [hk]
          simp only [if_true, hk', show (((0 : Nat) : Int) == 0) = true from rfl, Bool.false_eq_true, if_false]
          rw [loop rfl]
          simp [hk]
        · have hk' : (x.kind != 1) = true := by simpa using hk
          simp [hk', hk]
      · have : ((j : Int) == 0) = false := by rw [beq_eq_false_iff_ne]; omega
        simp only [if_true, this, Bool.false_eq_true, if_false]
        rw [loop rfl]
        simp [h0]

end Go.Proofs.YtlkgkkacnoaeaaaGreatDoor

namespace Go.Proofs.YtlkgkkacnoaeaaaGreatDoor
theorem var_not_atom {v : ByteArray} (h : isVarB v = true) : isAtomB v = false := by
  cases ha : isAtomB v with
  | false => rfl
  | true =>
    have h1 := isAtomB_head ha
    rw [atomByte_iff] at h1
    unfold isVarB at h
    simp only [Bool.and_eq_true, decide_eq_true_iff] at h
    omega
/-- the value of a variable -/
def getP : List PairD → ByteArray → Option ByteArray
  | [], _ => none
  | x :: b, v => if x.var = v then some x.value else getP b v
def valueP (b : List PairD) (t : ByteArray) : Option ByteArray := if isAtomB t = true then some t else if isVarB t = true then getP b t else none
theorem valueP_var {b : List PairD} {v : ByteArray} (h : isVarB v = true) : valueP b v = getP b v := by
  unfold valueP
  rw [if_neg (by rw [var_not_atom h]; simp), if_pos h]
def pairOk (x : PairD) : Bool := isVarB x.var && isAtomB x.value
def prevLt : Option ByteArray → ByteArray → Bool
  | none, _ => true
  | some p, v => sLt p v
def bindFrom : Option ByteArray → List PairD → Bool
  | _, [] => true
  | prev, x :: r => pairOk x && prevLt prev x.var && bindFrom (some x.var) r
def isBindB (b : List PairD) : Bool := decide (b.length ≤ 6) && bindFrom none b
theorem getP_none {b : List PairD} {v : ByteArray} (h : getP b v = none) : ∀ x ∈ b, ¬ x.var = v := by
  induction b with
  | nil => simp
  | cons y r ih =>
    simp only [getP] at h
    split at h
    · simp at h
    · rename_i hy
      intro x mx
      rcases List.mem_cons.1 mx with rfl | mx
      · exact hy
      · exact ih h x mx
/-- a pair more, in its place -/
def setP : List PairD → ByteArray → ByteArray → List PairD
  | [], v, w => [⟨v, w⟩]
  | x :: b, v, w => if sLt v x.var = true then ⟨v, w⟩ :: x :: b else x :: setP b v w
theorem setP_len (v w : ByteArray) : ∀ b : List PairD, (setP b v w).length = b.length + 1
  | [] => rfl
  | x :: b => by
    simp only [setP]
    split
    · rfl
    · rw [List.length_cons, setP_len v w b]; rfl
theorem getP_setP {v w u : ByteArray} : ∀ {b : List PairD}, getP b v = none → getP (setP b v w) u = if v = u then some w else getP b u
  | [], _ => by simp [setP, getP]
  | x :: b, h => by
    simp only [getP] at h
    split at h
    · simp at h
    · rename_i hx
      simp only [setP]
      split
      · simp [getP]
      · simp only [getP]
        rw [getP_setP h]
        by_cases hu : x.var = u
        · rw [if_pos hu, if_pos hu, if_neg (fun e => hx (hu.trans e.symm))]
        · rw [if_neg hu, if_neg hu]
theorem bind_setP {v w : ByteArray} (hv : isVarB v = true) (hw : isAtomB w = true) : ∀ {b : List PairD} {prev : Option ByteArray}, bindFrom prev b = true → getP b v = none → (∀ p, prev = some p → sLt p v = true) → bindFrom prev (setP b v w) = true
  | [], prev, _, _, hp => by
    simp only [setP, bindFrom, pairOk, hv, hw, Bool.and_self, Bool.true_and, Bool.and_true]
    cases prev with
    | none => rfl
    | some p => exact hp p rfl
  | x :: b, prev, h, hg, hp => by
    have hx := getP_none hg x (by simp)
    simp only [getP, hx, if_false] at hg
    simp only [bindFrom, Bool.and_eq_true] at h
    obtain ⟨⟨h1, h2⟩, h3⟩ := h
    simp only [setP]
    by_cases hlt : sLt v x.var = true
    · rw [if_pos hlt]
      have h4 : prevLt prev v = true := by
        cases prev with
        | none => rfl
        | some p => exact hp p rfl
      simp only [bindFrom, Bool.and_eq_true]
      exact ⟨⟨by simp [pairOk, hv, hw], h4⟩, ⟨⟨h1, hlt⟩, h3⟩⟩
    · rw [if_neg hlt]
      simp only [bindFrom, Bool.and_eq_true]
      refine ⟨⟨h1, h2⟩, bind_setP hv hw h3 hg fun p hp2 => ?_⟩
      obtain rfl := Option.some.inj hp2
      exact sLt_total (by simpa using hlt) (fun e => hx e.symm)
/-- a variable gets a value -/
def extP (b : List PairD) (v w : ByteArray) : Option (List PairD) :=
  if isBindB b = true ∧ isVarB v = true ∧ isAtomB w = true then
    (match getP b v with
    | some old => if old = w then some b else none
    | none => if b.length = 6 then none else some (setP b v w))
  else none
theorem extP_ok {b b' : List PairD} {v w : ByteArray} (h : extP b v w = some b') : isBindB b' = true ∧ getP b' v = some w ∧ ∀ u z, getP b u = some z → getP b' u = some z := by
  unfold extP at h
  split at h
  · rename_i hc
    obtain ⟨h1, h2, h3⟩ := hc
    cases hg : getP b v with
    | some old =>
      rw [hg] at h
      simp only at h
      split at h
      · rename_i he
        obtain rfl := Option.some.inj h
        exact ⟨h1, by rw [hg, he], fun u z hu => hu⟩
      · simp at h
    | none =>
      rw [hg] at h
      simp only at h
      split at h
      · simp at h
      · rename_i hl
        obtain rfl := Option.some.inj h
        unfold isBindB at h1 ⊢
        rw [Bool.and_eq_true, decide_eq_true_iff] at h1
        refine ⟨?_, by rw [getP_setP hg, if_pos rfl], fun u z hu => ?_⟩
        · rw [Bool.and_eq_true, decide_eq_true_iff, setP_len]
          exact ⟨by omega, bind_setP h2 h3 h1.2 hg (by simp)⟩
        · rw [getP_setP hg, if_neg (fun e => by rw [← e, hg] at hu; simp at hu)]; exact hu
  · simp at h
def matchL : List ByteArray → List ByteArray → List PairD → Option (List PairD)
  | [], _, b => some b
  | _ :: _, [], _ => none
  | a :: p, w :: f, b => if isAtomB a = true then (if a = w then matchL p f b else none) else (extP b a w).bind (matchL p f)
theorem matchL_ok : ∀ {p f : List ByteArray} {b b' : List PairD}, isBindB b = true → matchL p f b = some b' → isBindB b' = true ∧ (∀ a ∈ p, isVarB a = true → ∃ z, getP b' a = some z) ∧ ∀ u z, getP b u = some z → getP b' u = some z
  | [], _, b, b', hb, h => by
    simp only [matchL, Option.some.injEq] at h
    subst h
    exact ⟨hb, by simp, fun u z h => h⟩
  | _ :: _, [], _, _, _, h => by simp [matchL] at h
  | a :: p, w :: f, b, b', hb, h => by
    simp only [matchL] at h
    by_cases ha : isAtomB a = true
    · rw [if_pos ha] at h
      split at h
      · obtain ⟨h1, h2, h3⟩ := matchL_ok hb h
        refine ⟨h1, fun x mx hx => ?_, h3⟩
        rcases List.mem_cons.1 mx with rfl | mx
        · rw [var_not_atom hx] at ha; simp at ha
        · exact h2 x mx hx
      · simp at h
    · rw [if_neg ha] at h
      obtain ⟨b1, e1, h⟩ := Option.bind_eq_some_iff.1 h
      obtain ⟨k1, k2, k3⟩ := extP_ok e1
      obtain ⟨h1, h2, h3⟩ := matchL_ok k1 h
      refine ⟨h1, fun x mx hx => ?_, fun u z hu => h3 u z (k3 u z hu)⟩
      rcases List.mem_cons.1 mx with rfl | mx
      · exact ⟨w, h3 _ _ k2⟩
      · exact h2 x mx hx
def matchOkB (p : PatternD) (f : FactD) (b : List PairD) : Bool := isPatternB p && isFactB f && isBindB b && decide (p.rel = f.rel) && decide (p.args.length = f.args.length)
/-- a fact matched with a pattern -/
def matchP (p : PatternD) (f : FactD) (b : List PairD) : Option (List PairD) := if matchOkB p f b = true then matchL p.args f.args b else none
theorem matchP_ok {p : PatternD} {f : FactD} {b b' : List PairD} (h : matchP p f b = some b') : isBindB b' = true ∧ (∀ a ∈ p.args, isVarB a = true → ∃ z, getP b' a = some z) ∧ ∀ u z, getP b u = some z → getP b' u = some z := by
  unfold matchP at h
  split at h
  · rename_i hc
    unfold matchOkB at hc
    simp only [Bool.and_eq_true] at hc
    exact matchL_ok hc.1.1.2 h
  · simp at h
def instL : List ByteArray → List PairD → Option (List ByteArray)
  | [], _ => some []
  | a :: p, b => (valueP b a).bind fun v => (instL p b).map fun l => v :: l
theorem instL_some {b : List PairD} : ∀ {p : List ByteArray}, p.all isTermB = true → (∀ a ∈ p, isVarB a = true → ∃ z, getP b a = some z) → ∃ l, instL p b = some l ∧ l.length = p.length
  | [], _, _ => ⟨[], rfl, rfl⟩
  | a :: p, h, hv => by
    simp only [List.all_cons, Bool.and_eq_true] at h
    obtain ⟨l, e, hl⟩ := instL_some h.2 fun x mx => hv x (by simp [mx])
    have : ∃ v, valueP b a = some v := by
      have ht := h.1
      unfold isTermB at ht
      rw [Bool.or_eq_true] at ht
      rcases ht with ht | ht
      · exact ⟨a, by unfold valueP; rw [if_pos ht]⟩
      · obtain ⟨z, hz⟩ := hv a (by simp) ht
        exact ⟨z, by rw [valueP_var ht]; exact hz⟩
    obtain ⟨v, hv⟩ := this
    exact ⟨v :: l, by simp only [instL, hv, e, Option.bind_some, Option.map_some], by simp [hl]⟩
/-- a pattern filled in -/
def instP (p : PatternD) (b : List PairD) : Option FactD := if isPatternB p = true ∧ isBindB b = true then (instL p.args b).map fun l => { rel := p.rel, args := l } else none
def matchingP (p : PatternD) (b : List PairD) (F : List FactD) : List FactD := F.filter fun f => (matchP p f b).isSome
def numLt (l r : ByteArray) : Bool := match numN l, numN r with | some m, some n => decide (m < n) | _, _ => false
def testB (k : Int) (l r : ByteArray) : Bool := if k = 3 then decide (l = r) else if k = 4 then !decide (l = r) else numLt l r
def holdsT (x : CondD) (b : List PairD) : Bool :=
  if isCondB x = true ∧ 3 ≤ x.kind ∧ isBindB b = true then (match valueP b x.left, valueP b x.right with | some l, some r => testB x.kind l r | _, _ => false) else false
def holdsB (x : CondD) (b : List PairD) (F : List FactD) : Bool :=
  if isCondB x = true ∧ isBindB b = true then
    (if x.kind = 1 then decide (0 < (matchingP x.pattern b F).length) else if x.kind = 2 then decide ((matchingP x.pattern b F).length = 0) else holdsT x b)
  else false
def nextP (x : CondD) (F : List FactD) (t : TokenD) : List TokenD :=
  if x.kind = 1 then F.filterMap fun f => (matchP x.pattern f t.binding).map fun b => { facts := t.facts ++ [f], binding := b }
  else if holdsB x t.binding F = true then [t] else []
def stepP (x : CondD) (F : List FactD) (l : List TokenD) : List TokenD := l.flatMap (nextP x F)
def tok0 : TokenD := { facts := [], binding := [] }
def tokensP (l : List CondD) (F : List FactD) : List TokenD := l.foldl (fun ts x => stepP x F ts) [tok0]
theorem tokensP_snoc (p : List CondD) (x : CondD) (F : List FactD) : tokensP (p ++ [x]) F = stepP x F (tokensP p F) := by
  unfold tokensP
  rw [List.foldl_append]
  rfl
/-- what is known of a token behind some conditions -/
structure TokOk (p : List CondD) (F : List FactD) (t : TokenD) : Prop where
  bind : isBindB t.binding = true
  len : t.facts.length ≤ p.length
  sub : ∀ f ∈ t.facts, f ∈ F
  vars : ∀ v ∈ hasVars p, ∃ z, getP t.binding v = some z
theorem next_ok {p : List CondD} {x : CondD} {F : List FactD} {t u : TokenD} (h : TokOk p F t) (hu : u ∈ nextP x F t) : TokOk (p ++ [x]) F u := by
  unfold nextP at hu
  have hv : hasVars (p ++ [x]) = hasVars p ++ (if x.kind = 1 then varsA x.pattern.args else []) := by simp [hasVars]
  by_cases hk : x.kind = 1
  · rw [if_pos hk] at hu
    obtain ⟨f, mf, e⟩ := List.mem_filterMap.1 hu
    obtain ⟨b, e2, rfl⟩ := Option.map_eq_some_iff.1 e
    obtain ⟨h1, h2, h3⟩ := matchP_ok e2
    refine ⟨h1, by have := h.len; simp; omega, fun g mg => ?_, fun v mv => ?_⟩
    · rcases List.mem_append.1 mg with mg | mg
      · exact h.sub g mg
      · simp at mg; subst mg; exact mf
    · rw [hv, if_pos hk] at mv
      rcases List.mem_append.1 mv with mv | mv
      · obtain ⟨z, hz⟩ := h.vars v mv
        exact ⟨z, h3 v z hz⟩
      · obtain ⟨m1, m2⟩ := mem_varsA.1 mv
        exact h2 v m1 m2
  · rw [if_neg hk] at hu
    split at hu
    · simp at hu
      subst hu
      refine ⟨h.bind, by have := h.len; simp; omega, h.sub, fun v mv => ?_⟩
      rw [hv, if_neg hk, List.append_nil] at mv
      exact h.vars v mv
    · simp at hu
theorem tok0_ok (F : List FactD) : TokOk [] F tok0 := ⟨rfl, Nat.le_refl _, by simp [tok0], by simp [hasVars]⟩
theorem tokens_ok (F : List FactD) (l : List CondD) : ∀ t ∈ tokensP l F, TokOk l F t := by
  have : ∀ n (l : List CondD), l.length = n → ∀ t ∈ tokensP l F, TokOk l F t := by
    intro n
    induction n with
    | zero =>
      intro l h
      rw [List.eq_nil_of_length_eq_zero h]
      intro t mt
      simp [tokensP] at mt
      subst mt
      exact tok0_ok F
    | succ n ih =>
      intro l h
      obtain ⟨p, x, rfl⟩ : ∃ p x, l = p ++ [x] := ⟨l.dropLast, l.getLast (by intro e; simp [e] at h), (List.dropLast_concat_getLast _).symm⟩
      intro t mt
      rw [tokensP_snoc] at mt
      obtain ⟨s, ms, mt⟩ := List.mem_flatMap.1 mt
      exact next_ok (ih p (by simpa using h) s ms) mt
  exact this _ l rfl
theorem step_len (x : CondD) (F : List FactD) (hF : F.length ≤ 24) : ∀ l : List TokenD, (stepP x F l).length ≤ 24 * l.length
  | [] => Nat.le_refl _
  | t :: l => by
    have ih := step_len x F hF l
    have h1 : (nextP x F t).length ≤ 24 := by
      unfold nextP
      split
      · exact Nat.le_trans (List.length_filterMap_le _ _) hF
      · split <;> simp
    unfold stepP at *
    rw [List.flatMap_cons, List.length_append, List.length_cons]
    omega
theorem tokens_len (F : List FactD) (hF : F.length ≤ 24) (l : List CondD) (hl : l.length ≤ 4) : (tokensP l F).length ≤ 331776 := by
  have key : ∀ (l : List CondD) (ts : List TokenD), (l.foldl (fun ts x => stepP x F ts) ts).length ≤ 24 ^ l.length * ts.length := by
    intro l
    induction l with
    | nil => intro ts; simp
    | cons x l ih =>
      intro ts
      rw [List.foldl_cons, List.length_cons, Nat.pow_succ]
      have h1 := ih (stepP x F ts)
      have h2 := step_len x F hF ts
      refine Nat.le_trans h1 (Nat.le_trans (Nat.mul_le_mul_left _ h2) ?_)
      rw [← Nat.mul_assoc]
      exact Nat.le_refl _
  have h1 := key l [tok0]
  have h2 : 24 ^ l.length ≤ 24 ^ 4 := Nat.pow_le_pow_right (by omega) hl
  unfold tokensP
  simp only [List.length_singleton, Nat.mul_one] at h1
  omega
end Go.Proofs.YtlkgkkacnoaeaaaGreatDoor

namespace Go.Proofs.YtlkgkkacnoaeaaaGreatDoor
def prevAt (b : List PairD) (i : Nat) : Option ByteArray := if i = 0 then none else (b[i - 1]?).map (·.var)
theorem bind_loop {b : List PairD} {body : Nat → PairD → Unit → Option (Unit ⊕ Bool)} {fin : Unit → Option Bool} (hb : ∀ i x, b[i]? = some x → body i x () = if (pairOk x && prevLt (prevAt b i) x.var) = true then some (.inl ()) else some (.inr false)) :
    ∀ (l : List PairD) (i : Nat), b.drop i = l → forL body fin l i () = if bindFrom (prevAt b i) l = true then fin () else some false
  | [], i, _ => by simp [forL, bindFrom]
  | x :: l, i, h => by
    have hx : b[i]? = some x := by rw [← List.head?_drop, h]; rfl
    have hd : b.drop (i + 1) = l := by rw [← List.tail_drop, h]; rfl
    have hp : prevAt b (i + 1) = some x.var := by unfold prevAt; rw [if_neg (by omega), Nat.add_sub_cancel, hx]; rfl
    by_cases hc : (pairOk x && prevLt (prevAt b i) x.var) = true
    · rw [forL_next (by rw [hb i x hx, if_pos hc]), bind_loop hb l (i + 1) hd, hp]
      simp only [bindFrom, hc, Bool.true_and]
    · rw [forL_stop (by rw [hb i x hx, if_neg hc])]
      simp only [bindFrom, eq_false_of_ne_true hc, Bool.false_and, Bool.false_eq_true, if_false]
theorem bind_step {b : List PairD} (hl : b.length ≤ 1048576) {i : Nat} {x : PairD} (hx : b[i]? = some x) :
    (if isVarB x.var = true then (if isAtomB x.value = true then (if (decide (0 < ((i : Nat) : Int))) = true then (atI b (IntKind.i64.wrap (((i : Nat) : Int) - 1))).bind fun x13 => if (sLt x13.var x.var) = true then some (.inl ()) else some (.inr false) else some (.inl ())) else some (.inr false)) else some (.inr false) : Option (Unit ⊕ Bool))
      = if (pairOk x && prevLt (prevAt b i) x.var) = true then some (.inl ()) else some (.inr false) := by
  have hi := (List.getElem?_eq_some_iff.1 hx).1
  unfold pairOk
  cases isVarB x.var with
  | false => simp
  | true =>
    cases isAtomB x.value with
    | false => simp
    | true =>
      rw [if_pos rfl, if_pos rfl]
      by_cases h0 : i = 0
      · subst h0
        rw [if_neg (by simp)]
        simp [prevAt, prevLt]
      · have hp : prevAt b i = some (b[i - 1]).var := by unfold prevAt; rw [if_neg h0, List.getElem?_eq_getElem (by omega)]; rfl
        rw [if_pos (by simp; omega), show ((i : Nat) : Int) - 1 = ((i - 1 : Nat) : Int) by omega, wrap_in (by omega) (by omega), atI_nat, List.getElem?_eq_getElem (by omega), Option.bind_some, hp]
        simp [prevLt]
theorem i_IsBinding_eq (b : List PairD) : i_IsBinding b = some (isBindB b) := by
  unfold i_IsBinding isBindB
  by_cases h6 : b.length ≤ 6
  · rw [if_neg (by simp; omega), bind_loop (b := b) (fun i x hx => by
      rw [i_IsVar_eq, Option.bind_some, i_IsAtom_eq]
      exact bind_step (by omega) hx) b 0 rfl, decide_eq_true h6]
    show (if bindFrom none b = true then some true else some false) = _
    cases bindFrom none b <;> rfl
  · rw [if_pos (by simp; omega), decide_eq_false h6]
    rfl
theorem s_IsBinding_eq (b : List PairD) (hl : b.length ≤ 1048576) : s_IsBinding b = some (isBindB b) := by
  unfold s_IsBinding isBindB
  rw [bind_loop (b := b) (fun i x hx => by
      rw [s_IsVar_eq, Option.bind_some, s_IsAtom_eq]
      exact bind_step hl hx) b 0 rfl]
  show (if bindFrom none b = true then some (decide (((b.length : Nat) : Int) ≤ 6)) else some false) = _
  have : decide (((b.length : Nat) : Int) ≤ 6) = decide (b.length ≤ 6) := by rw [Bool.eq_iff_iff]; simp; omega
  rw [this]
  cases bindFrom none b <;> simp
def valR (b : List PairD) (t : ByteArray) : ByteArray × Bool := match valueP b t with | some v => (v, true) | none => (⟨#[]⟩, false)
def getR : Option ByteArray → ByteArray × Bool
  | some v => (v, true)
  | none => (⟨#[]⟩, false)
theorem valR_eq (b : List PairD) (t : ByteArray) : valR b t = getR (valueP b t) := by unfold valR getR; cases valueP b t <;> rfl
theorem get_loop {t : ByteArray} {body : Nat → PairD → Unit → Option (Unit ⊕ (ByteArray × Bool))} (hb : ∀ i x, body i x () = if x.var = t then some (.inr (x.value, true)) else some (.inl ())) :
    ∀ (b : List PairD) (i : Nat), forL body (fun _ => some ((⟨#[]⟩), false)) b i () = some (getR (getP b t))
  | [], _ => rfl
  | x :: b, i => by
    by_cases hx : x.var = t
    · rw [forL_stop (by rw [hb, if_pos hx])]
      simp [getP, hx, getR]
    · rw [forL_next (by rw [hb, if_neg hx]), get_loop hb b (i + 1)]
      simp [getP, hx]
theorem i_ValueOf_eq (b : List PairD) (t : ByteArray) : i_ValueOf b t = some (valR b t) := by
  unfold i_ValueOf
  rw [valR_eq, i_IsAtom_eq, Option.bind_some]
  unfold valueP
  by_cases ha : isAtomB t = true
  · rw [if_pos ha, if_pos ha]; rfl
  · rw [if_neg ha, if_neg ha, i_IsVar_eq, Option.bind_some]
    by_cases hv : isVarB t = true
    · rw [if_pos hv, if_pos hv, get_loop]
      intro i x
      by_cases hx : x.var = t
      · rw [if_pos (sEq_iff.2 hx), if_pos hx]
      · rw [if_neg (by rw [sEq_iff]; exact hx), if_neg hx]
    · rw [if_neg hv, if_neg hv]; rfl
theorem s_ValueOf_eq (b : List PairD) (t : ByteArray) : s_ValueOf b t = some (valR b t) := by
  unfold s_ValueOf
  rw [valR_eq, s_IsAtom_eq, Option.bind_some]
  unfold valueP
  by_cases ha : isAtomB t = true
  · rw [if_pos ha, if_pos ha]; rfl
  · rw [if_neg ha, if_neg ha]
    by_cases hv : isVarB t = true
    · rw [if_pos hv, get_loop]
      intro i x
      by_cases hx : x.var = t
      · rw [if_pos (sEq_iff.2 hx), if_pos hx, s_IsVar_eq, Option.bind_some, if_pos hv]
      · rw [if_neg (by rw [sEq_iff]; exact hx), if_neg hx]
    · rw [if_neg hv, forL_all (p := fun _ => true) (r := ((⟨#[]⟩ : ByteArray), false))]
      · simp [getR]
      · intro i x _
        rw [s_IsVar_eq, Option.bind_some, if_neg hv]
        split <;> rfl
theorem set_side {a v : ByteArray} : ((sLt a v || sEq a v) = true) ↔ ¬ sLt v a = true := by
  rw [Bool.or_eq_true, sEq_iff]
  constructor
  · rintro (h | h)
    · rw [sLt_asymm h]; simp
    · rw [h, sLt_irrefl]; simp
  · intro h
    by_cases e : a = v
    · exact .inr e
    · exact .inl (sLt_total (by simpa using h) (fun e2 => e e2.symm))
theorem set_loop {ρ : Type} {v w : ByteArray} {K : List PairD → Option ρ} {body : Nat → PairD → (List PairD × Bool) → Option ((List PairD × Bool) ⊕ ρ)} {fin : (List PairD × Bool) → Option ρ}
    (h1 : ∀ i x row, row.length ≤ 1000 → body i x (row, true) = some (.inl (row ++ [x], true)))
    (h2 : ∀ i x row, row.length ≤ 1000 → body i x (row, false) = if (sLt x.var v || sEq x.var v) = true then some (.inl (row ++ [x], false)) else some (.inl ((row ++ [{ var := v, value := w }]) ++ [x], true)))
    (h3 : ∀ row, row.length ≤ 1000 → fin (row, true) = K row) (h4 : ∀ row, row.length ≤ 1000 → fin (row, false) = K (row ++ [{ var := v, value := w }])) (b : List PairD) (hb : b.length ≤ 100) : forL body fin b 0 ([], false) = K (setP b v w) := by
  rw [forL_rec (fun l _ s => K (s.1 ++ (if s.2 = true then l else setP l v w))) (fun l _ s => s.1.length + 2 * l.length ≤ 900) ?_ ?_ b 0 ([], false) (by simp; omega)]
  · simp
  · rintro i ⟨row, done⟩ hI
    simp only [List.length_nil] at hI
    cases done with
    | true => rw [h3 row (by omega)]; simp
    | false => rw [h4 row (by omega)]; simp [setP]
  · rintro x l i ⟨row, done⟩ hI
    simp only [List.length_cons] at hI
    left
    cases done with
    | true => exact ⟨_, h1 i x row (by omega), by simp; omega, by simp⟩
    | false =>
      rw [h2 i x row (by omega)]
      by_cases hs : sLt v x.var = true
      · rw [if_neg (by rw [set_side]; simpa using hs)]
        exact ⟨_, rfl, by simp; omega, by simp [setP, hs]⟩
      · rw [if_pos (set_side.2 hs)]
        exact ⟨_, rfl, by simp; omega, by simp [setP, hs]⟩
def listR : Option (List PairD) → List PairD × Bool
  | some b => (b, true)
  | none => ([], false)
theorem extP_no {b : List PairD} {v w : ByteArray} (h : ¬ (isBindB b = true ∧ isVarB v = true ∧ isAtomB w = true)) : listR (extP b v w) = ([], false) := by
  unfold extP
  rw [if_neg h]
  rfl
theorem extP_yes {b : List PairD} {v w : ByteArray} (h1 : isBindB b = true) (h2 : isVarB v = true) (h3 : isAtomB w = true) : extP b v w = match getP b v with | some old => if old = w then some b else none | none => if b.length = 6 then none else some (setP b v w) := by
  unfold extP
  exact if_pos ⟨h1, h2, h3⟩
theorem isBindB_len {b : List PairD} (h : isBindB b = true) : b.length ≤ 6 := by
  unfold isBindB at h
  rw [Bool.and_eq_true, decide_eq_true_iff] at h
  exact h.1
theorem i_Extend_eq (b : List PairD) (v w : ByteArray) : i_Extend b v w = some (listR (extP b v w)) := by
  unfold i_Extend
  rw [i_IsBinding_eq, Option.bind_some]
  by_cases h1 : isBindB b = true
  · rw [if_pos h1, i_IsVar_eq, Option.bind_some]
    by_cases h2 : isVarB v = true
    · rw [if_pos h2, i_IsAtom_eq, Option.bind_some]
      by_cases h3 : isAtomB w = true
      · have h6 := isBindB_len h1
        rw [if_pos h3, i_ValueOf_eq, Option.bind_some, valR_eq, valueP_var h2]
        cases hg : getP b v with
        | some old =>
          have hx : extP b v w = if old = w then some b else none := by rw [extP_yes h1 h2 h3, hg]
          rw [hx]
          show (if true = true then (if sEq old w = true then _ else _) else _) = _
          rw [if_pos rfl]
          by_cases he : old = w
          · rw [if_pos (sEq_iff.2 he), if_pos he]
            unfold i_copyPairs
            rw [chk_pos _ (by omega)]
            rfl
          · rw [if_neg (by rw [sEq_iff]; exact he), if_neg he]
            rfl
        | none =>
          have hx : extP b v w = if b.length = 6 then none else some (setP b v w) := by rw [extP_yes h1 h2 h3, hg]
          rw [hx]
          show (if false = true then _ else _) = _
          rw [if_neg (by simp)]
          by_cases hl : b.length = 6
          · rw [if_pos (by simp; omega), if_pos hl]
            rfl
          · rw [if_neg (by simp; omega), if_neg hl]
            refine set_loop (K := fun r => some (r, true)) (fun i x row hr => ?_) (fun i x row hr => ?_) (fun row hr => ?_) (fun row hr => ?_) b (by omega)
            · show (if true = true then _ else _) = _
              rw [if_pos rfl, chk_pos _ (by omega)]
            · show (if false = true then _ else _) = _
              rw [if_neg (by simp)]
              split
              · rw [chk_pos _ (by omega)]
              · rw [chk_pos _ (by omega), chk_pos _ (by omega)]
            · show (if true = true then _ else _) = _
              rw [if_pos rfl]
            · show (if false = true then _ else _) = _
              rw [if_neg (by simp), chk_pos _ (by omega)]
      · rw [if_neg h3, extP_no (fun h => h3 h.2.2)]
    · rw [if_neg h2, extP_no (fun h => h2 h.2.1)]
  · rw [if_neg h1, extP_no (fun h => h1 h.1)]
theorem s_l3Set_eq (b : List PairD) (v w : ByteArray) (hb : b.length ≤ 100) : s_l3Set b v w = some (setP b v w) := by
  unfold s_l3Set
  refine set_loop (K := fun r => some r) (fun i x row hr => ?_) (fun i x row hr => ?_) (fun row hr => ?_) (fun row hr => ?_) b hb
  · show (if true = true then _ else _) = _
    rw [if_pos rfl, chk_pos _ (by omega)]
  · show (if false = true then _ else _) = _
    rw [if_neg (by simp)]
    split
    · rw [chk_pos _ (by omega)]
    · rw [chk_pos _ (by omega), chk_pos _ (by omega)]
  · show (if true = true then _ else _) = _
    rw [if_pos rfl]
  · show (if false = true then _ else _) = _
    rw [if_neg (by simp), chk_pos _ (by omega)]
theorem s_Extend_eq (b : List PairD) (v w : ByteArray) (hb : b.length ≤ 1048576) : s_Extend b v w = some (listR (extP b v w)) := by
  unfold s_Extend
  rw [s_IsBinding_eq b hb, Option.bind_some]
  by_cases h1 : isBindB b = true
  · rw [if_pos h1, s_IsVar_eq, Option.bind_some]
    by_cases h2 : isVarB v = true
    · rw [if_pos h2, s_IsAtom_eq, Option.bind_some]
      by_cases h3 : isAtomB w = true
      · have h6 := isBindB_len h1
        rw [if_pos h3, s_ValueOf_eq, Option.bind_some, valR_eq, valueP_var h2]
        cases hg : getP b v with
        | some old =>
          have hx : extP b v w = if old = w then some b else none := by rw [extP_yes h1 h2 h3, hg]
          rw [hx]
          show (if true = true then (if sEq old w = true then _ else _) else _) = _
          rw [if_pos rfl]
          by_cases he : old = w
          · rw [if_pos (sEq_iff.2 he), if_pos he]
            unfold s_l3Copy
            rw [chk_pos _ (by omega)]
            rfl
          · rw [if_neg (by rw [sEq_iff]; exact he), if_neg he]
            rfl
        | none =>
          have hx : extP b v w = if b.length = 6 then none else some (setP b v w) := by rw [extP_yes h1 h2 h3, hg]
          rw [hx]
          show (if false = true then _ else _) = _
          rw [if_neg (by simp)]
          by_cases hl : b.length = 6
          · rw [if_pos (by simp; omega), if_pos hl]
            rfl
          · rw [if_neg (by simp; omega), if_neg hl, s_l3Set_eq _ _ _ (by omega)]
            rfl
      · rw [if_neg h3, extP_no (fun h => h3 h.2.2)]
    · rw [if_neg h2, extP_no (fun h => h2 h.2.1)]
  · rw [if_neg h1, extP_no (fun h => h1 h.1)]
theorem match_loop {fa : List ByteArray} {body : Nat → ByteArray → List PairD → Option (List PairD ⊕ (List PairD × Bool))}
    (hb : ∀ i a w row, fa[i]? = some w → isBindB row = true → body i a row = if isAtomB a = true then (if a = w then some (.inl row) else some (.inr ([], false))) else (match extP row a w with | some r => some (.inl r) | none => some (.inr ([], false)))) :
    ∀ (l : List ByteArray) (i : Nat) (row : List PairD), i + l.length = fa.length → isBindB row = true → forL body (fun row => some (row, true)) l i row = some (listR (matchL l (fa.drop i) row))
  | [], i, row, _, _ => by simp [forL, matchL, listR]
  | a :: l, i, row, h, hr => by
    simp only [List.length_cons] at h
    have hi : i < fa.length := by omega
    have hw : fa[i]? = some fa[i] := List.getElem?_eq_getElem hi
    rw [List.drop_eq_getElem_cons hi]
    simp only [matchL]
    have e := hb i a _ row hw hr
    by_cases ha : isAtomB a = true
    · rw [if_pos ha] at e ⊢
      by_cases hq : a = fa[i]
      · rw [if_pos hq] at e ⊢
        rw [forL_next e]
        exact match_loop hb l (i + 1) row (by omega) hr
      · rw [if_neg hq] at e ⊢
        rw [forL_stop e]
        rfl
    · rw [if_neg ha] at e ⊢
      cases hx : extP row a fa[i] with
      | none =>
        rw [hx] at e
        rw [forL_stop e]
        rfl
      | some r =>
        rw [hx] at e
        rw [forL_next e, Option.bind_some]
        exact match_loop hb l (i + 1) r (by omega) (extP_ok hx).1
theorem i_MatchFact_eq (p : PatternD) (f : FactD) (b : List PairD) : i_MatchFact p f b = some (listR (matchP p f b)) := by
  unfold i_MatchFact matchP matchOkB
  rw [i_IsPattern_eq, Option.bind_some]
  cases h1 : isPatternB p with
  | false => rfl
  | true =>
    rw [if_pos rfl, i_IsFact_eq, Option.bind_some]
    cases h2 : isFactB f with
    | false => rfl
    | true =>
      rw [if_pos rfl, i_IsBinding_eq, Option.bind_some]
      cases h3 : isBindB b with
      | false => rfl
      | true =>
        rw [if_pos rfl]
        by_cases h4 : p.rel = f.rel
        · rw [if_pos (sEq_iff.2 h4), decide_eq_true h4]
          by_cases h5 : p.args.length = f.args.length
          · have h6 := isBindB_len h3
            rw [if_neg (by simp; omega), decide_eq_true h5]
            unfold i_copyPairs
            rw [chk_pos _ (by omega), Option.bind_some]
            rw [match_loop (fa := f.args) (fun i a w row hw hr => ?_) p.args 0 b (by omega) h3]
            · rfl
            · rw [i_IsAtom_eq, Option.bind_some, atI_nat, hw, Option.bind_some, Option.bind_some]
              split
              · by_cases hq : a = w
                · rw [if_pos (sEq_iff.2 hq), if_pos hq]
                · rw [if_neg (by rw [sEq_iff]; exact hq), if_neg hq]
              · rw [i_Extend_eq, Option.bind_some]
                cases extP row a w <;> rfl
          · rw [if_pos (by simp; omega), decide_eq_false h5]
            rfl
        · rw [if_neg (by rw [sEq_iff]; exact h4), decide_eq_false h4]
          rfl
theorem s_MatchFact_eq (p : PatternD) (f : FactD) (b : List PairD) (hb : b.length ≤ 1048576) : s_MatchFact p f b = some (listR (matchP p f b)) := by
  unfold s_MatchFact matchP matchOkB
  rw [s_IsPattern_eq, Option.bind_some]
  cases h1 : isPatternB p with
  | false => rfl
  | true =>
    rw [if_pos rfl, s_IsFact_eq, Option.bind_some]
    cases h2 : isFactB f with
    | false => rfl
    | true =>
      rw [if_pos rfl, s_IsBinding_eq b hb, Option.bind_some]
      cases h3 : isBindB b with
      | false => rfl
      | true =>
        rw [if_pos rfl]
        by_cases h4 : p.rel = f.rel
        · rw [if_pos (sEq_iff.2 h4), decide_eq_true h4]
          by_cases h5 : p.args.length = f.args.length
          · have h6 := isBindB_len h3
            rw [if_neg (by simp; omega), decide_eq_true h5]
            unfold s_l3Copy
            rw [chk_pos _ (by omega), Option.bind_some]
            rw [match_loop (fa := f.args) (fun i a w row hw hr => ?_) p.args 0 b (by omega) h3]
            · rfl
            · have hr6 := isBindB_len hr
              rw [s_IsAtom_eq, Option.bind_some, atI_nat, hw, Option.bind_some, Option.bind_some]
              split
              · by_cases hq : a = w
                · rw [if_pos (sEq_iff.2 hq), if_pos hq]
                · rw [if_neg (by rw [sEq_iff]; exact hq), if_neg hq]
              · rw [s_Extend_eq _ _ _ (by omega), Option.bind_some]
                cases extP row a w <;> rfl
          · rw [if_pos (by simp; omega), decide_eq_false h5]
            rfl
        · rw [if_neg (by rw [sEq_iff]; exact h4), decide_eq_false h4]
          rfl
def factR : Option FactD → FactD × Bool
  | some f => (f, true)
  | none => ({ rel := ⟨#[]⟩, args := [] }, false)
theorem inst_loop {b : List PairD} {rel : ByteArray} {body : Nat → ByteArray → List ByteArray → Option (List ByteArray ⊕ (FactD × Bool))} (hb : ∀ i a row, row.length ≤ 1048576 → body i a row = match valueP b a with | some v => some (.inl (row ++ [v])) | none => some (.inr ({ rel := ⟨#[]⟩, args := [] }, false))) (l : List ByteArray) (hl : l.length ≤ 1000000) :
    forL body (fun row => some ({ rel := rel, args := row }, true)) l 0 [] = some (factR ((instL l b).map fun l => { rel := rel, args := l })) := by
  rw [forL_rec (fun l _ row => some (factR ((instL l b).map fun l => { rel := rel, args := row ++ l }))) (fun l _ row => row.length + l.length ≤ 1048576) ?_ ?_ l 0 [] (by simp; omega)]
  · simp
  · intro i row _
    simp [instL, factR]
  · intro a l i row hI
    simp only [List.length_cons] at hI
    have e := hb i a row (by omega)
    cases hv : valueP b a with
    | none =>
      rw [hv] at e
      exact .inr ⟨_, e, by simp [instL, hv, factR]⟩
    | some v =>
      rw [hv] at e
      refine .inl ⟨_, e, by simp; omega, ?_⟩
      simp only [instL, hv, Option.bind_some, Option.map_map]
      cases instL l b <;> simp
theorem i_Instance_eq (p : PatternD) (b : List PairD) : i_Instance p b = some (factR (instP p b)) := by
  unfold i_Instance instP
  rw [i_IsPattern_eq, Option.bind_some]
  cases h1 : isPatternB p with
  | false => rfl
  | true =>
    rw [if_pos rfl, i_IsBinding_eq, Option.bind_some]
    cases h3 : isBindB b with
    | false => rfl
    | true =>
      have hl : p.args.length ≤ 3 := by unfold isPatternB at h1; simp at h1; exact h1.1.2
      rw [if_pos rfl, if_pos ⟨rfl, rfl⟩, inst_loop (b := b) (fun i a row hr => ?_) p.args (by omega)]
      rw [i_ValueOf_eq, Option.bind_some, valR_eq]
      cases valueP b a with
      | none => rfl
      | some v =>
        show (if true = true then _ else _) = _
        rw [if_pos rfl, chk_pos _ (by omega)]
        rfl
theorem s_Instance_eq (p : PatternD) (b : List PairD) (hb : b.length ≤ 1048576) : s_Instance p b = some (factR (instP p b)) := by
  unfold s_Instance instP
  rw [s_IsPattern_eq, Option.bind_some]
  cases h1 : isPatternB p with
  | false => rfl
  | true =>
    rw [if_pos rfl, s_IsBinding_eq b hb, Option.bind_some]
    cases h3 : isBindB b with
    | false => rfl
    | true =>
      have hl : p.args.length ≤ 3 := by unfold isPatternB at h1; simp at h1; exact h1.1.2
      rw [if_pos rfl, if_pos ⟨rfl, rfl⟩, inst_loop (b := b) (fun i a row hr => ?_) p.args (by omega)]
      rw [s_ValueOf_eq, Option.bind_some, valR_eq]
      cases valueP b a with
      | none => rfl
      | some v =>
        show (if true = true then _ else _) = _
        rw [if_pos rfl, chk_pos _ (by omega)]
        rfl
theorem listR_some (o : Option (List PairD)) : (listR o).2 = o.isSome := by cases o <;> rfl
theorem i_MatchingFacts_eq (p : PatternD) (b : List PairD) (F : List FactD) (hF : F.length ≤ 1048576) (ha : ∀ f ∈ F, f.args.length ≤ 1048576) : i_MatchingFacts p b F = some (matchingP p b F) := by
  unfold i_MatchingFacts matchingP
  rw [forL_filter (p := fun f => (matchP p f b).isSome)]
  · simp
  · intro j f s mf hs
    rw [i_MatchFact_eq, Option.bind_some, listR_some]
    split
    · rw [i_copyFact_eq f (ha f mf), Option.bind_some, chk_pos _ (by simp at hs; omega)]
    · rfl
theorem s_MatchingFacts_eq (p : PatternD) (b : List PairD) (F : List FactD) (hb : b.length ≤ 1048576) (hF : F.length ≤ 1048576) (ha : ∀ f ∈ F, f.args.length ≤ 1048576) : s_MatchingFacts p b F = some (matchingP p b F) := by
  unfold s_MatchingFacts matchingP
  rw [forL_filter (p := fun f => (matchP p f b).isSome)]
  · simp
  · intro j f s mf hs
    rw [s_MatchFact_eq _ _ _ hb, Option.bind_some, listR_some]
    split
    · rw [s_l2Copy_eq f (ha f mf), Option.bind_some, chk_pos _ (by simp at hs; omega)]
    · rfl
theorem i_HoldsTest_eq (x : CondD) (b : List PairD) : i_HoldsTest x b = some (holdsT x b) := by
  unfold i_HoldsTest holdsT i_IsTest
  rw [i_IsCond_eq, Option.bind_some]
  cases h1 : isCondB x with
  | false => rfl
  | true =>
    rw [if_pos rfl, Option.bind_some]
    by_cases h2 : 3 ≤ x.kind
    · rw [if_pos (by simpa using h2), i_IsBinding_eq, Option.bind_some]
      cases h3 : isBindB b with
      | false => simp
      | true =>
        rw [if_pos rfl, if_pos ⟨rfl, h2, rfl⟩, i_ValueOf_eq, Option.bind_some, i_ValueOf_eq, Option.bind_some, valR_eq, valR_eq]
        cases valueP b x.left with
        | none => rfl
        | some l =>
          cases valueP b x.right with
          | none => rfl
          | some r =>
            show (if true = true then (if true = true then (if (x.kind == 3) = true then some (sEq l r) else _) else _) else _) = some (testB x.kind l r)
            rw [if_pos rfl, if_pos rfl]
            unfold testB
            by_cases k3 : x.kind = 3
            · rw [if_pos (by simpa using k3), if_pos k3]; rfl
            · rw [if_neg (by simpa using k3), if_neg k3]
              by_cases k4 : x.kind = 4
              · rw [if_pos (by simpa using k4), if_pos k4]; rfl
              · rw [if_neg (by simpa using k4), if_neg k4, i_ParseInt_eq, Option.bind_some, i_ParseInt_eq, Option.bind_some]
                show (if (numR l).2 = true then (if (numR r).2 = true then some (decide ((numR l).1 < (numR r).1)) else some false) else some false) = _
                unfold numR numLt
                cases numN l <;> cases numN r <;> simp
    · rw [if_neg (by simpa using h2), if_neg (fun h => h2 h.2.1)]
theorem s_HoldsTest_eq (x : CondD) (b : List PairD) (hb : b.length ≤ 1048576) : s_HoldsTest x b = some (holdsT x b) := by
  unfold s_HoldsTest holdsT s_IsTest
  rw [s_IsCond_eq, Option.bind_some]
  cases h1 : isCondB x with
  | false => rfl
  | true =>
    rw [if_pos rfl, Option.bind_some]
    by_cases h2 : 3 ≤ x.kind
    · rw [if_pos (by simpa using h2), s_IsBinding_eq b hb, Option.bind_some]
      cases h3 : isBindB b with
      | false => simp
      | true =>
        rw [if_pos rfl, if_pos ⟨rfl, h2, rfl⟩, s_ValueOf_eq, Option.bind_some, s_ValueOf_eq, Option.bind_some, valR_eq, valR_eq]
        cases valueP b x.left with
        | none => rfl
        | some l =>
          cases valueP b x.right with
          | none => rfl
          | some r =>
            show (if true = true then (if true = true then (if (x.kind == 3) = true then some (sEq l r) else _) else _) else _) = some (testB x.kind l r)
            rw [if_pos rfl, if_pos rfl]
            unfold testB
            by_cases k3 : x.kind = 3
            · rw [if_pos (by simpa using k3), if_pos k3]; rfl
            · rw [if_neg (by simpa using k3), if_neg k3]
              by_cases k4 : x.kind = 4
              · rw [if_pos (by simpa using k4), if_pos k4]; rfl
              · rw [if_neg (by simpa using k4), if_neg k4]
                unfold s_IsNumber
                rw [s_ParseInt_eq, Option.bind_some, Option.bind_some]
                show (if (numR l).2 = true then ((s_ParseInt r).bind fun v1 => some v1.2).bind (fun v6 => if v6 = true then (s_CompareAtoms l r).bind fun v7 => some (decide (v7 < 0)) else some false) else some false) = _
                unfold numLt
                cases hl : numN l with
                | none => simp [numR, hl]
                | some m =>
                  rw [if_pos (by simp [numR, hl]), s_ParseInt_eq, Option.bind_some, Option.bind_some]
                  cases hr : numN r with
                  | none => simp [numR, hr]
                  | some n =>
                    have hd : decide (cmpA l r < 0) = decide (m < n) := by
                      have hc : cmpA l r = cmpN m n := by unfold cmpA; rw [hl, hr]
                      rw [hc, Bool.eq_iff_iff, decide_eq_true_iff, decide_eq_true_iff]
                      unfold cmpN
                      split
                      · omega
                      · split <;> omega
                    rw [if_pos (by simp [numR, hr]), s_CompareAtoms_eq, Option.bind_some, hd]
    · rw [if_neg (by simpa using h2), if_neg (fun h => h2 h.2.1)]
theorem i_HoldsCond_eq (x : CondD) (b : List PairD) (F : List FactD) (hF : F.length ≤ 1048576) (ha : ∀ f ∈ F, f.args.length ≤ 1048576) : i_HoldsCond x b F = some (holdsB x b F) := by
  unfold i_HoldsCond holdsB
  rw [i_IsCond_eq, Option.bind_some]
  cases h1 : isCondB x with
  | false => rfl
  | true =>
    rw [if_pos rfl, i_IsBinding_eq, Option.bind_some]
    cases h3 : isBindB b with
    | false => rfl
    | true =>
      rw [if_pos rfl, if_pos (show true = true ∧ true = true from ⟨rfl, rfl⟩)]
      by_cases k1 : x.kind = 1
      · rw [if_pos (by simpa using k1), if_pos k1, i_MatchingFacts_eq _ _ _ hF ha, Option.bind_some]
        congr 1
        rw [Bool.eq_iff_iff]; simp
      · rw [if_neg (by simpa using k1), if_neg k1]
        by_cases k2 : x.kind = 2
        · rw [if_pos (by simpa using k2), if_pos k2, i_MatchingFacts_eq _ _ _ hF ha, Option.bind_some, len0]
        · rw [if_neg (by simpa using k2), if_neg k2, i_HoldsTest_eq]
          rfl
theorem s_HoldsCond_eq (x : CondD) (b : List PairD) (F : List FactD) (hb : b.length ≤ 1048576) (hF : F.length ≤ 1048576) (ha : ∀ f ∈ F, f.args.length ≤ 1048576) : s_HoldsCond x b F = some (holdsB x b F) := by
  unfold s_HoldsCond holdsB
  rw [s_IsCond_eq, Option.bind_some]
  cases h1 : isCondB x with
  | false => rfl
  | true =>
    rw [if_pos rfl, s_IsBinding_eq b hb, Option.bind_some]
    cases h3 : isBindB b with
    | false => rfl
    | true =>
      rw [if_pos rfl, if_pos (show true = true ∧ true = true from ⟨rfl, rfl⟩)]
      by_cases k1 : x.kind = 1
      · rw [if_pos (by simpa using k1), if_pos k1, s_MatchingFacts_eq _ _ _ hb hF ha, Option.bind_some]
        congr 1
        rw [Bool.eq_iff_iff]; simp
      · rw [if_neg (by simpa using k1), if_neg k1]
        by_cases k2 : x.kind = 2
        · rw [if_pos (by simpa using k2), if_pos k2, s_MatchingFacts_eq _ _ _ hb hF ha, Option.bind_some, len0]
        · rw [if_neg (by simpa using k2), if_neg k2, s_HoldsTest_eq _ _ hb]
          rfl
end Go.Proofs.YtlkgkkacnoaeaaaGreatDoor

namespace Go.Proofs.YtlkgkkacnoaeaaaGreatDoor

theorem isRuleB_len {r : RuleD} (h : isRuleB r = true) : r.cond.length ≤ 4 ∧ r.thn.length ≤ 2 := by
  simp only [isRuleB, Bool.and_eq_true, decide_eq_true_eq] at h
  omega

theorem sum_mem {l : List Nat} {x : Nat} (h : x ∈ l) : x ≤ l.sum := by
  induction l with
  | nil => simp at h
  | cons a r ih =>
    rcases List.mem_cons.1 h with h | h
    · subst h; simp
    · have := ih h; simp; omega

theorem cost_mem {α : Type} {f : α → Nat} {l : List α} {n : Nat} (h : l.length + (l.map f).sum ≤ n) {x : α} (hx : x ∈ l) : f x ≤ n := by
  have := sum_mem (List.mem_map_of_mem (f := f) hx)
  omega

theorem condS_small {l : List CondD} (h : costCondS l ≤ 1048576) : l.length ≤ 1048576 ∧ ∀ x ∈ l, x.pattern.args.length ≤ 1048576 := by
  unfold costCondS at h
  refine ⟨by omega, fun x mx => ?_⟩
  have := cost_mem (f := costCond) h mx
  simp only [costCond, costPattern, costStrs] at this
  omega

theorem rule_small {r : RuleD} (h : costRule r ≤ 1048576) : SmallR r := by
  simp only [costRule] at h
  have h1 : costCondS r.cond ≤ 1048576 := by omega
  have h2 : costActionS r.thn ≤ 1048576 := by omega
  obtain ⟨a, b⟩ := condS_small h1
  refine ⟨a, ?_, b, fun x mx => ?_⟩
  · unfold costActionS at h2; omega
  · unfold costActionS at h2
    have := cost_mem (f := costAction) h2 mx
    simp only [costAction, costPattern, costStrs] at this
    omega

end Go.Proofs.YtlkgkkacnoaeaaaGreatDoor

namespace Go.Proofs.YtlkgkkacnoaeaaaGreatDoor
section
variable {α σ ρ : Type} {body : Nat → α → σ → Option (σ ⊕ ρ)}
/-- a loop that goes on with I, or stops with Q -/
theorem forL_preE (I : List α → σ → Prop) (Q : ρ → Prop) : ∀ (l pre : List α) (s : σ), I pre s → (∀ p x s, x ∈ l → p.length < pre.length + l.length → I p s → (∃ s', body p.length x s = some (.inl s') ∧ I (p ++ [x]) s') ∨ ∃ r, body p.length x s = some (.inr r) ∧ Q r) →
    (∃ s', (∀ fin : σ → Option ρ, forL body fin l pre.length s = fin s') ∧ I (pre ++ l) s') ∨ ∃ r, (∀ fin : σ → Option ρ, forL body fin l pre.length s = some r) ∧ Q r
  | [], pre, s, h, _ => .inl ⟨s, fun _ => rfl, by simpa using h⟩
  | x :: l, pre, s, h, hs => by
    rcases hs pre x s (by simp) (by simp) h with ⟨s', e, h'⟩ | ⟨r, e, h'⟩
    · rcases forL_preE I Q l (pre ++ [x]) s' h' fun p y s m hp hI => hs p y s (by simp [m]) (by simp at hp ⊢; omega) hI with ⟨s2, e2, h2⟩ | ⟨r, e2, h2⟩
      · refine .inl ⟨s2, fun fin => ?_, by simpa using h2⟩
        rw [forL_next e]
        simpa using e2 fin
      · refine .inr ⟨r, fun fin => ?_, h2⟩
        rw [forL_next e]
        simpa using e2 fin
    · exact .inr ⟨r, fun fin => forL_stop e, h'⟩
theorem forL_runE (I : List α → σ → Prop) (Q : ρ → Prop) (l : List α) (s : σ) (h : I [] s) (hs : ∀ p x s, x ∈ l → p.length < l.length → I p s → (∃ s', body p.length x s = some (.inl s') ∧ I (p ++ [x]) s') ∨ ∃ r, body p.length x s = some (.inr r) ∧ Q r) :
    (∃ s', (∀ fin : σ → Option ρ, forL body fin l 0 s = fin s') ∧ I l s') ∨ ∃ r, (∀ fin : σ → Option ρ, forL body fin l 0 s = some r) ∧ Q r := by
  have := forL_preE I Q l [] s h fun p x s m hp hI => hs p x s m (by simpa using hp) hI
  simpa using this
end
/-- what a rule writes and reads -/
def writesL (r : RuleD) : List ByteArray := r.thn.filterMap fun x => if x.kind = 1 ∨ x.kind = 2 then some x.pattern.rel else none
def readsL (r : RuleD) : List ByteArray := r.cond.filterMap fun x => if x.kind = 1 ∨ x.kind = 2 then some x.pattern.rel else none
theorem readsL_len (r : RuleD) : (readsL r).length ≤ r.cond.length := List.length_filterMap_le _ _
/-- one relation depends on another one at once -/
def StepR (R : List RuleD) (x y : ByteArray) : Prop := ∃ r ∈ R, x ∈ writesL r ∧ y ∈ readsL r
inductive Reach (R : List RuleD) (a : ByteArray) : ByteArray → Prop
  | one {y : ByteArray} : StepR R a y → Reach R a y
  | next {x y : ByteArray} : Reach R a x → StepR R x y → Reach R a y
theorem Reach.step {R : List RuleD} {a x y : ByteArray} (hx : x = a ∨ Reach R a x) (h : StepR R x y) : Reach R a y := by
  rcases hx with rfl | hx
  · exact .one h
  · exact .next hx h
structure SmallRs (R : List RuleD) : Prop where
  s : ∀ r ∈ R, SmallR r
  n : (R.flatMap readsL).length ≤ 1048576
theorem mget_put {m : List (ByteArray × Bool)} {k y : ByteArray} : mGetD (mPut m k true) y false = if y = k then true else mGetD m y false := by
  unfold mGetD
  induction m with
  | nil =>
    by_cases h : y = k <;> simp [mPut, mGet, h]
  | cons p r ih =>
    simp only [mPut]
    by_cases h : k = p.1
    · subst h
      rw [if_pos rfl]
      by_cases h2 : y = p.1
      · simp [mGet, h2]
      · simp [mGet, h2]
    · rw [if_neg h]
      by_cases h2 : y = p.1
      · subst h2
        have : ¬ p.1 = k := fun e => h e.symm
        simp [mGet, this]
      · simp only [mGet, if_neg h2]; exact ih
def Seen (m : List (ByteArray × Bool)) (y : ByteArray) : Prop := mGetD m y false = true
def unseen (U : List ByteArray) (m : List (ByteArray × Bool)) : Nat := U.countP fun y => !mGetD m y false
theorem countP_lt {α : Type} {p q : α → Bool} : ∀ {l : List α}, (∀ x ∈ l, p x = true → q x = true) → ∀ y ∈ l, p y = false → q y = true → l.countP p + 1 ≤ l.countP q
  | x :: l, h, y, hy, h1, h2 => by
    rw [List.countP_cons, List.countP_cons]
    have hle : l.countP p ≤ l.countP q := List.countP_mono_left fun z mz => h z (by simp [mz])
    have hx := h x (by simp)
    rcases List.mem_cons.1 hy with rfl | hy
    · simp [h1, h2]; omega
    · have ih := countP_lt (p := p) (q := q) (l := l) (fun z mz => h z (by simp [mz])) y hy h1 h2
      cases hp : p x with
      | true => simp [hx hp]; omega
      | false => cases q x <;> simp <;> omega
/-- what the queue's state grows to -/
structure Grow (U : List ByteArray) (P : ByteArray → Prop) (s0 s : List (ByteArray × Bool) × List ByteArray) : Prop where
  mono : ∀ y, Seen s0.1 y → Seen s.1 y
  fresh : ∀ y, Seen s.1 y → Seen s0.1 y ∨ (P y ∧ y ∈ s.2)
  sub : ∀ y ∈ s0.2, y ∈ s.2
  row : ∀ y ∈ s.2, y ∈ s0.2 ∨ Seen s.1 y
  cnt : unseen U s.1 + s.2.length ≤ unseen U s0.1 + s0.2.length
theorem Grow.refl (U : List ByteArray) (P : ByteArray → Prop) (s : List (ByteArray × Bool) × List ByteArray) : Grow U P s s := ⟨fun _ h => h, fun _ h => .inl h, fun _ h => h, fun _ h => .inl h, Nat.le_refl _⟩
theorem Grow.push {U : List ByteArray} {P : ByteArray → Prop} {s0 : List (ByteArray × Bool) × List ByteArray} {m : List (ByteArray × Bool)} {row : List ByteArray} (h : Grow U P s0 (m, row)) {y : ByteArray} (hy : mGetD m y false = false) (hU : y ∈ U) (hP : P y) : Grow U P s0 (mPut m y true, row ++ [y]) := by
  have hS : ∀ z, Seen (mPut m y true) z ↔ z = y ∨ Seen m z := fun z => by
    unfold Seen
    rw [mget_put]
    by_cases e : z = y <;> simp [e]
  refine ⟨fun z hz => (hS z).2 (.inr (h.mono z hz)), fun z hz => ?_, fun z hz => List.mem_append.2 (.inl (h.sub z hz)), fun z hz => ?_, ?_⟩
  · rcases (hS z).1 hz with rfl | hz
    · exact .inr ⟨hP, by simp⟩
    · exact (h.fresh z hz).imp id fun ⟨a, b⟩ => ⟨a, List.mem_append.2 (.inl b)⟩
  · rcases List.mem_append.1 hz with hz | hz
    · exact (h.row z hz).imp id fun hh => (hS z).2 (.inr hh)
    · exact .inr ((hS z).2 (.inl (by simpa using hz)))
  · have h1 := h.cnt
    have h2 : unseen U (mPut m y true) + 1 ≤ unseen U m := countP_lt (fun z _ hz => by
      rw [mget_put] at hz
      by_cases e : z = y
      · simp [e] at hz
      · simpa [e] using hz) y hU (by rw [mget_put]; simp) (by simp [hy])
    show _ + (row ++ [y]).length ≤ _
    rw [List.length_append]
    simp only at h1 ⊢
    simp
    omega
open Classical
theorem rules_small {R : List RuleD} (h : costRuleS R ≤ 1048576) : SmallRs R := by
  unfold costRuleS at h
  refine ⟨fun r mr => rule_small (cost_mem h mr), ?_⟩
  have key : ∀ l : List RuleD, (l.flatMap readsL).length ≤ (l.map costRule).sum := by
    intro l
    induction l with
    | nil => simp
    | cons r l ih =>
      rw [List.flatMap_cons, List.length_append, List.map_cons, List.sum_cons]
      have h1 := readsL_len r
      have h2 : r.cond.length ≤ costRule r := by simp only [costRule, costCondS]; omega
      omega
  have := key R
  omega
end Go.Proofs.YtlkgkkacnoaeaaaGreatDoor

namespace Go.Proofs.YtlkgkkacnoaeaaaGreatDoor
theorem find_some (l : List RuleD) (n : ByteArray) : ∃ z, i_FindRule l n = some z := by
  unfold i_FindRule
  rcases forL_runE (ρ := Int) (body := fun (i4 : Nat) (x5 : RuleD) (_ : Unit) =>
      if (sEq x5.name n) = true then
        some (.inr ((i4 : Nat) : Int))
      else
        some (.inl ())) (fun _ _ => True) (fun _ => True) l () trivial (fun p x s mx hp _ => by
    cases h : sEq x.name n with
    | true => exact .inr ⟨_, by rw [if_pos rfl], trivial⟩
    | false => exact .inl ⟨(), by rw [if_neg (by simp)], trivial⟩) with ⟨s, e, _⟩ | ⟨z, e, _⟩
  · exact ⟨-1, e _⟩
  · exact ⟨z, e _⟩
noncomputable def findR (l : List RuleD) (n : ByteArray) : Int := (i_FindRule l n).getD 0
theorem i_FindRule_eq (l : List RuleD) (n : ByteArray) : i_FindRule l n = some (findR l n) := by
  obtain ⟨z, h⟩ := find_some l n
  unfold findR
  rw [h]; rfl
theorem s_FindRule_eq (l : List RuleD) (n : ByteArray) : s_FindRule l n = some (findR l n) := i_FindRule_eq l n
noncomputable def ruleAt (R : List RuleD) (j : Nat) (r : RuleD) : Bool := isRuleB r && (findR R r.name == ((j : Nat) : Int))
noncomputable def areRulesB (R : List RuleD) : Bool := decide (R.length ≤ 6) && allI (ruleAt R) R 0
theorem i_AreRules_eq {R : List RuleD} (h : ∀ r ∈ R, SmallR r) : i_AreRules R = some (areRulesB R) := by
  unfold i_AreRules areRulesB
  by_cases h6 : R.length ≤ 6
  · rw [if_neg (by simp; omega), decide_eq_true h6, Bool.true_and, forL_allI (p := ruleAt R) (r := false)]
    · cases allI (ruleAt R) R 0 <;> rfl
    · intro j r hj
      rw [i_IsRule_eq r (h r (List.mem_of_getElem? hj)), Option.bind_some, i_FindRule_eq]
      unfold ruleAt
      simp only [Option.bind_some, Nat.zero_add]
      cases isRuleB r with
      | false => rfl
      | true =>
        by_cases hf : findR R r.name = ((j : Nat) : Int)
        · simp [hf]
        · have e : (findR R r.name == ((j : Nat) : Int)) = false := by simpa using hf
          simp [e, hf]
  · rw [if_pos (by simp; omega), decide_eq_false h6]; rfl
theorem s_AreRules_eq {R : List RuleD} (h : ∀ r ∈ R, SmallR r) : s_AreRules R = some (areRulesB R) := by
  unfold s_AreRules areRulesB
  rw [forL_allI (p := ruleAt R) (r := false)]
  · have : decide (((R.length : Nat) : Int) ≤ 6) = decide (R.length ≤ 6) := by rw [Bool.eq_iff_iff]; simp; omega
    rw [this]
    cases allI (ruleAt R) R 0 <;> simp
  · intro j r hj
    rw [s_IsRule_eq r (h r (List.mem_of_getElem? hj)), Option.bind_some, s_FindRule_eq]
    unfold ruleAt
    simp only [Option.bind_some, Nat.zero_add]
    cases isRuleB r with
    | false => rfl
    | true =>
      by_cases hf : findR R r.name = ((j : Nat) : Int)
      · simp [hf]
      · have e : (findR R r.name == ((j : Nat) : Int)) = false := by simpa using hf
        simp [e, hf]
open Classical
end Go.Proofs.YtlkgkkacnoaeaaaGreatDoor

namespace Go.Proofs.YtlkgkkacnoaeaaaGreatDoor
open Classical
theorem s_FindFact_eq (l : List FactD) (f : FactD) : ∃ z, s_FindFact l f = some z ∧ (z < 0 ↔ f ∉ l) := i_FindFact_eq l f
/-- ascending valid facts -/
noncomputable def factAt (F : List FactD) (i : Nat) (x : FactD) : Bool := isFactB x && (if i = 0 then true else match F[i - 1]? with | some y => decide (cmpF y x < 0) | none => true)
noncomputable def areFactsB (F : List FactD) : Bool := decide (F.length ≤ 24) && allI (factAt F) F 0
theorem allI_mem {α : Type} {p : Nat → α → Bool} {q : α → Bool} (h : ∀ i x, p i x = true → q x = true) : ∀ {l : List α} {i : Nat}, allI p l i = true → ∀ x ∈ l, q x = true
  | [], _, _ => by simp
  | y :: l, i, ha => by
    simp only [allI, Bool.and_eq_true] at ha
    intro x mx
    rcases List.mem_cons.1 mx with rfl | mx
    · exact h i _ ha.1
    · exact allI_mem h ha.2 x mx
theorem areFacts_ok {F : List FactD} (h : areFactsB F = true) : F.length ≤ 24 ∧ ∀ f ∈ F, isFactB f = true := by
  unfold areFactsB at h
  rw [Bool.and_eq_true, decide_eq_true_iff] at h
  refine ⟨h.1, allI_mem (fun i x hx => ?_) h.2⟩
  unfold factAt at hx
  rw [Bool.and_eq_true] at hx
  exact hx.1
theorem fact_args {f : FactD} (h : isFactB f = true) : f.args.length ≤ 3 := by
  unfold isFactB at h
  simp only [Bool.and_eq_true, decide_eq_true_iff] at h
  exact h.1.2
theorem fact_step {F : List FactD} (hl : F.length ≤ 1048576) {i : Nat} {x : FactD} (hx : F[i]? = some x) :
    (if isFactB x = true then (if (decide (0 < ((i : Nat) : Int))) = true then (atI F (IntKind.i64.wrap (((i : Nat) : Int) - 1))).bind fun x11 => (some (cmpF x11 x)).bind fun v12 => if (decide (0 ≤ v12)) = true then some (.inr false) else some (.inl ()) else some (.inl ())) else some (.inr false) : Option (Unit ⊕ Bool))
      = some (bif factAt F i x then .inl () else .inr false) := by
  have hi := (List.getElem?_eq_some_iff.1 hx).1
  unfold factAt
  cases isFactB x with
  | false => rfl
  | true =>
    rw [if_pos rfl]
    by_cases h0 : i = 0
    · subst h0
      rw [if_neg (by simp)]
      simp
    · have hg : F[i - 1]? = some F[i - 1] := List.getElem?_eq_getElem (by omega)
      rw [if_pos (by simp; omega), show ((i : Nat) : Int) - 1 = ((i - 1 : Nat) : Int) by omega, wrap_in (by omega) (by omega), atI_nat, hg, Option.bind_some, Option.bind_some, if_neg h0]
      by_cases hc : cmpF F[i - 1] x < 0
      · rw [if_neg (by simpa using hc)]
        simp [hc]
      · rw [if_pos (by simpa using hc)]
        simp [hc]
theorem i_AreFacts_eq (F : List FactD) : i_AreFacts F = some (areFactsB F) := by
  unfold i_AreFacts areFactsB
  by_cases h : F.length ≤ 24
  · rw [if_neg (by simp; omega), decide_eq_true h, forL_allI (p := factAt F) (r := false)]
    · cases allI (factAt F) F 0 <;> rfl
    · intro j x hx
      rw [Nat.zero_add, i_IsFact_eq, Option.bind_some]
      simp only [i_CompareFacts_eq]
      exact fact_step (by omega) hx
  · rw [if_pos (by simp; omega), decide_eq_false h]
    rfl
theorem s_AreFacts_eq (F : List FactD) (hl : F.length ≤ 1048576) : s_AreFacts F = some (areFactsB F) := by
  unfold s_AreFacts areFactsB
  rw [forL_allI (p := factAt F) (r := false)]
  · have : decide (((F.length : Nat) : Int) ≤ 24) = decide (F.length ≤ 24) := by rw [Bool.eq_iff_iff]; simp; omega
    rw [this]
    cases allI (factAt F) F 0 <;> simp
  · intro j x hx
    rw [Nat.zero_add, s_IsFact_eq, Option.bind_some]
    simp only [s_CompareFacts_eq]
    exact fact_step hl hx
theorem i_copyFacts_eq (l : List FactD) (hl : l.length ≤ 1048576) (h : ∀ f ∈ l, f.args.length ≤ 1048576) : i_copyFacts l = some l := by
  unfold i_copyFacts
  rw [forL_map (g := fun y => y)]
  · simp
  · intro j y s my hs
    rw [i_copyFact_eq y (h y my), Option.bind_some, chk_pos _ (by simp at hs; omega)]
theorem s_l2Copies_eq (l : List FactD) (hl : l.length ≤ 1048576) (h : ∀ f ∈ l, f.args.length ≤ 1048576) : s_l2Copies l = some l := by
  unfold s_l2Copies
  rw [forL_map (g := fun y => y)]
  · simp
  · intro j y s my hs
    rw [s_l2Copy_eq y (h y my), Option.bind_some, chk_pos _ (by simp at hs; omega)]
/-- what is known of a token where facts are valid -/
structure TokS (F : List FactD) (t : TokenD) : Prop where
  bind : t.binding.length ≤ 6
  len : t.facts.length ≤ 4
  args : ∀ f ∈ t.facts, f.args.length ≤ 3
theorem TokOk.s {p : List CondD} {F : List FactD} {t : TokenD} (h : TokOk p F t) (hp : p.length ≤ 4) (hF : ∀ f ∈ F, f.args.length ≤ 3) : TokS F t :=
  ⟨isBindB_len h.bind, by have := h.len; omega, fun f mf => hF f (h.sub f mf)⟩
/-- the walk over the tokens for one condition -/
theorem step_loop {ρ : Type} {x : CondD} {F : List FactD} {body : Nat → TokenD → List TokenD → Option (List TokenD ⊕ ρ)} {fin : List TokenD → Option ρ} (hF : F.length ≤ 24) (ts : List TokenD) (hts : ts.length ≤ 331776)
    (hb : ∀ i t row, t ∈ ts → row.length ≤ 10000000 → body i t row = some (.inl (row ++ nextP x F t))) : forL body fin ts 0 [] = fin (stepP x F ts) := by
  have hst : stepP x F [] = [] := rfl
  rw [← hst, forL_walk (fun p => stepP x F p) ts]
  intro p t q e
  have hl := step_len x F hF p
  have hp : p.length ≤ ts.length := by rw [e]; simp
  rw [hb _ _ _ (by rw [e]; simp) (by omega)]
  unfold stepP
  rw [List.flatMap_append]
  simp
theorem i_tokensOf_eq (l : List CondD) (F : List FactD) (hl : l.length ≤ 4) (hF : F.length ≤ 24) (hA : ∀ f ∈ F, f.args.length ≤ 3) : i_tokensOf l F = some (tokensP l F) := by
  unfold i_tokensOf
  have h0 : tokensP [] F = [({ facts := [], binding := [] } : TokenD)] := rfl
  rw [← h0, forL_walk (fun p => tokensP p F) l]
  intro p x q e
  have hpl : p.length + (q.length + 1) = l.length := by rw [e, List.length_append, List.length_cons]
  rw [tokensP_snoc]
  refine step_loop (fin := fun r => (some (Sum.inl r) : Option (List TokenD ⊕ List TokenD))) hF (tokensP p F) (tokens_len F hF p (by omega)) (fun i t row mt hr => ?_)
  have ht := (tokens_ok F p t mt).s (by omega) hA
  unfold nextP
  by_cases hk : x.kind = 1
  · rw [if_neg (by simpa using hk), if_pos hk, forL_filterMap (g := fun f => (matchP x.pattern f t.binding).map fun b => ({ facts := t.facts ++ [f], binding := b } : TokenD))]
    intro j f s mf hs
    rw [i_MatchFact_eq, Option.bind_some, listR_some]
    cases hm : matchP x.pattern f t.binding with
    | none => simp
    | some b =>
      simp only [Option.isSome_some, if_true]
      rw [i_copyFacts_eq _ (by have := ht.len; omega) (fun g mg => by have := ht.args g mg; omega), Option.bind_some, i_copyFact_eq f (by have := hA f mf; omega), Option.bind_some, chk_pos _ (by have := ht.len; omega), chk_pos _ (by omega)]
      rfl
  · rw [if_pos (by simpa using hk), if_neg hk, i_HoldsCond_eq _ _ _ (by omega) (fun f mf => by have := hA f mf; omega), Option.bind_some]
    split
    · rw [chk_pos _ (by omega)]
    · simp
theorem s_l6Copy_eq {F : List FactD} {t : TokenD} (ht : TokS F t) : s_l6Copy t = some t := by
  unfold s_l6Copy s_l3Copy
  rw [s_l2Copies_eq _ (by have := ht.len; omega) (fun g mg => by have := ht.args g mg; omega), Option.bind_some, chk_pos _ (by have := ht.bind; omega)]
  rfl
theorem s_l6Next_eq (ts : List TokenD) (x : CondD) (F : List FactD) (hts : ts.length ≤ 331776) (hF : F.length ≤ 24) (hA : ∀ f ∈ F, f.args.length ≤ 3) (ht : ∀ t ∈ ts, TokS F t) : s_l6Next ts x F = some (stepP x F ts) := by
  unfold s_l6Next
  refine step_loop (fin := fun r => some r) hF ts hts (fun i t row mt hr => ?_)
  have ht := ht t mt
  have htb := ht.bind
  unfold nextP
  by_cases hk : x.kind = 1
  · rw [if_neg (by simpa using hk), if_pos hk, forL_filterMap (g := fun f => (matchP x.pattern f t.binding).map fun b => ({ facts := t.facts ++ [f], binding := b } : TokenD))]
    intro j f s mf hs
    rw [s_MatchFact_eq _ _ _ (by omega), Option.bind_some, listR_some]
    cases hm : matchP x.pattern f t.binding with
    | none => simp
    | some b =>
      simp only [Option.isSome_some, if_true]
      rw [s_l2Copies_eq _ (by have := ht.len; omega) (fun g mg => by have := ht.args g mg; omega), Option.bind_some, s_l2Copy_eq f (by have := hA f mf; omega), Option.bind_some, chk_pos _ (by have := ht.len; omega), chk_pos _ (by omega)]
      rfl
  · rw [if_pos (by simpa using hk), if_neg hk, s_HoldsCond_eq _ _ _ (by omega) (by omega) (fun f mf => by have := hA f mf; omega), Option.bind_some]
    split
    · rw [s_l6Copy_eq ht, Option.bind_some, chk_pos _ (by omega)]
    · simp
theorem s_l6Tokens_eq (l : List CondD) (F : List FactD) (hl : l.length ≤ 4) (hF : F.length ≤ 24) (hA : ∀ f ∈ F, f.args.length ≤ 3) : s_l6Tokens l F = some (tokensP l F) := by
  unfold s_l6Tokens
  have h0 : tokensP [] F = [({ facts := [], binding := [] } : TokenD)] := rfl
  rw [← h0, forL_walk (fun p => tokensP p F) l]
  intro p x q e
  have hpl : p.length + (q.length + 1) = l.length := by rw [e, List.length_append, List.length_cons]
  rw [tokensP_snoc, s_l6Next_eq _ _ _ (tokens_len F hF p (by omega)) hF hA (fun t mt => (tokens_ok F p t mt).s (by omega) hA)]
  rfl
def mkM (r : RuleD) (t : TokenD) : MatchD := { rule := r.name, facts := t.facts, binding := t.binding }
theorem i_matchesOf_eq (r : RuleD) (F : List FactD) (hl : r.cond.length ≤ 4) (hF : F.length ≤ 24) (hA : ∀ f ∈ F, f.args.length ≤ 3) : i_matchesOf r F = some ((tokensP r.cond F).map (mkM r)) := by
  unfold i_matchesOf
  have hn := tokens_len F hF r.cond hl
  rw [i_tokensOf_eq _ _ hl hF hA, Option.bind_some, forL_map (g := mkM r)]
  · simp
  · intro j t s mt hs
    rw [chk_pos _ (by simp at hs; omega)]
    rfl
theorem s_TokensOf_eq (r : RuleD) (F : List FactD) (hr : SmallR r) (hF : F.length ≤ 1048576) : s_TokensOf r ((r.cond.length : Nat) : Int) F = some (if (isRuleB r && areFactsB F) = true then tokensP r.cond F else []) := by
  unfold s_TokensOf
  rw [s_IsRule_eq r hr, Option.bind_some]
  cases h1 : isRuleB r with
  | false => rfl
  | true =>
    rw [if_pos rfl, s_AreFacts_eq F hF, Option.bind_some]
    cases h2 : areFactsB F with
    | false => rfl
    | true =>
      obtain ⟨hF24, hFF⟩ := areFacts_ok h2
      have hc := (isRuleB_len h1).1
      rw [if_pos rfl, s_In_num, Option.bind_some, if_pos (by simp), chk_pos _ (by omega), Int.toNat_natCast, List.take_length, List.drop_zero, s_l6Tokens_eq _ _ hc hF24 (fun f mf => fact_args (hFF f mf))]
      rfl
theorem s_MatchesOf_eq (r : RuleD) (F : List FactD) (hr : SmallR r) (hF : F.length ≤ 1048576) : s_MatchesOf r F = some (if (isRuleB r && areFactsB F) = true then (tokensP r.cond F).map (mkM r) else []) := by
  unfold s_MatchesOf
  rw [s_TokensOf_eq r F hr hF, Option.bind_some]
  by_cases h : (isRuleB r && areFactsB F) = true
  · rw [if_pos h, if_pos h]
    rw [Bool.and_eq_true] at h
    have hn := tokens_len F (areFacts_ok h.2).1 r.cond (isRuleB_len h.1).1
    rw [forL_map (g := mkM r)]
    · simp
    · intro j t s mt hs
      rw [chk_pos _ (by simp at hs; omega)]
      rfl
  · rw [if_neg h, if_neg h]
    rfl
noncomputable def matchesP (R : List RuleD) (F : List FactD) : List MatchD := R.flatMap fun r => if (isRuleB r && areFactsB F) = true then (tokensP r.cond F).map (mkM r) else []
theorem matches_len (F : List FactD) : ∀ R : List RuleD, (matchesP R F).length ≤ 331776 * R.length
  | [] => Nat.le_refl _
  | r :: R => by
    have ih := matches_len F R
    have h1 : (if (isRuleB r && areFactsB F) = true then (tokensP r.cond F).map (mkM r) else []).length ≤ 331776 := by
      split
      · rename_i h
        rw [Bool.and_eq_true] at h
        rw [List.length_map]
        exact tokens_len F (areFacts_ok h.2).1 r.cond (isRuleB_len h.1).1
      · simp
    unfold matchesP at *
    rw [List.flatMap_cons, List.length_append, List.length_cons]
    omega
theorem areRules_mem {R : List RuleD} (h : areRulesB R = true) : R.length ≤ 6 ∧ ∀ r ∈ R, isRuleB r = true := by
  unfold areRulesB at h
  rw [Bool.and_eq_true, decide_eq_true_iff] at h
  refine ⟨h.1, allI_mem (fun i x hx => ?_) h.2⟩
  unfold ruleAt at hx
  rw [Bool.and_eq_true] at hx
  exact hx.1
theorem s_AllMatches_eq {R : List RuleD} (hR : ∀ r ∈ R, SmallR r) (F : List FactD) (hF : F.length ≤ 1048576) : s_AllMatches R F = some (if areRulesB R = true then matchesP R F else []) := by
  unfold s_AllMatches
  by_cases h : areRulesB R = true
  · have h6 := (areRules_mem h).1
    have h0 : matchesP [] F = [] := rfl
    rw [if_pos h, ← h0, forL_walk (fun p => matchesP p F) R]
    intro p r q e
    have hp : p.length + (q.length + 1) = R.length := by rw [e, List.length_append, List.length_cons]
    have h1 := matches_len F p
    have h2 := matches_len F [r]
    have h3 : matchesP [r] F = (if (isRuleB r && areFactsB F) = true then (tokensP r.cond F).map (mkM r) else []) := by simp [matchesP]
    rw [h3] at h2
    simp only [List.length_singleton] at h2
    rw [s_AreRules_eq hR, Option.bind_some, if_pos h, s_MatchesOf_eq r F (hR r (by rw [e]; simp)) hF, Option.bind_some, chk_pos _ (by omega)]
    unfold matchesP
    rw [List.flatMap_append]
    simp
  · rw [if_neg h]
    cases R with
    | nil => rfl
    | cons r R =>
      refine forL_stop ?_
      rw [s_AreRules_eq hR, Option.bind_some, if_neg h]
/-- what an action of a rule adds is there -/
noncomputable def actB (F : List FactD) (b : List PairD) (a : ActionD) : Bool := !decide (a.kind = 1) || decide ((factR (instP a.pattern b)).1 ∈ F)
noncomputable def tokB (F : List FactD) (r : RuleD) (t : TokenD) : Bool := r.thn.all (actB F t.binding)
noncomputable def ruleC (F : List FactD) (r : RuleD) : Bool := (tokensP r.cond F).all (tokB F r)
theorem i_IsClosed_eq {R : List RuleD} (hR : ∀ r ∈ R, SmallR r) (F : List FactD) : i_IsClosed R F = some (areRulesB R && (areFactsB F && R.all (ruleC F))) := by
  unfold i_IsClosed
  rw [i_AreRules_eq hR, Option.bind_some]
  cases h1 : areRulesB R with
  | false => rfl
  | true =>
    rw [if_pos rfl, i_AreFacts_eq, Option.bind_some]
    cases h2 : areFactsB F with
    | false => rfl
    | true =>
      obtain ⟨hF24, hFF⟩ := areFacts_ok h2
      rw [if_pos rfl, forL_all (p := ruleC F) (r := false)]
      · cases R.all (ruleC F) <;> rfl
      · intro i r mr
        have hc := (isRuleB_len ((areRules_mem h1).2 r mr)).1
        rw [i_matchesOf_eq r F hc hF24 (fun f mf => fact_args (hFF f mf)), Option.bind_some, forL_all (p := fun m : MatchD => r.thn.all (actB F m.binding)) (r := .inr false)]
        · have e : ((tokensP r.cond F).map (mkM r)).all (fun m => r.thn.all (actB F m.binding)) = ruleC F r := by
            unfold ruleC
            rw [List.all_map]
            rfl
          rw [e]
          cases ruleC F r <;> rfl
        · intro j m mm
          rw [forL_all (p := actB F m.binding) (r := .inr (.inr false))]
          · cases r.thn.all (actB F m.binding) <;> rfl
          · intro k a ma
            unfold actB
            by_cases hk : a.kind = 1
            · rw [if_neg (by simpa using hk), i_Instance_eq, Option.bind_some]
              obtain ⟨z, hz, hz2⟩ := i_FindFact_eq F (factR (instP a.pattern m.binding)).1
              rw [hz, Option.bind_some]
              by_cases hm : (factR (instP a.pattern m.binding)).1 ∈ F
              · rw [if_neg (by have : ¬ z < 0 := fun h => hz2.1 h hm
                               simpa using this)]
                simp [hm]
              · rw [if_pos (by simpa using hz2.2 hm)]
                simp [hm, hk]
            · rw [if_pos (by simpa using hk)]
              simp [hk]
theorem rule_acts {r : RuleD} (h : isRuleB r = true) : ∀ a ∈ r.thn, a.kind = 1 → isPatternB a.pattern = true ∧ ∀ v ∈ a.pattern.args, isVarB v = true → v ∈ hasVars r.cond := by
  intro a ma hk
  unfold isRuleB at h
  simp only [Bool.and_eq_true] at h
  have ha := List.all_eq_true.1 h.1.2 a ma
  rw [Bool.and_eq_true] at ha
  obtain ⟨h1, h2⟩ := ha
  unfold isActionB at h1
  rw [if_pos (.inl hk)] at h1
  refine ⟨h1, fun v mv hv => ?_⟩
  have := List.all_eq_true.1 h2 v (mem_varsA.2 ⟨mv, hv⟩)
  rw [hasT_iff] at this
  unfold boundV at this
  rw [mem_sortedT, List.take_length] at this
  exact this
theorem inst_some {r : RuleD} {F : List FactD} {t : TokenD} (hr : isRuleB r = true) (ht : TokOk r.cond F t) {a : ActionD} (ma : a ∈ r.thn) (hk : a.kind = 1) : ∃ f, instP a.pattern t.binding = some f := by
  obtain ⟨h1, h2⟩ := rule_acts hr a ma hk
  have hp := h1
  unfold isPatternB at hp
  simp only [Bool.and_eq_true] at hp
  obtain ⟨l, e, _⟩ := instL_some (b := t.binding) hp.2 (fun v mv hv => ht.vars v (h2 v mv hv))
  unfold instP
  rw [if_pos ⟨h1, ht.bind⟩, e]
  exact ⟨_, rfl⟩
theorem s_IsClosed_eq {R : List RuleD} (hR : ∀ r ∈ R, SmallR r) (F : List FactD) (hF : F.length ≤ 1048576) : s_IsClosed R F = some (areRulesB R && (areFactsB F && R.all (ruleC F))) := by
  unfold s_IsClosed
  rw [s_AllMatches_eq hR F hF, Option.bind_some]
  cases h1 : areRulesB R with
  | false =>
    rw [if_neg (by simp), forL_nil, s_AreRules_eq hR, h1]
    rfl
  | true =>
    rw [if_pos rfl]
    cases h2 : areFactsB F with
    | false =>
      have : matchesP R F = [] := by
        unfold matchesP
        rw [h2]
        simp
      rw [this, forL_nil, s_AreRules_eq hR, h1, Option.bind_some, if_pos rfl, s_AreFacts_eq F hF, h2]
      rfl
    | true =>
      let q : MatchD → Bool := fun m => match atI R (findR R m.rule) with | some r => r.thn.all (actB F m.binding) | none => true
      have hat : ∀ r ∈ R, atI R (findR R r.name) = some r := by
        intro r mr
        obtain ⟨j, hj⟩ := List.getElem?_of_mem mr
        have ha := h1
        unfold areRulesB at ha
        rw [Bool.and_eq_true] at ha
        have := allI_at ha.2 j r hj
        rw [Nat.zero_add] at this
        unfold ruleAt at this
        rw [Bool.and_eq_true, beq_iff_eq] at this
        rw [this.2, atI_nat]
        exact hj
      have hmem : ∀ m ∈ matchesP R F, ∃ r ∈ R, ∃ t ∈ tokensP r.cond F, m = mkM r t := by
        intro m mm
        obtain ⟨r, mr, mm⟩ := List.mem_flatMap.1 mm
        split at mm
        · obtain ⟨t, mt, e⟩ := List.mem_map.1 mm
          exact ⟨r, mr, t, mt, e.symm⟩
        · simp at mm
      rw [forL_all (p := q) (r := false)]
      · have hq : (matchesP R F).all q = R.all (ruleC F) := by
          rw [Bool.eq_iff_iff, List.all_eq_true, List.all_eq_true]
          constructor
          · intro h r mr
            unfold ruleC
            rw [List.all_eq_true]
            intro t mt
            have hm : mkM r t ∈ matchesP R F := List.mem_flatMap.2 ⟨r, mr, by rw [if_pos (by rw [(areRules_mem h1).2 r mr, h2]; rfl)]; exact List.mem_map.2 ⟨t, mt, rfl⟩⟩
            have := h _ hm
            simp only [q, mkM, hat r mr] at this
            exact this
          · intro h m mm
            obtain ⟨r, mr, t, mt, rfl⟩ := hmem m mm
            simp only [q, mkM, hat r mr]
            have := h r mr
            unfold ruleC at this
            exact List.all_eq_true.1 this t mt
        rw [hq, s_AreRules_eq hR, h1, Option.bind_some, if_pos rfl, s_AreFacts_eq F hF, h2]
        cases R.all (ruleC F) <;> rfl
      · intro i m mm
        obtain ⟨r, mr, t, mt, rfl⟩ := hmem m mm
        have ht := tokens_ok F r.cond t mt
        have hrb := (areRules_mem h1).2 r mr
        have hb6 := isBindB_len ht.bind
        have hqv : q (mkM r t) = r.thn.all (actB F t.binding) := by simp only [q, mkM, hat r mr]
        rw [hqv, s_FindRule_eq, Option.bind_some]
        show (atI R (findR R r.name)).bind _ = _
        rw [hat r mr, Option.bind_some, forL_all (p := actB F t.binding) (r := .inr false)]
        · cases r.thn.all (actB F t.binding) <;> rfl
        · intro k a ma
          show (s_Instance a.pattern t.binding).bind _ = _
          rw [s_Instance_eq _ _ (by omega), Option.bind_some]
          unfold actB
          by_cases hk : a.kind = 1
          · obtain ⟨f, hf⟩ := inst_some hrb ht ma hk
            rw [hf]
            show (if true = true then (if (a.kind == 1) = true then (s_FindFact F f).bind _ else _) else _) = _
            rw [if_pos rfl, if_pos (by simpa using hk)]
            obtain ⟨z, hz, hz2⟩ := s_FindFact_eq F f
            rw [hz, Option.bind_some]
            show _ = some (bif !decide (a.kind = 1) || decide (f ∈ F) then _ else _)
            by_cases hm : f ∈ F
            · rw [if_neg (by have : ¬ z < 0 := fun h => hz2.1 h hm
                             simpa using this)]
              simp [hm]
            · rw [if_pos (by simpa using hz2.2 hm)]
              simp [hm, hk]
          · have hk2 : ¬ (a.kind == 1) = true := by simpa using hk
            rw [if_neg hk2]
            simp [hk]
theorem IsClosed_plain (aRules : List RuleD) (cz : costRuleS aRules ≤ 1048576) (_ : (fun ds => ∀ d ∈ ds, wfRule d) aRules) (aFacts : List FactD) (cf : costFactS aFacts ≤ 1048576) (_ : (fun ds => ∀ d ∈ ds, wfFact d) aFacts) : ∃ r, s_IsClosed aRules aFacts = some r ∧ i_IsClosed aRules aFacts = some r := by
  have hR : ∀ r ∈ aRules, SmallR r := (rules_small cz).s
  have hF : aFacts.length ≤ 1048576 := by unfold costFactS at cf; omega
  exact ⟨_, s_IsClosed_eq hR aFacts hF, i_IsClosed_eq hR aFacts⟩
end Go.Proofs.YtlkgkkacnoaeaaaGreatDoor

namespace Go.Proofs.YtlkgkkacnoaeaaaGreatDoor
open Go.RowKit
def All2 {α β : Type} (R : α → β → Prop) : List α → List β → Prop
  | [], [] => True
  | a :: l, b :: r => R a b ∧ All2 R l r
  | _, _ => False
section
variable {α β : Type} {R R' : α → β → Prop}
theorem All2.len : ∀ {l : List α} {r : List β}, All2 R l r → l.length = r.length
  | [], [], _ => rfl
  | _ :: _, _ :: _, h => by simp [h.2.len]
  | [], _ :: _, h => h.elim
  | _ :: _, [], h => h.elim
theorem All2.mono : ∀ {l : List α} {r : List β}, All2 R l r → (∀ a b, a ∈ l → R a b → R' a b) → All2 R' l r
  | [], [], _, _ => trivial
  | _ :: _, _ :: _, h, f => ⟨f _ _ (by simp) h.1, h.2.mono fun a b m => f a b (by simp [m])⟩
  | [], _ :: _, h, _ => h.elim
  | _ :: _, [], h, _ => h.elim
theorem All2.at : ∀ {l : List α} {r : List β} {i : Nat} {a : α}, All2 R l r → l[i]? = some a → ∃ b, r[i]? = some b ∧ R a b
  | [], [], _, _, _, h => by simp at h
  | _ :: _, b :: _, 0, _, h, e => by simp at e; subst e; exact ⟨b, by simp, h.1⟩
  | _ :: _, _ :: _, i + 1, a, h, e => by
    obtain ⟨b, h1, h2⟩ := h.2.at (i := i) (a := a) (by simpa using e)
    exact ⟨b, by simpa using h1, h2⟩
  | [], _ :: _, _, _, h, _ => h.elim
  | _ :: _, [], _, _, h, _ => h.elim
theorem All2.set : ∀ {l : List α} {r : List β} {i : Nat} {a : α} {b : β}, All2 R l r → R a b → All2 R (l.set i a) (r.set i b)
  | [], [], _, _, _, _, _ => trivial
  | _ :: _, _ :: _, 0, _, _, h, e => ⟨e, h.2⟩
  | _ :: _, _ :: _, _ + 1, _, _, h, e => ⟨h.1, h.2.set e⟩
  | [], _ :: _, _, _, _, h, _ => h.elim
  | _ :: _, [], _, _, _, h, _ => h.elim
theorem All2.drop : ∀ {l : List α} {r : List β} (n : Nat), All2 R l r → All2 R (l.drop n) (r.drop n)
  | _, _, 0, h => by simpa using h
  | [], [], n + 1, _ => by simp [All2]
  | _ :: _, _ :: _, n + 1, h => by simpa using h.2.drop n
  | [], _ :: _, _ + 1, h => h.elim
  | _ :: _, [], _ + 1, h => h.elim
theorem All2.take : ∀ {l : List α} {r : List β} (n : Nat), All2 R l r → All2 R (l.take n) (r.take n)
  | _, _, 0, h => by simp [All2]
  | [], [], n + 1, _ => by simp [All2]
  | _ :: _, _ :: _, n + 1, h => by simpa using ⟨h.1, h.2.take n⟩
  | [], _ :: _, _ + 1, h => h.elim
  | _ :: _, [], _ + 1, h => h.elim
theorem All2.append : ∀ {l l' : List α} {r r' : List β}, All2 R l r → All2 R l' r' → All2 R (l ++ l') (r ++ r')
  | [], _, [], _, _, h => h
  | _ :: _, _, _ :: _, _, h, h' => ⟨h.1, h.2.append h'⟩
  | [], _, _ :: _, _, h, _ => h.elim
  | _ :: _, _, [], _, h, _ => h.elim
end
/-- what stands behind the keys: the value, the block that it writes to, the blocks that its elements lead to -/
structure Gh where
  val : Nat → Value
  O : Nat → List Nat
  D : Nat → List Nat
  Z : Nat → Prop
/-- a block that may be written to: a row's or a box's of this call, or one of a call below (Z) -/
def Gh.own (g : Gh) (b : Nat) : Prop := (∃ k, b ∈ g.O k) ∨ g.Z b
/-- the world at the call's start, the blocks that calls below may write to (z), those that were handed in to be written to (x), and the first argument if it was handed in (hv) -/
structure Base extends World where
  z : Nat → Prop
  x : Nat → Prop
  hv : Option Value
structure Bel (W : Base) (w : World) : Prop where
  os : w.os = W.os
  tape : w.tape = W.tape
  output : w.output = W.output
  size : W.heap.size ≤ w.heap.size
  block : ∀ k, k < W.heap.size → ¬ W.x k → w.heap[k]? = W.heap[k]?
theorem Bel.trans {W : Base} {w w' : World} (h : Bel W w) (k : Below w.heap.size w w') : Bel W w' :=
  ⟨k.os.trans h.os, k.tape.trans h.tape, k.output.trans h.output, Nat.le_trans h.size k.size, fun i hi hx => (k.block i (Nat.lt_of_lt_of_le hi h.size)).trans (h.block i hi hx)⟩
def AVR (g : Gh) (w : World) : AV → Value → Prop
  | .c x, v => ∃ L, RC w x v L ∧ ∀ b ∈ L, ¬ g.own b
  | .row k, v => v = g.val k ∧ v.oneCell' = true
  | .nil _ _, v => v = .slice none 0 0
  | .dead, v => v.oneCell' = true
def PVR (g : Gh) (w : World) : Bool → List AV → Value → Prop
  | true, cs, v => ∃ vs : List Value, v = .agg vs.toArray ∧ All2 (AVR g w) cs vs
  | false, cs, v => ∃ x, cs = [x] ∧ AVR g w x v
def SVR (g : Gh) (w : World) : SV → Value → Prop
  | .any, _ => True
  | .und, v => v = undef
  | .p a cs, v => PVR g w a cs v
  | .tup xs, v => ∃ vs : List Value, v = .tuple vs.toArray ∧ All2 (fun x u => PVR g w x.1 x.2 u) xs vs
  | .bp k off, v => ∃ b, g.val k = .pointer (some ⟨b, 0, none⟩) ∧ v = .pointer (some ⟨b, off, none⟩)
  | .rp k m i off, v => ∃ b o n c, g.val k = .slice (some ⟨b, o, none⟩) n c ∧ v = .pointer (some ⟨b, o + (i * m + off), none⟩)
  | .ep e off, v => ∃ b lo cs L, v = .pointer (some ⟨b, lo + off, none⟩) ∧ CellsAt w b lo cs ∧ RCs w e cs L ∧ (∀ x ∈ b :: L, ¬ g.own x) ∧ b < w.heap.size
  | .fn f, v => v = .func (.func f) #[] #[]
def ObR (g : Gh) (w : World) (k : Nat) : Ob → Prop
  | .gone => g.O k = [] ∧ g.D k = []
  | .box t cs => ∃ b vs, g.val k = .pointer (some ⟨b, 0, none⟩) ∧ g.O k = [b] ∧ g.D k = [] ∧ w.heap[b]? = some (.cells vs.toArray t (0, 0)) ∧ All2 (AVR g w) cs vs
  | .row e m xs d => 0 < m ∧ ∃ cs L, w.ownsV 0 e m (g.val k) xs.length cs ∧ REs w m xs cs L ∧ ((d = 2 ∧ g.O k = (g.val k).ownBlock.toList ∧ g.D k = L) ∨ (d = 1 ∧ g.O k = (g.val k).ownBlock.toList ∧ g.D k = [] ∧ ∀ b ∈ L, ¬ g.own b) ∨ (d = 0 ∧ g.O k = [] ∧ g.D k = [] ∧ ∀ b ∈ (g.val k).ownBlock.toList ++ L, ¬ g.own b))
  | .map kk vk kv => ∃ b es c, g.val k = .map (some b) ∧ g.O k = [b] ∧ g.D k = [] ∧ w.heap[b]? = some (.map es c) ∧ mapOf es = kv ∧ mapOk kk vk kv
/-- what a row, a box or a map is in the heap -/
def PlainAt (w : World) (o : Ob) (b : Nat) : Prop :=
  match o with
  | .map _ _ _ => ∃ es c, w.heap[b]? = some (.map es c)
  | _ => ∃ cur e, w.heap[b]? = some (.cells cur e (0, 0))
theorem PlainAt.lt {w : World} {o : Ob} {b : Nat} (h : PlainAt w o b) : b < w.heap.size := by
  unfold PlainAt at h
  split at h
  · obtain ⟨_, _, h⟩ := h; exact (Array.getElem?_eq_some_iff.1 h).1
  · obtain ⟨_, _, h⟩ := h; exact (Array.getElem?_eq_some_iff.1 h).1
theorem PlainAt.keep {w w' : World} {o : Ob} {b : Nat} (h : PlainAt w o b) (e : w'.heap[b]? = w.heap[b]?) : PlainAt w' o b := by
  unfold PlainAt at h ⊢
  rw [e]; exact h
def mapB : Ob → Bool
  | .map _ _ _ => true
  | _ => false
theorem PlainAt.of {w : World} {o o' : Ob} {b : Nat} (h : PlainAt w o b) (e : mapB o' = mapB o) : PlainAt w o' b := by
  cases o <;> cases o' <;> simp [mapB] at e <;> exact h
structure HI (W : Base) (g : Gh) (ob : Nat → Ob) (w : World) : Prop where
  below : Bel W w
  obs : ∀ k, ObR g w k (ob k)
  nodup : ∀ k, (g.O k ++ g.D k).Nodup
  apart : ∀ k j, k ≠ j → ∀ b ∈ g.O k ++ g.D k, b ∉ g.O j ++ g.D j
  plain : ∀ k, ∀ b ∈ g.O k ++ g.D k, (W.heap.size ≤ b ∨ W.x b) ∧ PlainAt w (ob k) b
  gz : g.Z = W.z
  zx : ∀ b, W.z b → b < W.heap.size ∧ ¬ W.x b
/-- the keys that a state names -/
def avU (U : Nat → Prop) : AV → Prop
  | .row k => U k
  | _ => True
def avsU (U : Nat → Prop) (cs : List AV) : Prop := ∀ x ∈ cs, avU U x
def svU (U : Nat → Prop) : SV → Prop
  | .p _ cs => avsU U cs
  | .tup xs => ∀ x ∈ xs, avsU U x.2
  | .bp k _ => U k
  | .rp k _ _ _ => U k
  | _ => True
def obU (U : Nat → Prop) : Ob → Prop
  | .box _ cs => avsU U cs
  | _ => True
structure StU (U : Nat → Prop) (st : St) : Prop where
  sl : ∀ t, svU U (st.sl t)
  ob : ∀ k, obU U (st.ob k)
  gone : ∀ k, ¬ U k → st.ob k = .gone
theorem HI.lt {W : Base} {g : Gh} {ob : Nat → Ob} {w : World} (h : HI W g ob w) (k : Nat) : ∀ b ∈ g.O k ++ g.D k, b < w.heap.size := by
  intro b m
  exact (h.plain k b m).2.lt
/-- what a row or a box leads to is no block of a call below -/
theorem HI.nz {W : Base} {g : Gh} {ob : Nat → Ob} {w : World} (h : HI W g ob w) {k b : Nat} (m : b ∈ g.O k ++ g.D k) : ¬ g.Z b := fun hz => by
  rw [h.gz] at hz
  obtain ⟨h1, h2⟩ := h.zx b hz
  rcases (h.plain k b m).1 with h3 | h3
  · omega
  · exact h2 h3
section
variable {g g' : Gh} {w w' : World} {U : Nat → Prop}
theorem AVR.move {x : AV} {v : Value} (h : AVR g w x v) (hx : avU U x) (hv : ∀ k, U k → g'.val k = g.val k)
    (hw : ∀ b, b < w.heap.size → ¬ g.own b → w'.heap[b]? = w.heap[b]?) (ho : ∀ b, g'.own b → g.own b ∨ w.heap.size ≤ b) : AVR g' w' x v := by
  cases x with
  | c x =>
    obtain ⟨L, h1, h2⟩ := h
    have hlt := h1.lt
    refine ⟨L, h1.keep fun b m => hw b (hlt b m) (h2 b m), fun b m o => ?_⟩
    rcases ho b o with o | o
    · exact h2 b m o
    · have := hlt b m; omega
  | row k => exact ⟨h.1.trans (hv k hx).symm, h.2⟩
  | nil e m => exact h
  | dead => exact h
theorem AVRs.move {cs : List AV} {vs : List Value} (h : All2 (AVR g w) cs vs) (hx : avsU U cs) (hv : ∀ k, U k → g'.val k = g.val k)
    (hw : ∀ b, b < w.heap.size → ¬ g.own b → w'.heap[b]? = w.heap[b]?) (ho : ∀ b, g'.own b → g.own b ∨ w.heap.size ≤ b) : All2 (AVR g' w') cs vs :=
  h.mono fun a _ m r => r.move (hx a m) hv hw ho
theorem PVR.move {a : Bool} {cs : List AV} {v : Value} (h : PVR g w a cs v) (hx : avsU U cs) (hv : ∀ k, U k → g'.val k = g.val k)
    (hw : ∀ b, b < w.heap.size → ¬ g.own b → w'.heap[b]? = w.heap[b]?) (ho : ∀ b, g'.own b → g.own b ∨ w.heap.size ≤ b) : PVR g' w' a cs v := by
  cases a with
  | true => obtain ⟨vs, h1, h2⟩ := h; exact ⟨vs, h1, AVRs.move h2 hx hv hw ho⟩
  | false => obtain ⟨x, h1, h2⟩ := h; exact ⟨x, h1, h2.move (hx x (by simp [h1])) hv hw ho⟩
theorem SVR.move {s : SV} {v : Value} (h : SVR g w s v) (hx : svU U s) (hv : ∀ k, U k → g'.val k = g.val k)
    (hw : ∀ b, b < w.heap.size → ¬ g.own b → w'.heap[b]? = w.heap[b]?) (ho : ∀ b, g'.own b → g.own b ∨ w.heap.size ≤ b) (hs : w.heap.size ≤ w'.heap.size) : SVR g' w' s v := by
  cases s with
  | any => exact h
  | und => exact h
  | p a cs => exact PVR.move h hx hv hw ho
  | tup xs =>
    obtain ⟨vs, h1, h2⟩ := h
    exact ⟨vs, h1, h2.mono fun x _ m r => r.move (hx x m) hv hw ho⟩
  | bp k off => obtain ⟨b, h1, h2⟩ := h; exact ⟨b, (hv k hx).trans h1, h2⟩
  | rp k m i off => obtain ⟨b, o, n, c, h1, h2⟩ := h; exact ⟨b, o, n, c, (hv k hx).trans h1, h2⟩
  | ep e off =>
    obtain ⟨b, lo, cs, L, h1, h2, h3, h4, h5⟩ := h
    have hlt := h3.lt
    refine ⟨b, lo, cs, L, h1, fun j u hu => ?_, h3.keep fun x m => hw x (hlt x m) (h4 x (by simp [m])), fun x m o => ?_, by omega⟩
    · rw [← h2 j u hu]; exact World.cell?_of_block (hw b h5 (h4 b (by simp)))
    · rcases ho x o with o | o
      · exact h4 x m o
      · rcases List.mem_cons.1 m with rfl | m
        · omega
        · have := hlt x m; omega
  | fn f => exact h
/-- a step of the world and of what stands behind the keys: the keys in T are turned, the others stay -/
theorem HI.step {W : Base} {ob ob' : Nat → Ob} (h : HI W g ob w) (T : Nat → Prop)
    (hbel : Bel W w') (hZ : g'.Z = g.Z)
    (hw : ∀ b, b < w.heap.size → (∀ k, T k → b ∉ g.O k) → w'.heap[b]? = w.heap[b]?)
    (hk : ∀ k, ¬ T k → ob' k = ob k ∧ g'.val k = g.val k ∧ g'.O k = g.O k ∧ g'.D k = g.D k)
    (hobU : ∀ k, obU U (ob k)) (hv : ∀ k, U k → g'.val k = g.val k)
    (ho : ∀ b, g'.own b → g.own b ∨ w.heap.size ≤ b)
    (hT : ∀ k, T k → ObR g' w' k (ob' k) ∧ (g'.O k ++ g'.D k).Nodup ∧ (∀ b ∈ g'.O k ++ g'.D k, (W.heap.size ≤ b ∨ W.x b) ∧ PlainAt w' (ob' k) b) ∧ ∀ j, k ≠ j → ∀ b ∈ g'.O k ++ g'.D k, b ∉ g'.O j ++ g'.D j) :
    HI W g' ob' w' := by
  have hw' : ∀ b, b < w.heap.size → ¬ g.own b → w'.heap[b]? = w.heap[b]? := fun b hb hn => hw b hb fun k _ m => hn (.inl ⟨k, m⟩)
  have hkeepF : ∀ k, ¬ T k → ∀ b ∈ g.O k ++ g.D k, w'.heap[b]? = w.heap[b]? := fun k hk b m =>
    hw b (h.lt k b m) fun j hj mj => h.apart j k (fun e => hk (e ▸ hj)) b (by simp [mj]) m
  refine ⟨hbel, fun k => ?_, fun k => ?_, fun k j hkj b m => ?_, fun k b m => ?_, hZ.trans h.gz, h.zx⟩
  · by_cases hTk : T k
    · exact (hT k hTk).1
    · obtain ⟨e1, e2, e3, e4⟩ := hk k hTk
      have hob := h.obs k
      have hF := hkeepF k hTk
      have hU := hobU k
      rw [e1]
      cases hok : ob k with
      | gone => rw [hok] at hob; exact ⟨e3.trans hob.1, e4.trans hob.2⟩
      | box t cs =>
        rw [hok] at hob hU
        obtain ⟨b, vs, h1, h2, h3, h4, h5⟩ := hob
        exact ⟨b, vs, e2.trans h1, e3.trans h2, e4.trans h3, by rw [hF b (by simp [h2])]; exact h4, AVRs.move h5 hU hv hw' ho⟩
      | map kk vk kv =>
        rw [hok] at hob
        obtain ⟨b, es, c, h1, h2, h3, h4, h5⟩ := hob
        exact ⟨b, es, c, e2.trans h1, e3.trans h2, e4.trans h3, by rw [hF b (by simp [h2])]; exact h4, h5⟩
      | row e m xs d =>
        rw [hok] at hob
        obtain ⟨hm, cs, L, h1, h2, h4⟩ := hob
        have hltL := h2.lt
        have hL : ∀ b ∈ L, w'.heap[b]? = w.heap[b]? := fun b mb => by
          rcases h4 with ⟨_, _, h4⟩ | ⟨_, _, _, h4⟩ | ⟨_, _, _, h4⟩
          · exact hF b (by simp [h4, mb])
          · exact hw' b (hltL b mb) (h4 b mb)
          · exact hw' b (hltL b mb) (h4 b (by simp [mb]))
        have hOb : ∀ b ∈ (g.val k).ownBlock.toList, w'.heap[b]? = w.heap[b]? := fun b mb => by
          rcases h4 with ⟨_, h3, _⟩ | ⟨_, h3, _⟩ | ⟨_, _, _, h4⟩
          · exact hF b (by simp [h3, mb])
          · exact hF b (by simp [h3, mb])
          · exact hw' b (own_lt h1 b mb) (h4 b (by simp [mb]))
        refine ⟨hm, cs, L, by rw [e2]; exact ownsV_keep h1 hOb, h2.keep hL, ?_⟩
        rw [e2, e3, e4]
        have hno : ∀ b, b < w.heap.size → ¬ g.own b → ¬ g'.own b := fun b hb hn o => by
          rcases ho b o with o | o
          · exact hn o
          · omega
        rcases h4 with h4 | ⟨hd, h3, h4, h5⟩ | ⟨hd, h3, h4, h5⟩
        · exact .inl h4
        · exact .inr (.inl ⟨hd, h3, h4, fun b mb => hno b (hltL b mb) (h5 b mb)⟩)
        · refine .inr (.inr ⟨hd, h3, h4, fun b mb => ?_⟩)
          rcases List.mem_append.1 mb with m1 | m1
          · exact hno b (own_lt h1 b m1) (h5 b mb)
          · exact hno b (hltL b m1) (h5 b mb)
  · by_cases hTk : T k
    · exact (hT k hTk).2.1
    · obtain ⟨e1, e2, e3, e4⟩ := hk k hTk
      rw [e3, e4]; exact h.nodup k
  · by_cases hTk : T k
    · exact (hT k hTk).2.2.2 j hkj b m
    · by_cases hTj : T j
      · exact fun mj => (hT j hTj).2.2.2 k (fun e => hkj e.symm) b mj m
      · obtain ⟨_, _, e3, e4⟩ := hk k hTk
        obtain ⟨_, _, f3, f4⟩ := hk j hTj
        rw [e3, e4] at m
        rw [f3, f4]
        exact h.apart k j hkj b m
  · by_cases hTk : T k
    · exact (hT k hTk).2.2.1 b m
    · obtain ⟨_, _, e3, e4⟩ := hk k hTk
      rw [e3, e4] at m
      obtain ⟨p1, p2⟩ := h.plain k b m
      obtain ⟨e1, _⟩ := hk k hTk
      exact ⟨p1, by rw [e1]; exact p2.keep (hkeepF k hTk b m)⟩
end
/-- a state stands for a frame and a world -/
structure Inv (W : Base) (U : Nat → Prop) (st : St) (a : Act) (w : World) : Prop where
  ex : ∃ g, HI W g st.ob w ∧ ∀ t, SVR g w (st.sl t) (a.tmps.getD t undef)
  wf : StU U st
  defers : a.defers = []
  hand : ∀ v, W.hv = some v → a.tmps.getD 0 undef = v
end Go.Proofs.YtlkgkkacnoaeaaaGreatDoor

namespace Go.Proofs.YtlkgkkacnoaeaaaGreatDoor
open Go.RowKit
def constB : AV → Value → Bool
  | .c (.int k n), .int k' n' => k == k' && n == n'
  | .c (.bool b), .bool b' => b == b'
  | .c (.str s), .string s' => s.data.toList == s'.data.toList && strOk s
  | .nil _ m, .slice none 0 0 => Nat.blt 0 m
  | _, _ => false
def kindB : TypeDesc → AV → Bool
  | .int k, .c (.int k' _) => k == k'
  | .bool, .c (.bool _) => true
  | .string, .c (.str _) => true
  | _, _ => false
def aggD : TypeDesc → Bool
  | .struct _ => true
  | .array _ _ => true
  | _ => false
def kindP : PK → TypeDesc → Bool
  | .int k, .int k' => k == k'
  | .str, .string => true
  | .bool, .bool => true
  | _, _ => false
def EqF (P : Program) : List PK → List Field → Nat → Prop
  | [], [], _ => True
  | k :: ks, f :: fs, n => f.name ≠ "_" ∧ f.offset = n ∧ (∃ d, P.underlying f.type = some d ∧ kindP k d = true) ∧ EqF P ks fs (n + 1)
  | _, _, _ => False
def TOk (P : Program) (t : TypeId) : TI → Prop
  | .atom z => ∃ d zv i, P.underlying t = some d ∧ kindB d z = true ∧ P.info? t = some i ∧ i.zero = some zv ∧ i.size = 1 ∧ constB z zv = true
  | .strct fs n z => ∃ (fields : Array Field) (i : TypeInfo) (zvs : Array Value), P.underlying t = some (.struct fields) ∧ P.info? t = some i ∧ i.size = n ∧ i.zero = some (.agg zvs) ∧ All2 (fun a v => constB a v = true) z zvs.toList ∧
      All2 (fun (fi : FI) (f : Field) => f.offset = fi.off ∧ fi.size ≠ 0 ∧ ∃ j d, P.info? f.type = some j ∧ j.size = fi.size ∧ P.underlying f.type = some d ∧ aggD d = fi.agg) fs fields.toList
  | .slice e m bytes z => P.underlying t = some (.slice e) ∧ 0 < m ∧ bytes ≤ 131072 ∧ (∃ (i : TypeInfo) (zv : Value), P.info? e = some i ∧ i.size = m ∧ i.bytes = bytes ∧ i.zero = some zv ∧ All2 (fun a v => constB a v = true) z zv.cells.toList ∧ z.length = m) ∧
      ∃ j : TypeInfo, P.info? t = some j ∧ j.size = 1 ∧ j.zero = some (.slice none 0 0)
  | .ifc => ∃ ms, P.underlying t = some (.interface ms)
  | .map kk vk => ∃ kt et dk dv i zv, P.underlying t = some (.map kt et) ∧ P.underlying kt = some dk ∧ kindP kk dk = true ∧ P.underlying et = some dv ∧ kindP vk dv = true ∧ P.info? et = some i ∧ i.zero = some zv ∧ constB (zeroPK vk) zv = true
  | .eqs ks => ∃ u, t = u + 4000 ∧ P.underlying u = some (.struct (P.fieldsOf u)) ∧ P.stoodInHeld u = false ∧ P.eqGuardType P.depth u = false ∧ EqF P ks (P.fieldsOf u).toList 0
section
variable {P : Program} {w : World} {t : TypeId}
theorem run_info {i : TypeInfo} (h : P.info? t = some i) : (typeInfo t).run P w = .ok i w := by simp [typeInfo, program, Sem.run, h]
theorem run_und {d : TypeDesc} (h : P.underlying t = some d) : (underlying t).run P w = .ok d w := by simp [underlying, program, Sem.run, h]
theorem run_size {i : TypeInfo} (h : P.info? t = some i) : (sizeOf t).run P w = .ok i.size w := by simp [sizeOf, run_info h]
theorem run_zero {i : TypeInfo} {z : Value} (h : P.info? t = some i) (hz : i.zero = some z) : (zeroValue t).run P w = .ok z w := by simp [zeroValue, run_info h, hz]
theorem run_agg {d : TypeDesc} (h : P.underlying t = some d) : (isAgg t).run P w = .ok (aggD d) w := by
  simp only [isAgg, Sem.run_bind, run_und h, Result.andThen_ok]
  cases d <;> rfl
theorem kind_agg {d : TypeDesc} {z : AV} (h : kindB d z = true) : aggD d = false := by
  unfold kindB at h
  split at h <;> first | rfl | simp at h
end
section
variable {g : Gh} {w : World}
theorem strOk_le {s : ByteArray} (h : strOk s = true) : s.size ≤ 9223372036854775807 := by
  unfold strOk at h
  have := Nat.le_of_ble_eq_true h
  rw [Array.length_toList] at this
  exact this
theorem const_AVR {x : AV} {v : Value} (h : constB x v = true) : AVR g w x v := by
  unfold constB at h
  split at h
  · simp only [Bool.and_eq_true, beq_iff_eq] at h
    exact ⟨[], ⟨by rw [h.1, h.2], rfl⟩, by simp⟩
  · simp only [beq_iff_eq] at h
    exact ⟨[], ⟨by rw [h], rfl⟩, by simp⟩
  · rename_i s s'
    simp only [Bool.and_eq_true, beq_iff_eq] at h
    have e : s = s' := by
      cases s; cases s'
      simpa using h.1
    exact ⟨[], ⟨by rw [e], rfl, strOk_le h.2⟩, by simp⟩
  · rfl
  · simp at h
theorem AVR.one {x : AV} {v : Value} (h : AVR g w x v) : v.oneCell' = true := by
  cases x with
  | c x => obtain ⟨L, h1, _⟩ := h; exact h1.one
  | row k => exact h.2
  | nil e m => simp [AVR] at h; simp [h, Value.oneCell']
  | dead => exact h
theorem cells_one {v : Value} (h : v.oneCell' = true) : v.cells = #[v] := by
  cases v <;> simp [Value.oneCell'] at h <;> rfl
theorem PVR.cells {a : Bool} {cs : List AV} {v : Value} (h : PVR g w a cs v) : ∃ vs : List Value, v.cells = vs.toArray ∧ All2 (AVR g w) cs vs := by
  cases a with
  | true => obtain ⟨vs, rfl, h2⟩ := h; exact ⟨vs, rfl, h2⟩
  | false => obtain ⟨x, rfl, h2⟩ := h; exact ⟨[v], by rw [cells_one h2.one], ⟨h2, trivial⟩⟩
theorem AVRs.one {cs : List AV} {vs : List Value} (h : All2 (AVR g w) cs vs) : ∀ u ∈ vs, u.oneCell' = true := by
  induction vs generalizing cs with
  | nil => simp
  | cons v r ih =>
    cases cs with
    | nil => exact h.elim
    | cons c cs =>
      intro u m
      rcases List.mem_cons.1 m with rfl | m
      · exact h.1.one
      · exact ih h.2 u m
end
theorem ba_list (x y : ByteArray) : (x.toList == y.toList) = decide (x = y) := by
  rw [Bool.eq_iff_iff]
  simp only [beq_iff_eq, decide_eq_true_eq]
  constructor
  · intro h
    have h' : x.data.toList = y.data.toList := by rw [← ByteArray.toList_eq, ← ByteArray.toList_eq]; exact h
    cases x; cases y
    simpa using h'
  · rintro rfl; rfl
end Go.Proofs.YtlkgkkacnoaeaaaGreatDoor

namespace Go.Proofs.YtlkgkkacnoaeaaaGreatDoor
open Go.RowKit
def Uk (U : Nat → Prop) (key : Nat) : Nat → Prop := fun k => U k ∨ (key ≤ k ∧ k < key + 16)
theorem avU.mono {U U' : Nat → Prop} (h : ∀ k, U k → U' k) {x : AV} (hx : avU U x) : avU U' x := by cases x <;> first | exact h _ hx | trivial
theorem avsU.mono {U U' : Nat → Prop} (h : ∀ k, U k → U' k) {x : List AV} (hx : avsU U x) : avsU U' x := fun y m => (hx y m).mono h
theorem svU.mono {U U' : Nat → Prop} (h : ∀ k, U k → U' k) {x : SV} (hx : svU U x) : svU U' x := by
  cases x <;> first | exact avsU.mono h hx | exact fun y m => avsU.mono h (hx y m) | exact h _ hx | trivial
theorem obU.mono {U U' : Nat → Prop} (h : ∀ k, U k → U' k) {x : Ob} (hx : obU U x) : obU U' x := by
  cases x <;> first | exact avsU.mono h hx | trivial
def Fin (P : Program) (W : Base) (U : Nat → Prop) (key : Nat) (st : St) (g : Gh) (w : World) (s : Sem Next) (r : SV × List (Nat × Ob)) : Prop :=
  ∃ g' cv w', (s.run P w = .ok (.value cv) w' ∨ (s.run P w = .ok .skip w' ∧ cv = undef)) ∧ HI W g' (updAll st.ob r.2) w' ∧ SVR g' w' r.1 cv ∧ (∀ x v, svU U x → SVR g w x v → SVR g' w' x v) ∧
    svU (Uk U key) r.1 ∧ (∀ k, obU (Uk U key) (updAll st.ob r.2 k)) ∧ ∀ k, ¬ Uk U key k → updAll st.ob r.2 k = .gone
section
variable {P : Program} {W : Base} {U : Nat → Prop} {key : Nat} {st : St} {g : Gh} {w : World} {a : Act} {tt : Nat → Option TI}
theorem fin_pure {s : Sem Next} {v : SV} {cv : Value} (hI : HI W g st.ob w) (hU : StU U st) (hrun : s.run P w = .ok (.value cv) w) (hv : SVR g w v cv) (hu : svU U v) : Fin P W U key st g w s (v, []) :=
  ⟨g, cv, w, .inl hrun, hI, hv, fun _ _ _ h => h, hu.mono fun _ => .inl, fun k => (hU.ob k).mono fun _ => .inl, fun k hk => hU.gone k fun h => hk (.inl h)⟩
theorem svU_c (x : CT) : svU U (.p false [.c x]) := fun y m => by simp at m; subst m; trivial
theorem SVR_int (k : IntKind) (n : Int) : SVR g w (.p false [.c (.int k n)]) (.int k n) := ⟨_, rfl, [], ⟨rfl, rfl⟩, by simp⟩
theorem SVR_bool (b : Bool) : SVR g w (.p false [.c (.bool b)]) (.bool b) := ⟨_, rfl, [], ⟨rfl, rfl⟩, by simp⟩
theorem SVR_str {s : ByteArray} (h : s.size ≤ 9223372036854775807) : SVR g w (.p false [.c (.str s)]) (.string s) := ⟨_, rfl, [], ⟨rfl, rfl, h⟩, by simp⟩
theorem int_of {k : IntKind} {n : Int} {v : Value} (h : SVR g w (.p false [.c (.int k n)]) v) : v = .int k n := by
  obtain ⟨x, hx, h⟩ := h; simp at hx; subst hx; obtain ⟨L, h1, _⟩ := h; exact h1.1
theorem bool_of {b : Bool} {v : Value} (h : SVR g w (.p false [.c (.bool b)]) v) : v = .bool b := by
  obtain ⟨x, hx, h⟩ := h; simp at hx; subst hx; obtain ⟨L, h1, _⟩ := h; exact h1.1
theorem str_of {s : ByteArray} {v : Value} (h : SVR g w (.p false [.c (.str s)]) v) : v = .string s ∧ s.size ≤ 9223372036854775807 := by
  obtain ⟨x, hx, h⟩ := h; simp at hx; subst hx; obtain ⟨L, h1, _⟩ := h; exact ⟨h1.1, h1.2.2⟩
theorem cv_ok {t : Nat} (htt : ∀ t i, tt t = some i → TOk P t i) (v : Value) : SVR g w (cvT (tt t) v) v ∧ svU U (cvT (tt t) v) := by
  unfold cvT
  split
  · exact ⟨SVR_int _ _, svU_c _⟩
  · exact ⟨SVR_bool _, svU_c _⟩
  · split
    · rename_i h; exact ⟨SVR_str (strOk_le h), svU_c _⟩
    · exact ⟨trivial, trivial⟩
  · split
    · exact ⟨⟨_, rfl, rfl⟩, fun y m => by simp at m; subst m; trivial⟩
    · exact ⟨trivial, trivial⟩
  · exact ⟨trivial, trivial⟩
theorem ev_ok (htt : ∀ t i, tt t = some i → TOk P t i) (hS : ∀ t, SVR g w (st.sl t) (a.tmps.getD t undef)) (hU : StU U st) (t : Nat) (x : Operand) :
    SVR g w (st.ev tt t x) (a.eval x) ∧ svU U (st.ev tt t x) := by
  cases x with
  | tmp s => exact ⟨hS s, hU.sl s⟩
  | const v => exact cv_ok htt v
  | global _ => exact ⟨trivial, trivial⟩
  | func f => exact ⟨rfl, trivial⟩
set_option maxHeartbeats 1000000 in
theorem bin_int {op : BinOp} {t : Nat} {ox oy : Operand} {k k' : IntKind} {n n' : Int} {z : CT} (hk : k = k' ∨ op = .shl ∨ op = .shr) (hz : intV op k n n' = some z) :
    ∃ cv, (do eqGuard op t ox oy (.int k n) (.int k' n'); binOp op t (.int k n) (.int k' n') : Sem Value).run P w = .ok cv w ∧ SVR g w (.p false [.c z]) cv := by
  have hg : (eqGuard op t ox oy (.int k n) (.int k' n')).run P w = .ok () w := by
    cases op <;> rfl
  simp only [Sem.run_bind, hg, Result.andThen_ok]
  cases op <;> simp only [intV, bitV, andI, orI, xorI, andNotI, shlI, shrI, Option.map_none, Option.map_some, Option.some.injEq, reduceCtorEq] at hz <;> (try subst hz) <;>
    (try (split at hz <;> simp only [Option.some.injEq, reduceCtorEq] at hz; subst hz)) <;>
    simp only [reduceCtorEq, or_false, or_true] at hk <;> (try subst hk) <;>
    first
      | (refine ⟨_, ?_, SVR_int _ _⟩; simp [binOp, Op.intArith, Op.intDiv, Op.intBits, Op.shift, *]; done)
      | (refine ⟨_, ?_, SVR_bool _⟩; simp [binOp, Op.intCmp]; done)
set_option maxHeartbeats 1000000 in
theorem bin_str {op : BinOp} {t : Nat} {ox oy : Operand} {s s' : ByteArray} {z : CT} (hz : strV op s s' = some z) :
    ∃ cv, (do eqGuard op t ox oy (.string s) (.string s'); binOp op t (.string s) (.string s') : Sem Value).run P w = .ok cv w ∧ SVR g w (.p false [.c z]) cv := by
  have hg : (eqGuard op t ox oy (.string s) (.string s')).run P w = .ok () w := by
    cases op <;> rfl
  simp only [Sem.run_bind, hg, Result.andThen_ok]
  cases op <;> simp only [strV, Option.some.injEq, reduceCtorEq] at hz <;> (try subst hz) <;>
    first
      | (refine ⟨_, ?_, SVR_bool _⟩; simp only [binOp, Op.stringOp, sLt, sEq, ← ba_list]; rfl)
      | (split at hz
         · rename_i hl
           simp only [Option.some.injEq] at hz
           subst hz
           refine ⟨_, ?_, SVR_str (by rw [ByteArray.size_append]; exact hl)⟩
           have hl' : ¬ ((s.size + s'.size : Nat) : Int) > IntKind.i64.max := by
             have : IntKind.i64.max = 9223372036854775807 := by decide
             omega
           simp only [binOp, Op.stringOp, hl', if_false]
           rfl
         · simp at hz)
theorem bin_bool {op : BinOp} {t : Nat} {ox oy : Operand} {b b' : Bool} {r : Bool} (ht : P.underlying t = some .bool) (hop : (op = .eql ∧ r = (b == b')) ∨ (op = .neq ∧ r = !(b == b'))) :
    (do eqGuard op t ox oy (.bool b) (.bool b'); binOp op t (.bool b) (.bool b') : Sem Value).run P w = .ok (.bool r) w := by
  have hg : (eqGuard op t ox oy (.bool b) (.bool b')).run P w = .ok () w := by
    cases op <;> rfl
  have he : (Op.equal t (.bool b) (.bool b')).run P w = .ok (b == b') w := by
    have key : ∀ d : Nat, (Op.equalIn (d + 1) t (.bool b) (.bool b')).run P w = .ok (b == b') w := fun d => by
      rw [Op.equalIn]
      simp only [Sem.run_bind, run_und ht, Result.andThen_ok, Sem.run_pure]
    exact key 9999
  simp only [Sem.run_bind, hg, Result.andThen_ok]
  rcases hop with ⟨rfl, rfl⟩ | ⟨rfl, rfl⟩
  · simp only [binOp, Sem.run_bind, he, Result.andThen_ok, Sem.run_pure]
  · simp only [binOp, Sem.run_bind, he, Result.andThen_ok, Sem.run_pure]
theorem bin_ok (htt : ∀ t i, tt t = some i → TOk P t i) {op : BinOp} {t : Nat} {ox oy : Operand} {x y v : SV} {vx vy : Value} (h : binV (tt t) op x y = some v) (hx : SVR g w x vx) (hy : SVR g w y vy) :
    ∃ cv, (do eqGuard op t ox oy vx vy; binOp op t vx vy : Sem Value).run P w = .ok cv w ∧ SVR g w v cv ∧ svU U v := by
  unfold binV at h
  split at h
  · have ex := int_of hx
    have ey := int_of hy
    subst ex ey
    split at h
    · rename_i hk
      obtain ⟨z, hz, rfl⟩ := Option.map_eq_some_iff.1 h
      obtain ⟨cv, h1, h2⟩ := bin_int (P := P) (g := g) (w := w) (t := t) (ox := ox) (oy := oy) hk hz
      exact ⟨cv, h1, h2, svU_c _⟩
    · simp at h
  · obtain ⟨ex, lx⟩ := str_of hx
    obtain ⟨ey, ly⟩ := str_of hy
    subst ex ey
    obtain ⟨z, hz, rfl⟩ := Option.map_eq_some_iff.1 h
    obtain ⟨cv, h1, h2⟩ := bin_str (P := P) (g := g) (w := w) (t := t) (ox := ox) (oy := oy) hz
    exact ⟨cv, h1, h2, svU_c _⟩
  · have ex := bool_of hx
    have ey := bool_of hy
    subst ex ey
    split at h
    · rename_i hti
      simp only [Option.some.injEq] at h
      subst h
      obtain ⟨d, zv, i, h1, h2, _⟩ := htt t _ hti
      have hd : d = .bool := by cases d <;> simp [kindB] at h2; rfl
      subst hd
      exact ⟨_, bin_bool h1 (.inl ⟨rfl, rfl⟩), SVR_bool _, svU_c _⟩
    · rename_i hti
      simp only [Option.some.injEq] at h
      subst h
      obtain ⟨d, zv, i, h1, h2, _⟩ := htt t _ hti
      have hd : d = .bool := by cases d <;> simp [kindB] at h2; rfl
      subst hd
      exact ⟨_, bin_bool h1 (.inr ⟨rfl, rfl⟩), SVR_bool _, svU_c _⟩
    · simp at h
  · simp at h
theorem kindP_agg {k : PK} {d : TypeDesc} (h : kindP k d = true) : aggD d = false := by
  unfold kindP at h
  split at h <;> first | rfl | simp at h
theorem eqC_ok {k : PK} {x y : AV} {vx vy : Value} {b : Bool} {t : Nat} {d : TypeDesc} (h : eqC k x y = some b) (hd : P.underlying t = some d) (hk : kindP k d = true) (hx : AVR g w x vx) (hy : AVR g w y vy) (n : Nat) : (Op.equalIn (n + 1) t vx vy).run P w = .ok b w := by
  unfold eqC at h
  split at h
  · split at h <;> simp only [Option.some.injEq, reduceCtorEq] at h
    rename_i kk; subst kk h
    obtain ⟨_, h1, _⟩ := hx; obtain ⟨_, h2, _⟩ := hy
    have e1 := h1.1; have e2 := h2.1; subst e1 e2
    cases d <;> simp [kindP] at hk
    exact run_equalIn_int w n t _ _ _ _ hd
  · simp only [Option.some.injEq] at h; subst h
    obtain ⟨_, h1, _⟩ := hx; obtain ⟨_, h2, _⟩ := hy
    have e1 := h1.1; have e2 := h2.1; subst e1 e2
    cases d <;> simp [kindP] at hk
    rw [run_equalIn_string w n t _ _ hd, sEq, ba_list]
  · simp only [Option.some.injEq] at h; subst h
    obtain ⟨_, h1, _⟩ := hx; obtain ⟨_, h2, _⟩ := hy
    have e1 := h1.1; have e2 := h2.1; subst e1 e2
    cases d <;> simp [kindP] at hk
    exact run_equalIn_bool' w n t _ _ hd
  · simp at h
theorem eqCs_ok (n : Nat) {X Y : Array Value} : ∀ {ks : List PK} {fs : List Field} {o : Nat} {xs ys : List AV} {vx vy : List Value} {b : Bool}, eqCs ks xs ys = some b → EqF P ks fs o → All2 (AVR g w) xs vx → All2 (AVR g w) ys vy → (∀ j v, vx[j]? = some v → X[o + j]? = some v) → (∀ j v, vy[j]? = some v → Y[o + j]? = some v) → (Op.eqFields (n + 1) X Y fs).run P w = .ok b w
  | [], [], _, [], [], _, _, b, h, _, _, _, _, _ => by simp [eqCs] at h; subst h; simp [Op.eqFields]
  | k :: ks, f :: fs, o, x :: xs, y :: ys, [], _, _, _, _, hx, _, _, _ => hx.elim
  | k :: ks, f :: fs, o, x :: xs, y :: ys, _ :: _, [], _, _, _, _, hy, _, _ => hy.elim
  | k :: ks, f :: fs, o, x :: xs, y :: ys, u :: vx, v :: vy, b, h, hf, hx, hy, hX, hY => by
    simp only [eqCs] at h
    obtain ⟨b1, h1, h⟩ := Option.bind_eq_some_iff.1 h
    obtain ⟨b2, h2, rfl⟩ := Option.map_eq_some_iff.1 h
    obtain ⟨f1, f2, ⟨d, f3, f4⟩, f5⟩ := hf
    have e1 := eqC_ok h1 f3 f4 hx.1 hy.1 n
    have e2 := eqCs_ok n h2 f5 hx.2 hy.2 (fun j v hj => by have := hX (j + 1) v (by simpa using hj); rwa [show o + (j + 1) = o + 1 + j by omega] at this) (fun j v hj => by have := hY (j + 1) v (by simpa using hj); rwa [show o + (j + 1) = o + 1 + j by omega] at this)
    have p1 : (part f.type X f.offset).run P w = .ok u w := by
      have := hX 0 u (by simp)
      simp only [part, Sem.run_bind, run_agg f3, kindP_agg f4, Result.andThen_ok]
      rw [f2]; simp at this; simp [this]
    have p2 : (part f.type Y f.offset).run P w = .ok v w := by
      have := hY 0 v (by simp)
      simp only [part, Sem.run_bind, run_agg f3, kindP_agg f4, Result.andThen_ok]
      rw [f2]; simp at this; simp [this]
    simp only [Op.eqFields, f1, ne_eq, not_false_eq_true, if_true, Sem.run_bind, p1, p2, e1, Result.andThen_ok]
    cases b1
    · simp
    · simpa using e2
  | [], _ :: _, _, _, _, _, _, _, _, hf, _, _, _, _ => hf.elim
  | _ :: _, [], _, _, _, _, _, _, _, hf, _, _, _, _ => hf.elim
  | [], [], _, _ :: _, _, _, _, _, h, _, _, _, _, _ => by simp [eqCs] at h
  | [], [], _, [], _ :: _, _, _, _, h, _, _, _, _, _ => by simp [eqCs] at h
  | _ :: _, _ :: _, _, [], _, _, _, _, h, _, _, _, _, _ => by simp [eqCs] at h
  | _ :: _, _ :: _, _, _ :: _, [], _, _, _, h, _, _, _, _, _ => by simp [eqCs] at h
theorem eqRes_ok {op : BinOp} {b : Bool} {v : SV} (h : eqRes op b = some v) : (op = .eql ∧ v = .p false [.c (.bool b)]) ∨ (op = .neq ∧ v = .p false [.c (.bool (!b))]) := by
  unfold eqRes at h
  split at h <;> simp only [Option.some.injEq, reduceCtorEq] at h <;> subst h
  · exact .inl ⟨rfl, rfl⟩
  · exact .inr ⟨rfl, rfl⟩
theorem agg_ok (htt : ∀ t i, tt t = some i → TOk P t i) {op : BinOp} {t : Nat} {ox oy : Operand} {x y v : SV} {vx vy : Value} (h : aggV (tt (t + 4000)) op x y = some v) (hx : SVR g w x vx) (hy : SVR g w y vy) :
    ∃ cv, (do eqGuard op t ox oy vx vy; binOp op t vx vy : Sem Value).run P w = .ok cv w ∧ SVR g w v cv ∧ svU U v := by
  unfold aggV at h
  split at h
  · obtain ⟨ks, hks, h'⟩ := Option.bind_eq_some_iff.1 h
    obtain ⟨b, hb, h''⟩ := Option.bind_eq_some_iff.1 h'
    have hti : tt (t + 4000) = some (.eqs ks) := by
      unfold eqsTI at hks
      split at hks <;> simp only [Option.some.injEq, reduceCtorEq] at hks
      rename_i hti
      rw [hti, hks]
    obtain ⟨u, e, h1, h2, h3, h4⟩ := htt _ _ hti
    have e : t = u := Nat.add_right_cancel e
    subst e
    obtain ⟨us, rfl, hus⟩ := hx
    obtain ⟨vs, rfl, hvs⟩ := hy
    have hq := eqCs_ok (X := us.toArray) (Y := vs.toArray) 9998 hb h4 hus hvs (fun j v hj => by simpa using hj) (fun j v hj => by simpa using hj)
    have hg := run_eqGuard_agg (P := P) w op t ox oy us.toArray vs.toArray h3
    rcases eqRes_ok h'' with ⟨rfl, rfl⟩ | ⟨rfl, rfl⟩
    · refine ⟨_, ?_, SVR_bool b, svU_c _⟩
      simp only [Sem.run_bind, hg, Result.andThen_ok, run_eql_struct, run_equalIn_struct w 9999 t _ _ h1 h2, hq]
    · refine ⟨_, ?_, SVR_bool (!b), svU_c _⟩
      simp only [Sem.run_bind, hg, Result.andThen_ok, run_neq_struct, run_equalIn_struct w 9999 t _ _ h1 h2, hq]
  · simp at h
theorem ifc_of {b : Bool} {v : Value} (h : SVR g w (.p false [.c (.ifc b)]) v) : (b = true ∧ v = .nilIface) ∨ (b = false ∧ ∃ t x, v = .iface t x) := by
  obtain ⟨x, hx, h⟩ := h; simp at hx; subst hx; obtain ⟨L, h1, _⟩ := h
  have h2 := h1.2.2
  cases b with
  | true => exact .inl ⟨rfl, h2⟩
  | false => exact .inr ⟨rfl, h2⟩
theorem bino_ok (htt : ∀ t i, tt t = some i → TOk P t i) {op : BinOp} {t : Nat} {ox oy : Operand} {x y v : SV} {vx : Value} (h : binO tt t (isNilC oy) op x y = some v) (hx : SVR g w x vx) (hy : SVR g w y (a.eval oy)) :
    ∃ cv, (do eqGuard op t ox oy vx (a.eval oy); binOp op t vx (a.eval oy) : Sem Value).run P w = .ok cv w ∧ SVR g w v cv ∧ svU U v := by
  unfold binO at h
  split at h
  · rename_i hn
    have ho : oy = .const .nilIface := by
      cases oy with
      | const c => cases c <;> first | rfl | (simp [isNilC, isNilV] at hn; done)
      | _ => simp [isNilC] at hn
    subst ho
    split at h
    rotate_left
    · simp at h
    rename_i hif
    have hti : tt t = some .ifc := by
      unfold isIfc at hif
      split at hif
      · assumption
      · simp at hif
    obtain ⟨ms, hms⟩ := htt _ _ hti
    unfold nilV at h
    split at h
    · rename_i b
      have hb := ifc_of hx
      have hev : a.eval (.const .nilIface) = .nilIface := rfl
      rw [hev]
      have hg : ∀ v : Value, (v = .nilIface ∨ ∃ t x, v = .iface t x) → (eqGuard op t ox (.const .nilIface) v .nilIface).run P w = .ok () w := fun v hv => by
        rcases hv with rfl | ⟨t', x', rfl⟩
        · simp only [eqGuard]
          cases ox <;> cases op <;> rfl
        · simp only [eqGuard]
          cases op <;> rfl
      have he : (Op.equal t vx .nilIface).run P w = .ok b w := by
        show (Op.equalIn (9999 + 1) t _ _).run P w = _
        rw [Op.equalIn]
        rcases hb with ⟨rfl, rfl⟩ | ⟨rfl, t', x', rfl⟩
        · simp only [Sem.run_bind, run_und hms, Result.andThen_ok, Sem.run_pure]
        · simp only [Sem.run_bind, run_und hms, Result.andThen_ok, Sem.run_pure]
      have hg' := hg vx (hb.imp (fun h => h.2) (fun h => h.2))
      rcases eqRes_ok h with ⟨rfl, rfl⟩ | ⟨rfl, rfl⟩
      · refine ⟨_, ?_, SVR_bool b, svU_c _⟩
        simp only [Sem.run_bind, hg', Result.andThen_ok]
        rcases hb with ⟨rfl, rfl⟩ | ⟨rfl, t', x', rfl⟩ <;> simp only [binOp, Sem.run_bind, he, Result.andThen_ok, Sem.run_pure]
      · refine ⟨_, ?_, SVR_bool (!b), svU_c _⟩
        simp only [Sem.run_bind, hg', Result.andThen_ok]
        rcases hb with ⟨rfl, rfl⟩ | ⟨rfl, t', x', rfl⟩ <;> simp only [binOp, Sem.run_bind, he, Result.andThen_ok, Sem.run_pure]
    · simp at h
  · split at h
    · exact agg_ok htt h hx hy
    · exact bin_ok htt h hx hy
theorem un_ok {op : UnOp} {x v : SV} {vx : Value} (h : unV op x = some v) (hx : SVR g w x vx) : ∃ cv, (Op.unary op vx).run P w = .ok cv w ∧ SVR g w v cv ∧ svU U v := by
  unfold unV at h
  split at h
  · have ex := bool_of hx
    subst ex
    split at h <;> simp at h
    subst h
    exact ⟨_, by simp [Op.unary], SVR_bool _, svU_c _⟩
  · have ex := int_of hx
    subst ex
    split at h <;> simp at h
    subst h
    exact ⟨_, by simp [Op.unary, Op.intArith], SVR_int _ _, svU_c _⟩
  · simp at h
end
end Go.Proofs.YtlkgkkacnoaeaaaGreatDoor

namespace Go.Proofs.YtlkgkkacnoaeaaaGreatDoor
open Go.RowKit
section
variable {P : Program} {W : Base} {U : Nat → Prop} {key : Nat} {st : St} {g : Gh} {w : World} {a : Act} {tt : Nat → Option TI}
theorem tt_und {t : Nat} {z : AV} (htt : ∀ t i, tt t = some i → TOk P t i) (h : tt t = some (.atom z)) : ∃ d, P.underlying t = some d := by
  obtain ⟨d, _, _, h, _⟩ := htt t _ h; exact ⟨d, h⟩
theorem isSlice_und {t : Nat} (htt : ∀ t i, tt t = some i → TOk P t i) (h : isSlice (tt t) = true) : ∃ e, P.underlying t = some (.slice e) := by
  unfold isSlice at h
  split at h
  · rename_i h1; exact ⟨_, (htt t _ h1).1⟩
  · simp at h
theorem isStr_und {t : Nat} (htt : ∀ t i, tt t = some i → TOk P t i) (h : isStr (tt t) = true) : P.underlying t = some .string := by
  unfold isStr at h
  split at h
  · rename_i h1
    obtain ⟨d, zv, i, h2, h3, _⟩ := htt t _ h1
    have hd : d = .string := by cases d <;> simp [kindB] at h3; rfl
    rw [hd] at h2; exact h2
  · simp at h
theorem conv_ok (htt : ∀ t i, tt t = some i → TOk P t i) {s t : Nat} {x v : SV} {vx : Value} (h : convV (tt s) (tt t) x = some v) (hx : SVR g w x vx) : ∃ cv, (convert s t vx).run P w = .ok cv w ∧ SVR g w v cv ∧ svU U v := by
  unfold convV at h
  split at h
  · have ex := int_of hx
    subst ex
    split at h
    · rename_i h1 h2
      simp only [Option.some.injEq] at h
      subst h
      obtain ⟨d, zv, i, h3, h4, _⟩ := htt t _ h2
      have hd : ∃ k, d = .int k := by cases d <;> simp [kindB] at h4; exact ⟨_, rfl⟩
      obtain ⟨k, rfl⟩ := hd
      simp only [kindB, beq_iff_eq] at h4
      subst h4
      obtain ⟨ds, hs⟩ := tt_und htt h1
      refine ⟨_, ?_, SVR_int _ _, svU_c _⟩
      simp [convert, run_und hs, run_und h3, Conv.intToInt]
    · simp at h
  · simp at h
theorem slice_of {e m : Nat} {xs : List (List CT)} {v : Value} (h : SVR g w (.p false [.c (.sl e m xs)]) v) : ∃ A cap cs L0 L1, v = .slice A xs.length cap ∧ xs.length ≤ cap ∧ cap ≤ maxLen ∧ 0 < m ∧ Sl w m A xs.length cs L0 ∧ REs w m xs cs L1 ∧ (∀ b ∈ L0 ++ L1, ¬ g.own b) := by
  obtain ⟨x, hx, h⟩ := h
  simp at hx
  subst hx
  obtain ⟨L, ⟨A, cap, cs, L0, L1, h1, h2, h3, h4, h5, h6, h7⟩, ho⟩ := h
  exact ⟨A, cap, cs, L0, L1, h1, h2, h3, h5, h6, h7, fun b m => ho b (h4 ▸ m)⟩
theorem row_of {k : Nat} {v : Value} (h : SVR g w (.p false [.row k]) v) : v = g.val k := by
  obtain ⟨x, hx, h⟩ := h; simp at hx; subst hx; exact h.1
theorem nil_of {e m : Nat} {v : Value} (h : SVR g w (.p false [.nil e m]) v) : v = .slice none 0 0 := by
  obtain ⟨x, hx, h⟩ := h; simp at hx; subst hx; exact h
theorem own_val {B e m n : Nat} {v : Value} {cs : List Value} (h : w.ownsV B e m v n cs) : ∃ A cap, v = .slice A n cap := by
  obtain ⟨A, c, hv, _⟩ := ownV_slice h
  exact ⟨A, c, hv⟩
theorem len_ok (htt : ∀ t i, tt t = some i → TOk P t i) (hI : HI W g st.ob w) {t : Nat} {ts : Array TypeId} {ty : TypeId} (hts : ts[0]? = some t) {x v : SV} {vx : Value} (h : lenV st (tt t) x = some v) (hx : SVR g w x vx) :
    ∃ cv, (Builtin.len_ ts ty #[vx]).run P w = .ok cv w ∧ SVR g w v cv ∧ svU U v := by
  have fin : ∀ (A : Option Addr) (n c : Nat), isSlice (tt t) = true → (Builtin.len_ ts ty #[.slice A n c]).run P w = .ok (.int .i64 n) w := fun A n c hs => by
    obtain ⟨e, he⟩ := isSlice_und htt hs
    simp [Builtin.len_, hts, run_und he, goInt]
  unfold lenV at h
  split at h
  · split at h <;> simp at h
    rename_i hs
    subst h
    obtain ⟨A, cap, _, _, _, rfl, _⟩ := slice_of hx
    exact ⟨_, fin _ _ _ hs, SVR_int _ _, svU_c _⟩
  · split at h <;> simp at h
    rename_i hs
    subst h
    obtain ⟨rfl, _⟩ := str_of hx
    refine ⟨_, ?_, SVR_int _ _, svU_c _⟩
    simp [Builtin.len_, hts, run_und (isStr_und htt hs), goInt]
  · split at h <;> simp at h
    rename_i hs
    subst h
    have := nil_of hx
    subst this
    exact ⟨_, fin _ _ _ hs, SVR_int _ _, svU_c _⟩
  · split at h
    · rename_i k _ e m xs d hk
      split at h <;> simp at h
      rename_i hs
      subst h
      have hv := row_of hx
      subst hv
      have ho := hI.obs k
      rw [hk] at ho
      obtain ⟨_, cs, L, h1, _⟩ := ho
      obtain ⟨A, cap, hv⟩ := own_val h1
      rw [hv]
      exact ⟨_, fin _ _ _ hs, SVR_int _ _, svU_c _⟩
    · simp at h
  · simp at h
theorem fold_bytes {f : Value → ByteArray → Sem (ForInStep ByteArray)} (hf : ∀ n s, f (.int .u8 n) s = pure (ForInStep.yield (s.push (UInt8.ofNat n.toNat)))) : ∀ (l : List Int) (s : ByteArray), (forIn (l.map fun n => Value.int .u8 n) s f).run P w = .ok ⟨s.data ++ (l.map fun n => UInt8.ofNat n.toNat).toArray⟩ w
  | [], s => by simp
  | n :: l, s => by
    have ih := fold_bytes hf l (s.push (UInt8.ofNat n.toNat))
    simp only [List.map_cons, List.forIn_cons, hf, Sem.run_bind, Sem.run_pure, Result.andThen_ok, ih]
    congr 2
    apply Array.ext'
    simp [ByteArray.push]
theorem run_bytes {b o cap : Nat} (l : List Int) (hc : ∀ j u, (l.map fun n => Value.int .u8 n)[j]? = some u → w.cell? ⟨b, o + j, none⟩ = some u) : (Conv.bytesToString (.slice (some ⟨b, o, none⟩) l.length cap)).run P w = .ok (.string (bytesS l)) w := by
  have h1 := run_loadCells_list (P := P) w ⟨b, o, none⟩ (l.map fun n => Value.int .u8 n) (fun j u hj => by rw [add_lit0]; exact hc j u hj)
  rw [List.length_map] at h1
  unfold Conv.bytesToString
  simp only [Sem.run_bind, h1, Result.andThen_ok, ← Array.forIn_toList]
  rw [fold_bytes (fun _ _ => rfl)]
  simp [bytesS, ByteArray.empty, ByteArray.emptyWithCapacity]
  rfl
theorem ints_cells {m : Nat} : ∀ {xs : List (List CT)} {l : List Int} {cs : List Value} {L : List Nat}, intsOf xs = some l → REs w m xs cs L → cs = l.map (fun n => Value.int .u8 n) ∧ xs.length = l.length
  | [], _, _, _, h, ⟨h1, _⟩ => by simp [intsOf] at h; subst h h1; simp
  | x :: r, l, _, _, h, ⟨c1, c2, L1, L2, rfl, rfl, h3, h4⟩ => by
    unfold intsOf at h
    split at h
    · rename_i he; simp at he
    · rename_i n r' he
      simp only [List.cons.injEq] at he
      obtain ⟨rfl, rfl⟩ := he
      obtain ⟨l', hl, rfl⟩ := Option.map_eq_some_iff.1 h
      obtain ⟨i1, i2⟩ := ints_cells hl h4
      obtain ⟨v, cs', _, _, rfl, rfl, a1, a2⟩ := h3.1
      obtain ⟨rfl, _⟩ := a2
      rw [a1.1, i1]
      exact ⟨rfl, by simp [i2]⟩
    · simp at h
theorem bytesS_size (l : List Int) : (bytesS l).size = l.length := by simp [bytesS, ByteArray.size]
theorem strOf_ok (htt : ∀ t i, tt t = some i → TOk P t i) (hI : HI W g st.ob w) {s t : Nat} {x v : SV} {vx : Value} (hst : isStr (tt t) = true) (hby : byteTI (elemTI tt (tt s)) = true) (h : strOf st x = some v) (hx : SVR g w x vx) : ∃ cv, (convert s t vx).run P w = .ok cv w ∧ SVR g w v cv ∧ svU U v := by
  have ht := isStr_und htt hst
  have hs : ∃ e, P.underlying s = some (.slice e) ∧ P.underlying e = some (.int .u8) := by
    unfold elemTI at hby
    split at hby
    · rename_i e m b z hti
      have h1 := (htt _ _ hti).1
      unfold byteTI at hby
      split at hby
      · rename_i hte
        obtain ⟨d, zv, i, h2, h3, _⟩ := htt _ _ hte
        cases d <;> simp [kindB] at h3
        subst h3
        exact ⟨e, h1, h2⟩
      · simp at hby
    · simp [byteTI] at hby
  obtain ⟨e, hs, he⟩ := hs
  have go : ∀ A n c, (convert s t (.slice A n c)).run P w = (Conv.bytesToString (.slice A n c)).run P w := fun A n c => by
    unfold convert
    simp only [Sem.run_bind, run_und hs, run_und ht, run_und he, Result.andThen_ok]
  have fin : ∀ (A : Option Addr) (n cap : Nat) (cs : List Value) (L : List Nat) (xs : List (List CT)) (l : List Int) (m : Nat), n = xs.length → 0 < m → intsOf xs = some l → REs w m xs cs L → n ≤ 9223372036854775807 → (n = 0 ∨ ∃ b o, A = some ⟨b, o, none⟩ ∧ CellsAt w b o cs) → ∃ cv, (convert s t (.slice A n cap)).run P w = .ok cv w ∧ SVR g w (.p false [.c (.str (bytesS l))]) cv ∧ svU U (.p false [.c (.str (bytesS l))]) := by
    intro A n cap cs L xs l m hn hm hl hR hsz hA
    obtain ⟨i1, i2⟩ := ints_cells hl hR
    have hsz' : (bytesS l).size ≤ 9223372036854775807 := by rw [bytesS_size]; omega
    refine ⟨.string (bytesS l), ?_, SVR_str hsz', svU_c _⟩
    rw [go]
    rcases hA with h0 | ⟨b, o, rfl, hc⟩
    · have : l = [] := List.eq_nil_of_length_eq_zero (by omega)
      subst this
      cases A with
      | none => rfl
      | some a =>
        have h1 := run_loadCells_list (P := P) w a [] (by simp)
        rw [h0]
        unfold Conv.bytesToString
        simp only [List.length_nil] at h1
        simp only [Sem.run_bind, h1, Result.andThen_ok]
        rfl
    · rw [hn, i2]
      exact run_bytes l fun j u hj => hc j u (by rw [i1]; exact hj)
  unfold strOf at h
  split at h
  · split at h
    · rename_i k _ e' m xs d hk
      obtain ⟨l, hl, rfl⟩ := Option.map_eq_some_iff.1 h
      have hv := row_of hx
      have ho := hI.obs k
      rw [hk] at ho
      obtain ⟨hm, cs, L, h1, h2, _⟩ := ho
      rw [hv]
      rcases h1.2 with ⟨h3, h4⟩ | ⟨b, o, cap, cur, h3, h4, h5, h6, h7, h8, h9⟩
      · rw [h3]
        exact fin _ _ _ cs L xs l m (by omega) hm hl h2 (by omega) (.inl rfl)
      · rw [h3]
        refine fin _ _ _ cs L xs l m rfl hm hl h2 (by unfold maxLen at h7; omega) (.inr ⟨b, o, rfl, fun j u hj => ?_⟩)
        exact ownsV_at h1 h3 j u hj
    · simp at h
  · obtain ⟨l, hl, rfl⟩ := Option.map_eq_some_iff.1 h
    obtain ⟨A, cap, cs, L0, L1, rfl, h2, h3, h5, h6, h7, _⟩ := slice_of hx
    rename_i e' m' xs _
    refine fin _ _ _ cs L1 xs l _ rfl h5 hl h7 (by unfold maxLen at h3; omega) ?_
    rcases Nat.eq_zero_or_pos xs.length with h0 | h0
    · exact .inl h0
    · obtain ⟨b, off, h8, h9, hc⟩ := h6.at_ h0
      exact .inr ⟨b, off, h8, hc⟩
  · simp at h
theorem convO_ok (htt : ∀ t i, tt t = some i → TOk P t i) (hI : HI W g st.ob w) {s t : Nat} {x v : SV} {vx : Value} (h : convO tt st s t x = some v) (hx : SVR g w x vx) : ∃ cv, (convert s t vx).run P w = .ok cv w ∧ SVR g w v cv ∧ svU U v := by
  unfold convO at h
  split at h
  · rename_i hc
    simp only [Bool.and_eq_true] at hc
    exact strOf_ok htt hI hc.1 hc.2 h hx
  · exact conv_ok htt h hx
theorem RCs.avr {e : List CT} {cs : List Value} {L : List Nat} : RCs w e cs L → (∀ b ∈ L, ¬ g.own b) → All2 (AVR g w) (e.map .c) cs := by
  induction e generalizing cs L with
  | nil => intro h _; obtain ⟨rfl, rfl⟩ := h; trivial
  | cons x r ih =>
    rintro ⟨v, cs', L1, L2, rfl, rfl, h1, h2⟩ ho
    exact ⟨⟨L1, h1, fun b m => ho b (by simp [m])⟩, ih h2 fun b m => ho b (by simp [m])⟩
theorem svU_cs (a : Bool) (e : List CT) : avsU U (e.map AV.c) := fun y m => by
  obtain ⟨x, _, rfl⟩ := List.mem_map.1 m; trivial
/-- cells that lie from (b, lo) on, cut as a value of a type -/
theorem cut_ok (htt : ∀ t i, tt t = some i → TOk P t i) {t b lo off : Nat} {cs : List AV} {vs : List Value} {v : SV} (h : cut (tt t) cs off = some v) (hc : CellsAt w b lo vs) (hr : All2 (AVR g w) cs vs) (hu : avsU U cs) :
    ∃ cv, (Instr.loadAt t (.pointer (some ⟨b, lo + off, none⟩))).run P w = .ok cv w ∧ SVR g w v cv ∧ svU U v := by
  have hlen := hr.len
  have one : ∀ d, P.underlying t = some d → aggD d = false → ∀ x, cs[off]? = some x → ∃ cv, (Instr.loadAt t (.pointer (some ⟨b, lo + off, none⟩))).run P w = .ok cv w ∧ SVR g w (.p false [x]) cv ∧ svU U (.p false [x]) := fun d hd ha x hx => by
    obtain ⟨u, h1, h2⟩ := hr.at hx
    refine ⟨u, ?_, ⟨x, rfl, h2⟩, fun y m => by simp at m; subst m; exact hu y (List.mem_of_getElem? hx)⟩
    simp [Instr.loadAt, Instr.sureAddr, loadVar, run_agg hd, ha, load, Sem.run, hc off u h1]
  unfold cut at h
  split at h
  · rename_i fs n z hti
    split at h <;> simp at h
    rename_i hn
    subst h
    obtain ⟨fields, i, zvs, h1, h2, h3, _⟩ := htt t _ hti
    refine ⟨.agg ((vs.drop off).take n).toArray, ?_, ⟨_, rfl, (hr.drop off).take n⟩, fun y m => hu y (List.mem_of_mem_drop (List.mem_of_mem_take m))⟩
    have hl : ((vs.drop off).take n).length = i.size := by simp; omega
    have hload := run_loadCells_list (P := P) w ⟨b, lo + off, none⟩ ((vs.drop off).take n) (fun j u hj => by
      rw [add_lit0, Nat.add_assoc]
      refine hc _ u ?_
      have hjn : j < n := by
        have := (List.getElem?_eq_some_iff.1 hj).1
        simp at this; omega
      rw [List.getElem?_take, if_pos hjn, List.getElem?_drop] at hj
      exact hj)
    rw [hl] at hload
    simp [Instr.loadAt, Instr.sureAddr, loadVar, run_agg h1, aggD, run_size h2, hload]
  · simp at h
  · rename_i i hti hne hns
    obtain ⟨x, hx, rfl⟩ := Option.map_eq_some_iff.1 h
    cases i with
    | atom z => obtain ⟨d, zv, i, h1, h2, _⟩ := htt t _ hns; exact one d h1 (kind_agg h2) x hx
    | strct fs n z => exact absurd rfl (hti _ _ _)
    | slice e m b z => exact one _ (htt t _ hns).1 rfl x hx
    | map kk vk =>
      obtain ⟨kt, et, _, _, _, _, h1, _⟩ := htt t _ hns
      exact one _ h1 rfl x hx
    | ifc => obtain ⟨ms, h1⟩ := htt t _ hns; exact one _ h1 rfl x hx
    | eqs ks => exact absurd rfl (hne _)
  · simp at h
end
end Go.Proofs.YtlkgkkacnoaeaaaGreatDoor

namespace Go.Proofs.YtlkgkkacnoaeaaaGreatDoor
open Go.RowKit
section
variable {P : Program} {W : Base} {U : Nat → Prop} {key : Nat} {st : St} {g : Gh} {w : World} {a : Act} {tt : Nat → Option TI}
/-- what a live row's elements lead to is no block that is written to -/
theorem HI.deep {ob : Nat → Ob} {k e m : Nat} {xs : List (List CT)} {d : Nat} (hI : HI W g ob w) (hk : ob k = .row e m xs d) : 0 < m ∧ ∃ cs L, w.ownsV 0 e m (g.val k) xs.length cs ∧ REs w m xs cs L ∧ (∀ b ∈ L, ¬ g.own b) ∧ ((d = 2 ∧ g.O k = (g.val k).ownBlock.toList ∧ g.D k = L) ∨ (d = 1 ∧ g.O k = (g.val k).ownBlock.toList ∧ g.D k = []) ∨ (d = 0 ∧ g.O k = [] ∧ g.D k = [] ∧ ∀ b ∈ (g.val k).ownBlock.toList, ¬ g.own b)) := by
  have ho := hI.obs k
  rw [hk] at ho
  obtain ⟨hm, cs, L, h1, h2, h4⟩ := ho
  refine ⟨hm, cs, L, h1, h2, ?_, ?_⟩
  · rcases h4 with ⟨_, _, h4⟩ | ⟨_, _, _, h4⟩ | ⟨_, _, _, h4⟩
    · rintro b mb (⟨j, mj⟩ | hz)
      · by_cases hjk : j = k
        · subst hjk
          have := hI.nodup j
          rw [List.nodup_append] at this
          exact this.2.2 b mj b (h4 ▸ mb) rfl
        · exact hI.apart j k hjk b (by simp [mj]) (by simp [h4, mb])
      · exact hI.nz (k := k) (by simp [h4, mb]) hz
    · exact h4
    · exact fun b mb => h4 b (by simp [mb])
  · rcases h4 with h4 | ⟨q1, q2, q3, _⟩ | ⟨q1, q2, q3, q4⟩
    · exact .inl h4
    · exact .inr (.inl ⟨q1, q2, q3⟩)
    · exact .inr (.inr ⟨q1, q2, q3, fun b mb => q4 b (by simp [mb])⟩)
/-- of a row that is the call's own: the block that it writes to -/
theorem HI.deepO {ob : Nat → Ob} {k e m : Nat} {xs : List (List CT)} {d : Nat} (hI : HI W g ob w) (hk : ob k = .row e m xs d) (hd : ¬ d = 0) : 0 < m ∧ ∃ cs L, w.ownsV 0 e m (g.val k) xs.length cs ∧ REs w m xs cs L ∧ (∀ b ∈ L, ¬ g.own b) ∧ g.O k = (g.val k).ownBlock.toList ∧ ((d = 2 ∧ g.D k = L) ∨ (d = 1 ∧ g.D k = [])) := by
  obtain ⟨hm, cs, L, h1, h2, h3, h4⟩ := hI.deep hk
  refine ⟨hm, cs, L, h1, h2, h3, ?_⟩
  rcases h4 with ⟨q1, q2, q3⟩ | ⟨q1, q2, q3⟩ | ⟨q1, _⟩
  · exact ⟨q2, .inl ⟨q1, q3⟩⟩
  · exact ⟨q2, .inr ⟨q1, q3⟩⟩
  · exact absurd q1 hd
theorem REs.at {m : Nat} : ∀ {xs : List (List CT)} {cs : List Value} {L : List Nat} {i : Nat} {e : List CT}, REs w m xs cs L → xs[i]? = some e →
    ∃ c L', RCs w e c L' ∧ c.length = m ∧ (∀ b ∈ L', b ∈ L) ∧ ∀ j u, c[j]? = some u → cs[i * m + j]? = some u
  | [], _, _, _, _, _, h => by simp at h
  | x :: r, _, _, 0, e, ⟨c1, c2, L1, L2, rfl, rfl, h3, h4⟩, h => by
    simp at h; subst h
    exact ⟨c1, L1, h3.1, h3.2, fun b mb => by simp [mb], fun j u hu => by
      rw [Nat.zero_mul, Nat.zero_add, List.getElem?_append_left (List.getElem?_eq_some_iff.1 hu).1]; exact hu⟩
  | x :: r, _, _, i + 1, e, ⟨c1, c2, L1, L2, rfl, rfl, h3, h4⟩, h => by
    obtain ⟨c, L', a1, a2, a3, a4⟩ := REs.at h4 (i := i) (e := e) (by simpa using h)
    refine ⟨c, L', a1, a2, fun b mb => by simp [a3 b mb], fun j u hu => ?_⟩
    have hl := h3.2
    rw [List.getElem?_append_right (by rw [Nat.add_mul]; omega)]
    rw [← a4 j u hu]
    congr 1
    rw [hl, Nat.add_mul]; omega
theorem REs.len {m : Nat} : ∀ {xs : List (List CT)} {cs : List Value} {L : List Nat}, REs w m xs cs L → cs.length = xs.length * m
  | [], _, _, h => by simp [h.1]
  | x :: r, _, _, ⟨c1, c2, L1, L2, rfl, rfl, h3, h4⟩ => by simp [h3.2, REs.len h4, Nat.add_mul]; omega
theorem idx_ok (htt : ∀ t i, tt t = some i → TOk P t i) (hI : HI W g st.ob w) (hU : StU U st) {t e m bytes : Nat} {z : List AV} (hti : tt t = some (.slice e m bytes z)) {x i v : SV} {vx vi : Value} (h : idxAddr st m x i = some v) (hx : SVR g w x vx) (hxu : svU U x) (hi : SVR g w i vi) :
    ∃ cv, (Instr.indexAt t vx vi).run P w = .ok cv w ∧ SVR g w v cv ∧ svU U v := by
  obtain ⟨hu, hm, _, ⟨ie, zv, hie, hsz, _⟩, _⟩ := htt t _ hti
  have run : ∀ (b o n c : Nat) (k : IntKind) (q : Int), 0 ≤ q → q < n → (Instr.indexAt t (.slice (some ⟨b, o, none⟩) n c) (.int k q)).run P w = .ok (.pointer (some ⟨b, o + q.toNat * m, none⟩)) w := fun b o n c k q h0 h1 => by
    simp [Instr.indexAt, asIntOf, run_und hu, h0, h1, run_size hie, hsz, add_lit0]
  unfold idxAddr at h
  split at h
  · have ei := int_of hi
    subst ei
    split at h
    · rename_i hq
      obtain ⟨x, hx1, rfl⟩ := Option.map_eq_some_iff.1 h
      obtain ⟨A, cap, cs, L0, L1, rfl, h2, h3, h5, h6, h7, ho⟩ := slice_of hx
      obtain ⟨h0, rfl⟩ := hq
      have hlt := (List.getElem?_eq_some_iff.1 hx1).1
      obtain ⟨b, off, rfl, rfl, hc⟩ := h6.at_ (by omega)
      obtain ⟨c, L', a1, a2, a3, a4⟩ := h7.at hx1
      refine ⟨_, run b off _ _ _ _ h0 (by omega), ⟨b, off + _, c, L', by rw [Nat.add_zero], fun j u hj => ?_, a1, fun y my => ?_, ?_⟩, trivial⟩
      · rw [Nat.add_assoc]; exact hc _ u (a4 j u hj)
      · rcases List.mem_cons.1 my with rfl | my
        · exact ho _ (by simp)
        · exact ho _ (by simp [a3 y my])
      · exact h6.lt h5 b (by simp)
    · simp at h
  · rename_i k _ _
    have ei := int_of hi
    subst ei
    split at h
    · rename_i e' m' xs d hk
      split at h
      · rename_i hq
        obtain ⟨h0, h1, rfl⟩ := hq
        simp only [Option.some.injEq] at h
        subst h
        have hv := row_of hx
        subst hv
        obtain ⟨_, cs, L, o1, _⟩ := hI.deep hk
        rcases o1.2 with ⟨_, hn⟩ | ⟨b, o, cap, cur, hv, _⟩
        · omega
        · refine ⟨_, by rw [hv]; exact run b o _ _ _ _ h0 h1, ⟨b, o, _, _, hv, by simp⟩, by have := hxu (.row k) (by simp); exact this⟩
      · simp at h
    · simp at h
  · simp at h
theorem idxs_ok (htt : ∀ t i, tt t = some i → TOk P t i) {t : Nat} {x i v : SV} {vx vi : Value} (h : idxStr (tt t) x i = some v) (hx : SVR g w x vx) (hi : SVR g w i vi) :
    ∃ cv, (Instr.index t vx vi).run P w = .ok cv w ∧ SVR g w v cv ∧ svU U v := by
  unfold idxStr at h
  split at h
  · have ei := int_of hi
    subst ei
    obtain ⟨rfl, _⟩ := str_of hx
    split at h
    · rename_i hq
      obtain ⟨b, hb, rfl⟩ := Option.map_eq_some_iff.1 h
      refine ⟨_, ?_, SVR_int _ _, svU_c _⟩
      simp [Instr.index, asIntOf, run_und (isStr_und htt hq.2), hq.1, hb]
    · simp at h
  · simp at h
theorem pt_of {e : List CT} {v : Value} (h : SVR g w (.p false [.c (.pt e)]) v) : ∃ b cs L, v = .pointer (some ⟨b, 0, none⟩) ∧ b < w.heap.size ∧ CellsAt w b 0 cs ∧ RCs w e cs L ∧ ∀ x ∈ b :: L, ¬ g.own x := by
  obtain ⟨x, hx, h⟩ := h
  simp at hx
  subst hx
  obtain ⟨_, ⟨b, cs, L, h1, h2, rfl, h4, h5⟩, ho⟩ := h
  exact ⟨b, cs, L, h1, h2, h4, h5, ho⟩
theorem load_ok (htt : ∀ t i, tt t = some i → TOk P t i) (hI : HI W g st.ob w) (hU : StU U st) {t : Nat} {x v : SV} {vx : Value} (h : loadV st (tt t) x = some v) (hx : SVR g w x vx) :
    ∃ cv, (Instr.loadAt t vx).run P w = .ok cv w ∧ SVR g w v cv ∧ svU U v := by
  unfold loadV at h
  split at h
  · rename_i k off
    split at h
    · rename_i tb cs hk
      obtain ⟨b, h1, rfl⟩ := hx
      have ho := hI.obs k
      rw [hk] at ho
      obtain ⟨b', vs, o1, o2, o3, o4, o5⟩ := ho
      have hb : b = b' := by rw [o1] at h1; simpa using h1.symm
      subst hb
      have hu := hU.ob k
      rw [hk] at hu
      have hc : CellsAt w b 0 vs := fun j u hj => by
        rw [Nat.zero_add, cell_of_row w b j vs.toArray tb (0, 0) o4]; simpa using hj
      have := cut_ok (P := P) htt h hc o5 hu
      simpa using this
    · simp at h
  · rename_i k m i off
    split at h
    · rename_i e m' xs d hk
      obtain ⟨x, hx1, h'⟩ := Option.bind_eq_some_iff.1 h
      obtain ⟨b, o, n, c, h1, rfl⟩ := hx
      obtain ⟨hm, cs, L, o1, o2, o3, _⟩ := hI.deep hk
      split at h'
      · rename_i hmm
        subst hmm
        obtain ⟨c', L', a1, a2, a3, a4⟩ := o2.at hx1
        have hc : CellsAt w b (o + i * m) c' := fun j u hj => by
          rw [Nat.add_assoc]
          exact ownsV_at o1 h1 (i * m + j) u (a4 j u hj)
        rw [← Nat.add_assoc]
        exact cut_ok htt h' hc (a1.avr fun y my => o3 y (a3 y my)) (svU_cs true _)
      · simp at h'
    · simp at h
  · obtain ⟨b, lo, cs, L, rfl, h2, h3, h4, h5⟩ := hx
    exact cut_ok htt h h2 (h3.avr fun y my => h4 y (by simp [my])) (svU_cs true _)
  · obtain ⟨b, cs, L, rfl, h2, h3, h4, h5⟩ := pt_of hx
    have := cut_ok (P := P) (U := U) htt h h3 (h4.avr fun y my => h5 y (by simp [my])) (svU_cs true _)
    simpa using this
  · simp at h
theorem ptr_ok {d : Nat} {x v : SV} {vx : Value} (h : ptrAdd d x = some v) (hx : SVR g w x vx) (hu : svU U x) : ∃ b o, vx = .pointer (some ⟨b, o, none⟩) ∧ SVR g w v (.pointer (some ⟨b, o + d, none⟩)) ∧ svU U v := by
  unfold ptrAdd at h
  split at h <;> simp at h <;> subst h
  · obtain ⟨b, h1, rfl⟩ := hx; exact ⟨b, _, rfl, ⟨b, h1, rfl⟩, hu⟩
  · obtain ⟨b, o, n, c, h1, rfl⟩ := hx; exact ⟨b, _, rfl, ⟨b, o, n, c, h1, by simp only [Nat.add_assoc]⟩, hu⟩
  · obtain ⟨b, lo, cs, L, rfl, h⟩ := hx; exact ⟨b, _, rfl, ⟨b, lo, cs, L, by rw [Nat.add_assoc], h⟩, trivial⟩
  · obtain ⟨b, cs, L, rfl, h2, h3, h4, h5⟩ := pt_of hx
    exact ⟨b, 0, rfl, ⟨b, 0, cs, L, rfl, h3, h4, h5, h2⟩, trivial⟩
theorem fad_ok (htt : ∀ t i, tt t = some i → TOk P t i) {t f n : Nat} {fs : List FI} {z : List AV} (hti : tt t = some (.strct fs n z)) {fi : FI} (hf : fs[f]? = some fi) {x v : SV} {vx : Value} (h : ptrAdd fi.off x = some v) (hx : SVR g w x vx) (hu : svU U x) :
    ∃ cv, (Instr.fieldAt t vx f).run P w = .ok cv w ∧ SVR g w v cv ∧ svU U v := by
  obtain ⟨b, o, rfl, h1, h2⟩ := ptr_ok h hx hu
  obtain ⟨fields, i, zvs, u1, _, _, _, _, u2⟩ := htt t _ hti
  obtain ⟨fl, e1, e2, e3, j, d, e4, e5, _⟩ := u2.at hf
  have e1' : fields[f]? = some fl := by simpa using e1
  refine ⟨_, ?_, h1, h2⟩
  simp [Instr.fieldAt, run_und u1, e1', Instr.sureAddr, fieldPlace, run_size e4, e5, e3, add_lit0, e2]
theorem fie_ok (htt : ∀ t i, tt t = some i → TOk P t i) {t f n : Nat} {fs : List FI} {z : List AV} (hti : tt t = some (.strct fs n z)) {x v : SV} {vx : Value} (h : fieldV fs f x = some v) (hx : SVR g w x vx) (hu : svU U x) :
    ∃ cv, (Instr.field t vx f).run P w = .ok cv w ∧ SVR g w v cv ∧ svU U v := by
  unfold fieldV at h
  split at h
  · rename_i cs
    obtain ⟨fi, hf, h⟩ := Option.bind_eq_some_iff.1 h
    obtain ⟨vs, rfl, hr⟩ := hx
    obtain ⟨fields, i, zvs, u1, _, _, _, _, u2⟩ := htt t _ hti
    obtain ⟨fl, e1, e2, e3, j, d, e4, e5, e6, e7⟩ := u2.at hf
    have e1' : fields[f]? = some fl := by simpa using e1
    have hlen := hr.len
    split at h
    · rename_i ha
      split at h <;> simp at h
      rename_i hn
      subst h
      refine ⟨.agg ((vs.drop fi.off).take fi.size).toArray, ?_, ⟨_, rfl, (hr.drop _).take _⟩, fun y m => hu y (List.mem_of_mem_drop (List.mem_of_mem_take m))⟩
      simp [Instr.field, run_und u1, e1', asAgg, part, run_agg e6, e7, ha, run_size e4, e5, e2]
    · rename_i ha
      obtain ⟨y, hy, rfl⟩ := Option.map_eq_some_iff.1 h
      obtain ⟨u, b1, b2⟩ := hr.at hy
      refine ⟨u, ?_, ⟨y, rfl, b2⟩, fun z mz => by simp at mz; subst mz; exact hu z (List.mem_of_getElem? hy)⟩
      simp [Instr.field, run_und u1, e1', asAgg, part, run_agg e6, e7, ha, e2, b1]
  · simp at h
theorem pick_ok {c : Bool} {x y : SV} {vc vx vy : Value} (hc : SVR g w (.p false [.c (.bool c)]) vc) (hx : SVR g w x vx ∧ svU U x) (hy : SVR g w y vy ∧ svU U y) :
    ∃ cv, (do pure (Next.value (if ← asBool vc then vx else vy)) : Sem Next).run P w = .ok (.value cv) w ∧ SVR g w (if c = true then x else y) cv ∧ svU U (if c = true then x else y) := by
  have := bool_of hc
  subst this
  cases c
  · exact ⟨vy, by simp [asBool], by simpa using hy.1, by simpa using hy.2⟩
  · exact ⟨vx, by simp [asBool], by simpa using hx.1, by simpa using hx.2⟩
theorem ext_ok {i : Nat} {x v : SV} {vx : Value} (h : extV i x = some v) (hx : SVR g w x vx) (hu : svU U x) : ∃ cv, (Instr.extract vx i).run P w = .ok cv w ∧ SVR g w v cv ∧ svU U v := by
  unfold extV at h
  split at h
  · obtain ⟨y, hy, rfl⟩ := Option.map_eq_some_iff.1 h
    obtain ⟨vs, rfl, hr⟩ := hx
    obtain ⟨u, b1, b2⟩ := hr.at hy
    exact ⟨u, by simp [Instr.extract, b1], b2, hu y (List.mem_of_getElem? hy)⟩
  · simp at h
theorem max_ok {lo : Bool} {x y v : SV} {vx vy : Value} {ts : Array TypeId} {ty : TypeId} (h : maxV lo x y = some v) (hx : SVR g w x vx) (hy : SVR g w y vy) :
    ∃ cv, ((if lo then Builtin.min_ ts ty #[vx, vy] else Builtin.max_ ts ty #[vx, vy]) : Sem Value).run P w = .ok cv w ∧ SVR g w v cv ∧ svU U v := by
  unfold maxV at h
  split at h
  · have ex := int_of hx
    have ey := int_of hy
    subst ex ey
    simp only [Option.some.injEq] at h
    subst h
    refine ⟨_, ?_, SVR_int _ _, svU_c _⟩
    cases lo
    · simp [Builtin.max_, Builtin.max2]
    · simp [Builtin.min_, Builtin.min2]
  · simp at h
end
end Go.Proofs.YtlkgkkacnoaeaaaGreatDoor

namespace Go.Proofs.YtlkgkkacnoaeaaaGreatDoor
open Go.RowKit
theorem splice_len {α : Type} (l : List α) (off : Nat) (vs : List α) (h : off + vs.length ≤ l.length) : (splice l off vs).length = l.length := by
  simp [splice]; omega
theorem splice_cons {α : Type} (l : List α) (n : Nat) (v : α) (r : List α) (h : n + (r.length + 1) ≤ l.length) : splice (l.set n v) (n + 1) r = splice l n (v :: r) := by
  unfold splice
  have e1 : (l.set n v).take (n + 1) = l.take n ++ [v] := by
    rw [List.take_succ_eq_append_getElem (by simp; omega)]
    simp [List.take_set_of_le]
  have e2 : (l.set n v).drop (n + 1 + r.length) = l.drop (n + (v :: r).length) := by
    rw [List.drop_set_of_lt (by omega)]
    congr 1
    simp; omega
  rw [e1, e2]; simp
theorem foldl_set (off : Nat) : ∀ (vs : List Value) (k : Nat) (cells : Array Value), off + k + vs.length ≤ cells.size →
    (vs.zipIdx k).foldl (fun (cs : Array Value) (p : Value × Nat) => cs.setIfInBounds (off + p.2) p.1) cells = (splice cells.toList (off + k) vs).toArray
  | [], k, cells, h => by simp [splice]
  | v :: r, k, cells, h => by
    rw [List.zipIdx_cons, List.foldl_cons, foldl_set off r (k + 1) _ (by simp at h ⊢; omega)]
    have := splice_cons cells.toList (off + k) v r (by simpa using h)
    rw [← this]
    simp [Nat.add_assoc]
theorem fold_cells (off : Nat) (v : Value) (vs : List Value) (hv : v.cells = vs.toArray) (cells : Array Value) (h : off + vs.length ≤ cells.size) :
    v.cells.zipIdx.foldl (fun cs (c, j) => cs.setIfInBounds (off + j) c) cells = (splice cells.toList off vs).toArray := by
  have := foldl_set off vs 0 cells (by simpa using h)
  rw [hv, ← Array.foldl_toList]
  simpa using this
section
variable {P : Program} {W : Base} {U : Nat → Prop} {key : Nat} {st : St} {g : Gh} {w : World} {a : Act} {tt : Nat → Option TI}
theorem All2.splice {α β : Type} {R : α → β → Prop} {l vs : List α} {r us : List β} (h : All2 R l r) (h' : All2 R vs us) (off : Nat) : All2 R (splice l off vs) (splice r off us) := by
  unfold Go.Proofs.YtlkgkkacnoaeaaaGreatDoor.splice
  rw [h'.len]
  exact (h.take _).append (h'.append (h.drop _))
theorem avsU_splice {l vs : List AV} (h : avsU U l) (h' : avsU U vs) (off : Nat) : avsU U (splice l off vs) := by
  intro y m
  unfold splice at m
  rcases List.mem_append.1 m with m | m
  · exact h y (List.mem_of_mem_take m)
  · rcases List.mem_append.1 m with m | m
    · exact h' y m
    · exact h y (List.mem_of_mem_drop m)
theorem fill_ok {place : Nat → Option (Nat × Nat)} {fs : List FI} (hp : ∀ i fi, fs[i]? = some fi → place i = some (fi.off, fi.size)) :
    ∀ {parts : List (Nat × SV)} {ps : List (Nat × Value)} {cs cs' : List AV} {vs : List Value}, fillS fs cs parts = some cs' → All2 (fun p q => p.1 = q.1 ∧ SVR g w p.2 q.2 ∧ svU U p.2) parts ps → All2 (AVR g w) cs vs → avsU U cs →
      ∃ vs' : List Value, Instr.fill place vs.toArray ps = some vs'.toArray ∧ All2 (AVR g w) cs' vs' ∧ avsU U cs'
  | [], [], cs, cs', vs, h, _, hr, hu => by simp [fillS] at h; subst h; exact ⟨vs, rfl, hr, hu⟩
  | [], _ :: _, _, _, _, _, h, _, _ => h.elim
  | _ :: _, [], _, _, _, _, h, _, _ => h.elim
  | (i, s) :: r, (j, v) :: ps, cs, cs', vs, h, ⟨⟨e, hs, hsu⟩, hps⟩, hr, hu => by
    simp only at e hs hsu
    subst e
    cases s with
    | p ag us =>
      simp only [fillS] at h
      obtain ⟨f, hf, h⟩ := Option.bind_eq_some_iff.1 h
      split at h
      · rename_i hl
        obtain ⟨us', c1, c2⟩ := PVR.cells hs
        have hlen := c2.len
        have hlen2 := hr.len
        obtain ⟨vs', d1, d2, d3⟩ := fill_ok hp h hps (hr.splice c2 f.off) (avsU_splice hu hsu f.off)
        refine ⟨vs', ?_, d2, d3⟩
        have hcs : v.cells.size = us'.length := by simp [c1]
        rw [Instr.fill, hp i f hf]
        simp only
        rw [if_neg (by simp [hcs]; omega), fold_cells f.off v us' c1 _ (by simp; omega)]
        simpa using d1
      · simp at h
    | _ => simp [fillS] at h
theorem All2.of_map {α β γ : Type} {R : β → γ → Prop} (f : α → β) (h : α → γ) : ∀ {l : List α}, (∀ x ∈ l, R (f x) (h x)) → All2 R (l.map f) (l.map h)
  | [], _ => trivial
  | x :: l, hh => ⟨hh x (by simp), All2.of_map f h fun y m => hh y (by simp [m])⟩
theorem consts_AVR : ∀ {z : List AV} {zvs : List Value}, All2 (fun a v => constB a v = true) z zvs → All2 (AVR g w) z zvs ∧ avsU U z
  | [], [], _ => ⟨trivial, fun _ m => by simp at m⟩
  | x :: z, v :: zvs, h => by
    obtain ⟨h1, h2⟩ := consts_AVR (z := z) (zvs := zvs) h.2
    refine ⟨⟨const_AVR h.1, h1⟩, fun y m => ?_⟩
    rcases List.mem_cons.1 m with rfl | m
    · have := h.1
      cases y <;> first | trivial | simp [constB] at this
    · exact h2 y m
  | [], _ :: _, h => h.elim
  | _ :: _, [], h => h.elim
theorem places_ok : ∀ {fs : List FI} {fields : List Field}, All2 (fun (fi : FI) (f : Field) => f.offset = fi.off ∧ fi.size ≠ 0 ∧ ∃ j d, P.info? f.type = some j ∧ j.size = fi.size ∧ P.underlying f.type = some d ∧ aggD d = fi.agg) fs fields →
    fields.mapM (fun f => (P.info? f.type).map fun i => (f.offset, i.size)) = some (fs.map fun fi => (fi.off, fi.size))
  | [], [], _ => rfl
  | fi :: fs, f :: fields, ⟨⟨h1, _, j, d, h2, h3, _⟩, h⟩ => by
    simp [List.mapM_cons, h2, h3, h1, places_ok h]
  | [], _ :: _, h => h.elim
  | _ :: _, [], h => h.elim
theorem build_ok (htt : ∀ t i, tt t = some i → TOk P t i) (hS : ∀ t, SVR g w (st.sl t) (a.tmps.getD t undef)) (hU : StU U st) {t n : Nat} {fs : List FI} {z : List AV} (hti : tt t = some (.strct fs n z)) {parts : Array (Nat × Operand)} {cs : List AV} (h : fillS fs z (parts.toList.map (partS tt st fs z)) = some cs) :
    ∃ cv, (Instr.build t (parts.map fun (i, x) => (i, a.eval x))).run P w = .ok cv w ∧ SVR g w (.p true cs) cv ∧ svU U (.p true cs) := by
  obtain ⟨fields, i, zvs, u1, u2, u3, u4, u5, u6⟩ := htt t _ hti
  obtain ⟨hz, hzu⟩ := consts_AVR (g := g) (w := w) (U := U) u5
  have hparts : All2 (fun (p : Nat × SV) (q : Nat × Value) => p.1 = q.1 ∧ SVR g w p.2 q.2 ∧ svU U p.2) (parts.toList.map (partS tt st fs z)) (parts.toList.map fun p => (p.1, a.eval p.2)) := by
    refine All2.of_map _ _ fun p _ => ?_
    unfold partS
    split
    · rename_i hc
      rw [hc]
      refine ⟨rfl, ?_⟩
      dsimp only
      split
      · exact ⟨⟨_, rfl, rfl⟩, fun y m => by simp at m; subst m; trivial⟩
      · exact ⟨trivial, trivial⟩
    · have := ev_ok htt hS hU 0 p.2
      exact ⟨rfl, this⟩
  have hpl : ∀ (i : Nat) (fi : FI), fs[i]? = some fi → ((fs.map fun (fi : FI) => (fi.off, fi.size)).toArray[i]?) = some (fi.off, fi.size) := fun i fi hf => by simp [hf]
  obtain ⟨vs', d1, d2, d3⟩ := fill_ok hpl h hparts hz hzu
  refine ⟨.agg vs'.toArray, run_build w t _ _ ?_, ⟨vs', rfl, d2⟩, d3⟩
  unfold Program.built
  simp only [u1, u2, u4, places_ok u6]
  have e : (parts.map fun (x : Nat × Operand) => (x.1, a.eval x.2)).toList = parts.toList.map fun p => (p.1, a.eval p.2) := by simp
  have e2 : (parts.map fun x => match x with | (i, x) => (i, a.eval x)) = parts.map fun (x : Nat × Operand) => (x.1, a.eval x.2) := rfl
  rw [e2, e]
  exact d1
theorem Sl.sub {m n : Nat} {A : Option Addr} {cs : List Value} {L : List Nat} (h : Sl w m A n cs L) (l q cap : Nat) (hm : 0 < m) (hq : l + q ≤ n) (hcap : n ≤ cap) :
    ∃ A' L', A' = (if cap = l then A else A.map (·.add (l * m))) ∧ Sl w m A' q ((cs.drop (l * m)).take (q * m)) L' ∧ ∀ b ∈ L', b ∈ L := by
  have hlen := h.1
  have hlm : l * m + q * m ≤ n * m := by rw [← Nat.add_mul]; exact Nat.mul_le_mul_right m hq
  refine ⟨_, if q = 0 then [] else L, rfl, ⟨by simp; omega, ?_⟩, fun b mb => ?_⟩
  · by_cases hq0 : q = 0
    · exact .inl ⟨hq0, by simp [hq0]⟩
    · rcases h.2 with ⟨h0, _⟩ | ⟨_, b, off, rfl, rfl, hc⟩
      · omega
      · refine .inr ⟨by omega, b, off + l * m, by rw [if_neg (by omega)]; simp [add_lit0], by simp [hq0], fun j u hj => ?_⟩
        rw [Nat.add_assoc]
        refine hc _ u ?_
        have hjq : j < q * m := by
          have := (List.getElem?_eq_some_iff.1 hj).1
          simp at this; omega
        rw [List.getElem?_take, if_pos hjq, List.getElem?_drop] at hj
        exact hj
  · split at mb
    · simp at mb
    · exact mb
theorem REs.drop {m : Nat} : ∀ {xs : List (List CT)} {cs : List Value} {L : List Nat} (l : Nat), REs w m xs cs L → ∃ L', REs w m (xs.drop l) (cs.drop (l * m)) L' ∧ ∀ b ∈ L', b ∈ L
  | xs, cs, L, 0, h => ⟨L, by simpa using h, fun _ mb => mb⟩
  | [], cs, L, l + 1, h => ⟨[], by obtain ⟨rfl, rfl⟩ := h; simp [REs], by simp⟩
  | x :: r, _, _, l + 1, ⟨c1, c2, L1, L2, rfl, rfl, h3, h4⟩ => by
    obtain ⟨L', h5, h6⟩ := REs.drop l h4
    refine ⟨L', ?_, fun b mb => by simp [h6 b mb]⟩
    have e : (l + 1) * m = c1.length + l * m := by rw [h3.2, Nat.add_mul]; omega
    have e2 : (c1 ++ c2).drop (c1.length + l * m) = c2.drop (l * m) := by
      rw [List.drop_append, List.drop_of_length_le (Nat.le_add_right _ _), List.nil_append, Nat.add_sub_cancel_left]
    rw [e, e2]
    simpa using h5
theorem REs.take {m : Nat} : ∀ {xs : List (List CT)} {cs : List Value} {L : List Nat} (l : Nat), REs w m xs cs L → ∃ L', REs w m (xs.take l) (cs.take (l * m)) L' ∧ ∀ b ∈ L', b ∈ L
  | xs, cs, L, 0, h => ⟨[], by simp [REs], by simp⟩
  | [], cs, L, l + 1, h => ⟨[], by obtain ⟨rfl, rfl⟩ := h; simp [REs], by simp⟩
  | x :: r, _, _, l + 1, ⟨c1, c2, L1, L2, rfl, rfl, h3, h4⟩ => by
    obtain ⟨L', h5, h6⟩ := REs.take l h4
    refine ⟨L1 ++ L', ?_, fun b mb => by
      rcases List.mem_append.1 mb with mb | mb
      · simp [mb]
      · simp [h6 b mb]⟩
    have e : (l + 1) * m = c1.length + l * m := by rw [h3.2, Nat.add_mul]; omega
    rw [e, List.take_length_add_append]
    exact ⟨c1, _, L1, L', rfl, rfl, h3, h5⟩
theorem bound_run {k : IntKind} {i : Int} {y : Nat} {code : BoundsCode} (h0 : 0 ≤ i) (h1 : i ≤ y) : (Instr.sliceBound (.int k i) y code).run P w = .ok i.toNat w := by
  simp [Instr.sliceBound, asIntOf, h0, h1]
def optR (g : Gh) (w : World) : Option SV → Option Value → Prop
  | none, none => True
  | some s, some u => SVR g w s u
  | _, _ => False
theorem bounds_run {lo hi : Option SV} {vlo vhi : Option Value} {len cap l h : Nat} {b : Bool} (hh : hiB len hi = some h) (hl : loB h lo = some l) (hlo : optR g w lo vlo) (hhi : optR g w hi vhi) (hc : len ≤ cap) :
    (Instr.sliceBounds b len cap vlo vhi none).run P w = .ok (l, h, cap) w ∧ l ≤ h ∧ h ≤ len := by
  have e1 : ((match vhi, (none : Option Value) with | some v, some _ => Instr.sliceBound v cap .slice3B | some v, none => Instr.sliceBound v cap (if b then .sliceAcap else .sliceAlen) | none, none => pure len | none, some _ => stuck "Slice: max without high") : Sem Nat).run P w = .ok h w ∧ h ≤ len := by
    unfold hiB at hh
    split at hh
    · simp only [Option.some.injEq] at hh
      subst hh
      cases vhi with
      | none => exact ⟨rfl, Nat.le_refl _⟩
      | some v => exact hhi.elim
    · split at hh <;> simp only [Option.some.injEq, reduceCtorEq] at hh
      rename_i hq
      subst hh
      cases vhi with
      | none => exact hhi.elim
      | some v =>
        have e := int_of hhi
        subst e
        exact ⟨bound_run hq.1 (by omega), by omega⟩
    · simp at hh
  have e2 : ((match vlo with | some v => Instr.sliceBound v h .sliceB | none => pure 0) : Sem Nat).run P w = .ok l w ∧ l ≤ h := by
    unfold loB at hl
    split at hl
    · simp only [Option.some.injEq] at hl
      subst hl
      cases vlo with
      | none => exact ⟨rfl, Nat.zero_le _⟩
      | some v => exact hlo.elim
    · split at hl <;> simp only [Option.some.injEq, reduceCtorEq] at hl
      rename_i hq
      subst hl
      cases vlo with
      | none => exact hlo.elim
      | some v =>
        have e := int_of hlo
        subst e
        exact ⟨bound_run hq.1 hq.2, by omega⟩
    · simp at hl
  refine ⟨?_, e2.2, e1.2⟩
  unfold Instr.sliceBounds
  simp only [Sem.run_bind, Sem.run_pure, Result.andThen_ok, Option.isSome_none, Bool.false_eq_true, if_false]
  have e1' := e1.1
  have e2' := e2.1
  cases vhi <;> cases vlo <;> simp_all
theorem slice_ok (htt : ∀ t i, tt t = some i → TOk P t i) {t : Nat} {x v : SV} {lo hi : Option SV} {vx : Value} {vlo vhi : Option Value} (h : sliceV (tt t) lo hi x = some v) (hx : SVR g w x vx)
    (hlo : optR g w lo vlo) (hhi : optR g w hi vhi) : ∃ cv, (Instr.sliceAt t vx vlo vhi none).run P w = .ok cv w ∧ SVR g w v cv ∧ svU U v := by
  unfold sliceV at h
  split at h
  · rename_i s
    split at h
    · rename_i hstr
      have hu := isStr_und htt hstr
      obtain ⟨q, hq, h⟩ := Option.bind_eq_some_iff.1 h
      obtain ⟨l, hl, rfl⟩ := Option.map_eq_some_iff.1 h
      obtain ⟨rfl, hs⟩ := str_of hx
      obtain ⟨b1, b2, b3⟩ := bounds_run (P := P) (b := false) hq hl hlo hhi (Nat.le_refl _)
      refine ⟨_, ?_, SVR_str (by rw [ByteArray.size_extract]; omega), svU_c _⟩
      simp [Instr.sliceAt, run_und hu, Instr.slice, b1]
    · simp at h
  · rename_i e m xs
    split at h
    · rename_i hsz
      obtain ⟨q, hq, h⟩ := Option.bind_eq_some_iff.1 h
      obtain ⟨l, hl, rfl⟩ := Option.map_eq_some_iff.1 h
      obtain ⟨A, cap, cs, L0, L1, rfl, h2, h3, h5, h6, h7, ho⟩ := slice_of hx
      obtain ⟨b1, b2, b3⟩ := bounds_run (P := P) (b := true) hq hl hlo hhi h2
      obtain ⟨e', b', z', hti⟩ : ∃ e' b' z', tt t = some (.slice e' m b' z') := by
        unfold sizeSl at hsz
        split at hsz
        · rename_i h1; subst hsz; exact ⟨_, _, _, h1⟩
        · omega
      obtain ⟨hu, _, _, ⟨ie, zv, hie, hsi, _⟩, _⟩ := htt t _ hti
      have fin : SVR g w (.p false [.c (.sl e m ((xs.take q).drop l))]) (.slice (if cap = l then A else A.map (·.add (l * m))) (q - l) (cap - l)) := by
        obtain ⟨A', L', rfl, s1, s2⟩ := h6.sub l (q - l) cap h5 (by omega) h2
        obtain ⟨M1, r1, r2⟩ := h7.take q
        obtain ⟨M2, r3, r4⟩ := r1.drop l
        have hlen : ((xs.take q).drop l).length = q - l := by simp; omega
        have e1 : (cs.drop (l * m)).take ((q - l) * m) = (cs.take (q * m)).drop (l * m) := by
          rw [List.drop_take, Nat.sub_mul]
        rw [e1] at s1
        refine ⟨_, rfl, L' ++ M2, ⟨_, _, _, L', M2, by rw [hlen], by rw [hlen]; omega, by omega, rfl, h5, by rw [hlen]; exact s1, r3⟩, fun b mb => ?_⟩
        rcases List.mem_append.1 mb with mb | mb
        · exact ho b (by simp [s2 b mb])
        · exact ho b (by simp [r2 b (r4 b mb)])
      refine ⟨_, ?_, fin, svU_c _⟩
      simp [Instr.sliceAt, run_und hu, Instr.slice, b1, run_size hie, hsi]
    · simp at h
  · simp at h
end
end Go.Proofs.YtlkgkkacnoaeaaaGreatDoor

namespace Go.Proofs.YtlkgkkacnoaeaaaGreatDoor
open Go.RowKit
theorem upd_same {α : Type} (f : Nat → α) (k : Nat) (v : α) : upd f k v k = v := by simp [upd]
theorem upd_ne {α : Type} (f : Nat → α) {k j : Nat} (v : α) (h : j ≠ k) : upd f k v j = f j := by simp [upd, h]
theorem updAll_append (ob : Nat → Ob) (u v : List (Nat × Ob)) : updAll ob (u ++ v) = updAll (updAll ob u) v := by
  induction u generalizing ob with
  | nil => rfl
  | cons p r ih => exact ih _
theorem updAll_gone : ∀ (ks : List Nat) (ob : Nat → Ob) (k : Nat), updAll ob (goneAll ks) k = if k ∈ ks then .gone else ob k
  | [], ob, k => by simp [goneAll, updAll]
  | x :: ks, ob, k => by
    have : goneAll (x :: ks) = (x, Ob.gone) :: goneAll ks := rfl
    rw [this, updAll, updAll_gone ks]
    by_cases h1 : k ∈ ks
    · simp [h1]
    · by_cases h2 : k = x
      · subst h2; simp [upd]
      · simp [h1, h2, upd]
theorem updAll_turn (ks : List Nat) (ob : Nat → Ob) (key : Nat) (o : Ob) (k : Nat) : updAll ob (goneAll ks ++ [(key, o)]) k = if k = key then o else if k ∈ ks then .gone else ob k := by
  rw [updAll_append]
  simp only [updAll, upd, updAll_gone]
def Gh.turn (g : Gh) (ks : List Nat) (key : Nat) (v : Value) (O D : List Nat) : Gh :=
  ⟨upd g.val key v, fun k => if k = key then O else if k ∈ ks then [] else g.O k, fun k => if k = key then D else if k ∈ ks then [] else g.D k, g.Z⟩
section
variable {P : Program} {W : Base} {U : Nat → Prop} {key : Nat} {st : St} {g : Gh} {w w' : World} {a : Act} {tt : Nat → Option TI}
theorem turn_own {ks : List Nat} {v : Value} {O D : List Nat} {b : Nat} (h : (g.turn ks key v O D).own b) : b ∈ O ∨ (∃ k, k ∉ ks ∧ k ≠ key ∧ b ∈ g.O k) ∨ g.Z b := by
  rcases h with ⟨k, hk⟩ | h
  · simp only [Gh.turn] at hk
    split at hk
    · exact .inl hk
    · rename_i h1
      split at hk
      · simp at hk
      · rename_i h2; exact .inr (.inl ⟨k, h2, h1, hk⟩)
  · exact .inr (.inr h)
theorem HI.turn {ob : Nat → Ob} (h : HI W g ob w) (hobU : ∀ k, obU U (ob k)) (hkey : ¬ U key) (ks : List Nat) (hks : ∀ k ∈ ks, U k)
    (hbel : Bel W w') (hsz : w.heap.size ≤ w'.heap.size) (hw : ∀ b, b < w.heap.size → (∀ k ∈ ks, b ∉ g.O k) → w'.heap[b]? = w.heap[b]?)
    {v : Value} {O D : List Nat} {o : Ob} (hO : ∀ b ∈ O, (∃ k ∈ ks, b ∈ g.O k) ∨ w.heap.size ≤ b) (hD : ∀ b ∈ D, (∃ k ∈ ks, b ∈ g.O k ++ g.D k) ∨ w.heap.size ≤ b)
    (hnd : (O ++ D).Nodup) (hpl : ∀ b ∈ O ++ D, (W.heap.size ≤ b ∨ W.x b) ∧ PlainAt w' o b)
    (hob : (∀ b, (g.turn ks key v O D).own b → g.own b ∨ w.heap.size ≤ b) → ObR (g.turn ks key v O D) w' key o) :
    HI W (g.turn ks key v O D) (updAll ob (goneAll ks ++ [(key, o)])) w' ∧ ∀ x u, svU U x → SVR g w x u → SVR (g.turn ks key v O D) w' x u := by
  have hkk : key ∉ ks := fun m => hkey (hks key m)
  have hval : ∀ k, U k → (g.turn ks key v O D).val k = g.val k := fun k hk => upd_ne _ _ fun e => hkey (e ▸ hk)
  have hown : ∀ b, (g.turn ks key v O D).own b → g.own b ∨ w.heap.size ≤ b := fun b hb => by
    rcases turn_own hb with m | ⟨k, _, _, m⟩ | m
    · rcases hO b m with ⟨k, _, m⟩ | m
      · exact .inl (.inl ⟨k, m⟩)
      · exact .inr m
    · exact .inl (.inl ⟨k, m⟩)
    · exact .inl (.inr m)
  have hFnew : ∀ b ∈ O ++ D, (∃ k ∈ ks, b ∈ g.O k ++ g.D k) ∨ w.heap.size ≤ b := fun b m => by
    rcases List.mem_append.1 m with m | m
    · exact (hO b m).imp (fun ⟨k, h1, h2⟩ => ⟨k, h1, by simp [h2]⟩) id
    · exact hD b m
  refine ⟨h.step (fun k => k = key ∨ k ∈ ks) hbel rfl (fun b hb hn => hw b hb fun k hk => hn k (.inr hk)) (fun k hk => ?_) hobU hval hown (fun k hk => ?_), fun x u hx hu => hu.move hx hval (fun b hb hn => hw b hb fun k _ m => hn (.inl ⟨k, m⟩)) hown hsz⟩
  · have h1 : k ≠ key := fun e => hk (.inl e)
    have h2 : k ∉ ks := fun e => hk (.inr e)
    rw [updAll_turn]
    simp [Gh.turn, h1, h2, upd]
  · rw [updAll_turn]
    by_cases h1 : k = key
    · subst h1
      have eO : (g.turn ks k v O D).O k = O := by simp [Gh.turn]
      have eD : (g.turn ks k v O D).D k = D := by simp [Gh.turn]
      rw [if_pos rfl, eO, eD]
      refine ⟨hob hown, hnd, hpl, fun j hj b m mj => ?_⟩
      have hjk : ¬ j = k := fun e => hj e.symm
      by_cases h2 : j ∈ ks
      · simp [Gh.turn, hjk, h2] at mj
      · have mj' : b ∈ g.O j ++ g.D j := by simpa [Gh.turn, hjk, h2] using mj
        rcases hFnew b m with ⟨q, q1, q2⟩ | q
        · exact h.apart q j (fun e => h2 (e ▸ q1)) b q2 mj'
        · have := h.lt j b mj'; omega
    · have h2 : k ∈ ks := hk.resolve_left h1
      have eO : (g.turn ks key v O D).O k = [] := by simp [Gh.turn, h1, h2]
      have eD : (g.turn ks key v O D).D k = [] := by simp [Gh.turn, h1, h2]
      rw [if_neg h1, if_pos h2, eO, eD]
      exact ⟨⟨eO, eD⟩, by simp, by simp, by simp⟩
theorem wf_turn (hU : StU U st) (ks : List Nat) {o : Ob} (ho : obU (Uk U key) o) : (∀ k, obU (Uk U key) (updAll st.ob (goneAll ks ++ [(key, o)]) k)) ∧ ∀ k, ¬ Uk U key k → updAll st.ob (goneAll ks ++ [(key, o)]) k = .gone := by
  constructor
  · intro k
    rw [updAll_turn]
    split
    · exact ho
    · split
      · trivial
      · exact (hU.ob k).mono fun _ => .inl
  · intro k hk
    rw [updAll_turn, if_neg (fun e => hk (.inr (by omega)))]
    split
    · rfl
    · exact hU.gone k fun h => hk (.inl h)
theorem key_in : Uk U key key := .inr (by omega)
/-- a new box -/
theorem box_ok (hI : HI W g st.ob w) (hU : StU U st) (hkey : ¬ U key) {t : TypeId} {cs : List AV} {vs : List Value} (hr : All2 (AVR g w) cs vs) (hu : avsU U cs) {s : Sem Next}
    (hrun : s.run P w = .ok (.value (.pointer (some ⟨w.heap.size, 0, none⟩))) (w.alloc (.cells vs.toArray t))) : Fin P W U key st g w s (.bp key 0, [(key, .box t cs)]) := by
  have hb : Below w.heap.size w (w.alloc (.cells vs.toArray t)) := (Below.refl _ _).alloc (Nat.le_refl _) _
  obtain ⟨h1, h2⟩ := hI.turn (key := key) (U := U) (w' := w.alloc (.cells vs.toArray t)) (v := .pointer (some ⟨w.heap.size, 0, none⟩)) (O := [w.heap.size]) (D := []) (o := .box t cs) hU.ob hkey [] (by simp)
    (hI.below.trans hb) hb.size (fun b hb' _ => hb.block b hb') (by simp) (by simp) (by simp) (fun b m => by
      simp at m; subst m; exact ⟨.inl hI.below.size, _, _, heap_alloc_new w _⟩) (fun hown => ⟨w.heap.size, vs, by simp [Gh.turn, upd], by simp [Gh.turn], by simp [Gh.turn], heap_alloc_new w _,
        AVRs.move hr hu (fun k hk => upd_ne _ _ fun e => hkey (e ▸ hk)) (fun b hb' _ => hb.block b hb') hown⟩)
  have hwf := wf_turn (key := key) (o := .box t cs) hU [] (avsU.mono (fun _ => .inl) hu)
  exact ⟨_, _, _, .inl hrun, h1, ⟨w.heap.size, by simp [Gh.turn, upd], rfl⟩, h2, key_in, hwf.1, hwf.2⟩
theorem setRow_ok (b : Nat) (cs cs' : Array Value) (t : TypeId) (hb : w.heap[b]? = some (.cells cs t (0, 0))) : (w.setRow b cs').heap[b]? = some (.cells cs' t (0, 0)) ∧ (∀ k, k ≠ b → (w.setRow b cs').heap[k]? = w.heap[k]?) ∧ (w.setRow b cs').heap.size = w.heap.size ∧ (w.setRow b cs').os = w.os ∧ (w.setRow b cs').tape = w.tape ∧ (w.setRow b cs').output = w.output := by
  refine ⟨setRow_heap w b cs cs' t _ hb, fun k hk => ?_, ?_, rfl, rfl, rfl⟩
  · have hbk : ¬ b = k := fun e => hk e.symm
    simp [World.setRow, Array.getElem?_modify, hbk]
  · simp [World.setRow]
/-- a store into a box -/
theorem store_bp (htt : ∀ t i, tt t = some i → TOk P t i) (hI : HI W g st.ob w) (hU : StU U st) {t k off tb : Nat} {cs vs : List AV} {va vv : Value} {ag : Bool} (hk : st.ob k = .box tb cs) (hl : vs.length = sizeTI (tt t)) (ho : off + vs.length ≤ cs.length)
    (ha : SVR g w (.bp k off) va) (hv : SVR g w (.p ag vs) vv) (hvu : avsU U vs) (hpos : 0 < vs.length) {s : Sem Next} (hs : s = (do Instr.storeAt t va vv; pure .skip)) : Fin P W U key st g w s (.und, [(k, .box tb (splice cs off vs))]) := by
  obtain ⟨b, h1, rfl⟩ := ha
  have hob := hI.obs k
  rw [hk] at hob
  obtain ⟨b', us, o1, o2, o3, o4, o5⟩ := hob
  have hb : b = b' := by rw [o1] at h1; simpa using h1.symm
  subst hb
  have hlen := o5.len
  obtain ⟨xs, c1, c2⟩ := PVR.cells hv
  have hxl := c2.len
  have hcu := hU.ob k
  rw [hk] at hcu
  obtain ⟨r1, r2, r3, r4, r5, r6⟩ := setRow_ok b us.toArray (splice us off xs).toArray tb o4
  have hsize : (sizeOf t).run P w = .ok xs.length w := by
    rw [← hxl, hl]
    unfold sizeTI at hl ⊢
    cases hti : tt t with
    | none => rw [hti] at hl; simp at hl; simp [hl] at hpos
    | some i =>
      cases i with
      | atom z => obtain ⟨d, zv, i, _, _, h3, _, h4, _⟩ := htt t _ hti; rw [run_size h3, h4]
      | strct fs n z => obtain ⟨_, i, _, _, h3, h4, _⟩ := htt t _ hti; rw [run_size h3, h4]
      | slice e m b z => obtain ⟨_, _, _, _, j, h3, h4, _⟩ := htt t _ hti; rw [run_size h3, h4]
      | _ => rw [hti] at hl; simp at hl; simp [hl] at hpos
  have hst := run_storeCells_at (P := P) b off tb xs 0 us.toArray w o4 (by simp; omega) (AVRs.one c2)
  have hrun : s.run P w = .ok .skip (w.setRow b (splice us off xs).toArray) := by
    subst hs
    have e : (us.toArray.toList.take (off + 0) ++ xs ++ us.toArray.toList.drop (off + 0 + xs.length)).toArray = (splice us off xs).toArray := by simp [splice]
    rw [e] at hst
    simp [Instr.storeAt, Instr.sureAddr, storeVar, c1, hsize, hst]
  have hmv : ∀ b', b' < w.heap.size → ¬ g.own b' → (w.setRow b (splice us off xs).toArray).heap[b']? = w.heap[b']? := fun b' _ hn => r2 b' fun e => hn (.inl ⟨k, by simp [o2, e]⟩)
  have hbW : W.heap.size ≤ b ∨ W.x b := (hI.plain k b (by simp [o2])).1
  refine ⟨g, undef, _, .inr ⟨hrun, rfl⟩, ?_, rfl, fun x u hx hu => hu.move hx (fun _ _ => rfl) hmv (fun _ h => .inl h) (by omega), trivial, fun q => ?_, fun q hq => ?_⟩
  · refine hI.step (U := U) (fun q => q = k) ?_ rfl (fun b' _ hn => r2 b' fun e => hn k rfl (by simp [o2, e])) (fun q hq => ⟨upd_ne _ _ hq, rfl, rfl, rfl⟩) hU.ob (fun _ _ => rfl) (fun _ h => .inl h) (fun q hq => ?_)
    · exact ⟨r4.trans hI.below.os, r5.trans hI.below.tape, r6.trans hI.below.output, by have := hI.below.size; omega, fun q hq hx => by rw [r2 q (fun e => by subst e; rcases hbW with h | h; omega; exact hx h)]; exact hI.below.block q hq hx⟩
    · subst hq
      refine ⟨?_, hI.nodup q, fun b' m => ?_, hI.apart q⟩
      · simp only [updAll, upd_same]
        exact ⟨b, _, o1, o2, o3, r1, (AVRs.move o5 hcu (fun _ _ => rfl) hmv (fun _ h => .inl h)).splice (AVRs.move c2 hvu (fun _ _ => rfl) hmv (fun _ h => .inl h)) off⟩
      · simp [o2, o3] at m
        subst m
        refine ⟨hbW, ?_⟩
        simp only [updAll, upd_same]
        exact ⟨_, _, r1⟩
  · simp only [updAll, upd]
    split
    · exact avsU.mono (fun _ => .inl) (avsU_splice hcu hvu off)
    · exact (hU.ob q).mono fun _ => .inl
  · simp only [updAll, upd]
    split
    · rename_i e; subst e
      exact absurd (hU.gone q fun h => hq (.inl h)) (by simp [hk])
    · exact hU.gone q fun h => hq (.inl h)
end
end Go.Proofs.YtlkgkkacnoaeaaaGreatDoor

namespace Go.Proofs.YtlkgkkacnoaeaaaGreatDoor
open Go.RowKit
section
variable {P : Program} {W : Base} {U : Nat → Prop} {key : Nat} {st : St} {g : Gh} {w w' : World} {a : Act} {tt : Nat → Option TI}
/-- the blocks of what was used up -/
def Gh.F (g : Gh) (ks : List Nat) : List Nat := ks.flatMap fun k => g.O k ++ g.D k
def FP (g : Gh) (ks : List Nat) (d : Nat) (L : List Nat) : Prop := (d = 2 → L.Sublist (g.F ks)) ∧ d ≤ 2 ∧ 0 < d ∧ ∀ b ∈ L, ¬ g.own b ∨ ∃ k ∈ ks, b ∈ g.O k
theorem FP.nil : FP g [] 2 [] := ⟨fun _ => by simp [Gh.F], by simp⟩
theorem FP.append {ks ks' : List Nat} {d d' : Nat} {L L' : List Nat} (h : FP g ks d L) (h' : FP g ks' d' L') : FP g (ks ++ ks') (dmin d d') (L ++ L') := by
  have q1 := h.2.1
  have q2 := h'.2.1
  have q3 := h.2.2.1
  have q4 := h'.2.2.1
  refine ⟨fun hd => ?_, by unfold dmin; split <;> omega, by unfold dmin; split <;> omega, fun b m => ?_⟩
  · have hd' : d = 2 ∧ d' = 2 := by unfold dmin at hd; split at hd <;> omega
    simp only [Gh.F, List.flatMap_append]
    exact List.Sublist.append (h.1 hd'.1) (h'.1 hd'.2)
  · rcases List.mem_append.1 m with m | m
    · exact (h.2.2.2 b m).imp id fun ⟨k, h1, h2⟩ => ⟨k, by simp [h1], h2⟩
    · exact (h'.2.2.2 b m).imp id fun ⟨k, h1, h2⟩ => ⟨k, by simp [h1], h2⟩
theorem HI.nodupF {ob : Nat → Ob} (hI : HI W g ob w) : ∀ {ks : List Nat}, ks.Nodup → (g.F ks).Nodup
  | [], _ => by simp [Gh.F]
  | k :: ks, h => by
    simp only [Gh.F, List.flatMap_cons, List.nodup_append]
    rw [List.nodup_cons] at h
    refine ⟨List.nodup_append.1 (hI.nodup k), hI.nodupF h.2, fun x hx y hy e => ?_⟩
    subst e
    obtain ⟨j, hj, hy⟩ := List.mem_flatMap.1 hy
    exact hI.apart k j (fun e => h.1 (e ▸ hj)) x hx hy
theorem mem_F {ks : List Nat} {b : Nat} (h : b ∈ g.F ks) : ∃ k ∈ ks, b ∈ g.O k ++ g.D k := by simpa [Gh.F] using h
theorem Sl.row {B e m n : Nat} {v : Value} {cs : List Value} (h : w.ownsV B e m v n cs) : ∃ A cap L0, v = .slice A n cap ∧ n ≤ cap ∧ cap ≤ maxLen ∧ Sl w m A n cs L0 ∧ L0.Sublist v.ownBlock.toList := by
  obtain ⟨A, cap, rfl, h1, h2⟩ := ownV_slice h
  obtain ⟨L0, h3, _, h4⟩ := Sl.of_ownV h
  refine ⟨A, cap, L0, rfl, h1, h2, h3, ?_⟩
  rcases h3.2 with ⟨_, rfl⟩ | ⟨_, b, off, rfl, rfl, _⟩
  · exact List.nil_sublist _
  · simp [Value.ownBlock]
theorem avT_ok (hI : HI W g st.ob w) {x : AV} {ct : CT} {ks : List Nat} {d : Nat} {v : Value} (h : avT st x = some (ct, ks, d)) (hx : AVR g w x v) (hu : avU U x) : ∃ L, RC w ct v L ∧ FP g ks d L ∧ ∀ k ∈ ks, U k := by
  cases x with
  | c y =>
    obtain ⟨L, h1, h2⟩ := hx
    cases y <;> simp only [avT, Option.some.injEq, Prod.mk.injEq] at h <;> obtain ⟨rfl, rfl, rfl⟩ := h
    · exact ⟨L, h1, ⟨fun _ => by rw [h1.2]; simp [Gh.F], by simp, by simp, fun b m => .inl (h2 b m)⟩, by simp⟩
    · exact ⟨L, h1, ⟨fun _ => by rw [h1.2]; simp [Gh.F], by simp, by simp, fun b m => .inl (h2 b m)⟩, by simp⟩
    · exact ⟨L, h1, ⟨fun _ => by rw [h1.2.1]; simp [Gh.F], by simp, by simp, fun b m => .inl (h2 b m)⟩, by simp⟩
    all_goals exact ⟨L, h1, ⟨fun e => by simp at e, by simp, by simp, fun b m => .inl (h2 b m)⟩, by simp⟩
  | row k =>
    simp only [avT] at h
    split at h
    · rename_i e m xs d' hk
      obtain ⟨hm, cs, L1, o1, o2, o3, o5⟩ := hI.deep hk
      obtain ⟨A, cap, L0, s1, s2, s3, s4, s5⟩ := Sl.row o1
      have hrc : RC w (.sl e m xs) v (L0 ++ L1) := ⟨A, cap, cs, L0, L1, by rw [hx.1, s1], s2, s3, rfl, hm, s4, o2⟩
      split at h
      · rename_i hd0
        simp only [Option.some.injEq, Prod.mk.injEq] at h
        obtain ⟨rfl, rfl, rfl⟩ := h
        refine ⟨L0 ++ L1, hrc, ⟨fun e => by simp at e, by simp, by simp, fun b m => .inl ?_⟩, by simp⟩
        rcases o5 with ⟨q, _⟩ | ⟨q, _⟩ | ⟨_, _, _, q⟩
        · omega
        · omega
        · rcases List.mem_append.1 m with m | m
          · exact q b (s5.subset m)
          · exact o3 b m
      · rename_i hd0
        simp only [Option.some.injEq, Prod.mk.injEq] at h
        obtain ⟨rfl, rfl, rfl⟩ := h
        have hO : g.O k = (g.val k).ownBlock.toList := by
          rcases o5 with ⟨_, q, _⟩ | ⟨_, q, _⟩ | ⟨q, _⟩
          · exact q
          · exact q
          · exact absurd q hd0
        refine ⟨L0 ++ L1, hrc, ⟨fun hd => ?_, ?_, by omega, fun b m => ?_⟩, fun q mq => by simp at mq; subst mq; exact hu⟩
        · rcases o5 with ⟨_, _, o5⟩ | ⟨o5, _⟩ | ⟨o5, _⟩
          · simp only [Gh.F, List.flatMap_cons, List.flatMap_nil, List.append_nil, hO, o5]
            exact List.Sublist.append s5 (List.Sublist.refl _)
          · omega
          · omega
        · rcases o5 with ⟨o5, _⟩ | ⟨o5, _⟩ | ⟨o5, _⟩ <;> omega
        · rcases List.mem_append.1 m with m | m
          · exact .inr ⟨k, by simp, by rw [hO]; exact s5.subset m⟩
          · exact .inl (o3 b m)
    · simp at h
  | nil e m =>
    simp only [avT] at h
    split at h
    · rename_i hm
      simp only [Option.some.injEq, Prod.mk.injEq] at h
      obtain ⟨rfl, rfl, rfl⟩ := h
      refine ⟨[], ⟨none, 0, [], [], [], hx, by simp, Nat.zero_le _, rfl, hm, Sl.zero, rfl, rfl⟩, FP.nil, by simp⟩
    · simp at h
  | dead => simp [avT] at h
theorem avTs_ok (hI : HI W g st.ob w) : ∀ {xs : List AV} {cts : List CT} {ks : List Nat} {d : Nat} {vs : List Value}, avTs st xs = some (cts, ks, d) → All2 (AVR g w) xs vs → avsU U xs → ∃ L, RCs w cts vs L ∧ FP g ks d L ∧ ∀ k ∈ ks, U k
  | [], _, _, _, [], h, _, _ => by
    simp only [avTs, Option.some.injEq, Prod.mk.injEq] at h
    obtain ⟨rfl, rfl, rfl⟩ := h
    exact ⟨[], ⟨rfl, rfl⟩, FP.nil, by simp⟩
  | [], _, _, _, _ :: _, _, h, _ => h.elim
  | _ :: _, _, _, _, [], _, h, _ => h.elim
  | x :: r, cts, ks, d, v :: vs, h, hr, hu => by
    simp only [avTs] at h
    obtain ⟨⟨c1, k1, d1⟩, h1, h⟩ := Option.bind_eq_some_iff.1 h
    obtain ⟨⟨c2, k2, d2⟩, h2, h⟩ := Option.map_eq_some_iff.1 h
    simp only [Prod.mk.injEq] at h
    obtain ⟨rfl, rfl, rfl⟩ := h
    obtain ⟨L1, a1, a2, a3⟩ := avT_ok hI h1 hr.1 (hu x (by simp))
    obtain ⟨L2, b1, b2, b3⟩ := avTs_ok hI h2 hr.2 (fun y m => hu y (by simp [m]))
    exact ⟨L1 ++ L2, ⟨v, vs, L1, L2, rfl, rfl, a1, b1⟩, a2.append b2, fun k m => (List.mem_append.1 m).elim (a3 k) (b3 k)⟩
theorem elems_ok (hI : HI W g st.ob w) {m : Nat} : ∀ {xs : List SV} {es : List (List CT)} {ks : List Nat} {d : Nat} {vs : List Value}, elemsS st m xs = some (es, ks, d) → All2 (fun s v => SVR g w s v ∧ svU U s) xs vs →
    ∃ (cs : List (List Value)) (L : List Nat), All2 (fun (c : List Value) (v : Value) => v.cells = c.toArray ∧ c.length = m ∧ ∀ u ∈ c, u.oneCell' = true) cs vs ∧ REs w m es cs.flatten L ∧ FP g ks d L ∧ ∀ k ∈ ks, U k
  | [], _, _, _, [], h, _ => by
    simp only [elemsS, Option.some.injEq, Prod.mk.injEq] at h
    obtain ⟨rfl, rfl, rfl⟩ := h
    exact ⟨[], [], trivial, ⟨rfl, rfl⟩, FP.nil, by simp⟩
  | [], _, _, _, _ :: _, _, h => h.elim
  | _ :: _, _, _, _, [], _, h => h.elim
  | s :: r, es, ks, d, v :: vs, h, ⟨⟨hs, hsu⟩, hr⟩ => by
    cases s with
    | p ag us =>
      simp only [elemsS] at h
      split at h
      · rename_i hl
        obtain ⟨⟨c1, k1, d1⟩, h1, h⟩ := Option.bind_eq_some_iff.1 h
        obtain ⟨⟨c2, k2, d2⟩, h2, h⟩ := Option.map_eq_some_iff.1 h
        simp only [Prod.mk.injEq] at h
        obtain ⟨rfl, rfl, rfl⟩ := h
        obtain ⟨us', p1, p2⟩ := PVR.cells hs
        obtain ⟨L1, a1, a2, a3⟩ := avTs_ok hI h1 p2 hsu
        obtain ⟨cs, L2, b1, b2, b3, b4⟩ := elems_ok hI h2 hr
        have hl' : us'.length = m := by rw [← p2.len]; exact hl
        exact ⟨us' :: cs, L1 ++ L2, ⟨⟨p1, hl', AVRs.one p2⟩, b1⟩, ⟨us', cs.flatten, L1, L2, by simp, rfl, ⟨a1, hl'⟩, b2⟩, a2.append b3, fun k mk => (List.mem_append.1 mk).elim (a3 k) (b4 k)⟩
      · simp at h
    | _ => simp [elemsS] at h
/-- filling a row place by place -/
theorem fill_seq {m : Nat} : ∀ (cs : List (List Value)) (vs : List Value) (i : Nat) (pre base : List Value), All2 (fun (c : List Value) (v : Value) => v.cells = c.toArray ∧ c.length = m ∧ ∀ u ∈ c, u.oneCell' = true) cs vs → pre.length = i * m → base.length = vs.length * m →
    Instr.fill (fun i => some (i * m, m)) (pre ++ base).toArray ((List.range' i vs.length).zip vs) = some (pre ++ cs.flatten).toArray
  | [], [], i, pre, base, _, _, hb => by
    have : base = [] := List.eq_nil_of_length_eq_zero (by simpa using hb)
    subst this
    simp [Instr.fill]
  | [], _ :: _, _, _, _, h, _, _ => h.elim
  | _ :: _, [], _, _, _, h, _, _ => h.elim
  | c :: cs, v :: vs, i, pre, base, ⟨⟨h1, h2, _⟩, h⟩, hp, hb => by
    have hb' : base.length = m + vs.length * m := by rw [hb]; simp [Nat.add_mul]; omega
    have hcs : v.cells.size = m := by simp [h1, h2]
    simp only [List.length_cons, List.range'_succ, List.zip_cons_cons, Instr.fill]
    rw [if_neg (by simp [hcs]; omega), fold_cells (i * m) v c h1 _ (by simp; omega)]
    have e : splice (pre ++ base).toArray.toList (i * m) c = (pre ++ c) ++ base.drop m := by
      unfold splice
      simp only [← hp]
      rw [List.take_left', List.drop_append, List.drop_of_length_le (by omega)]
      · simp [h2]
      · rfl
    rw [e, fill_seq cs vs (i + 1) (pre ++ c) (base.drop m) h (by simp [hp, h2, Nat.add_mul]) (by simp; omega)]
    simp
theorem newRow_ok (hI : HI W g st.ob w) (hU : StU U st) (hkey : ¬ U key) {e m : Nat} (hm : 0 < m) {xs : List (List CT)} {ks : List Nat} {d : Nat} {L : List Nat} {cs : List Value} {v : Value} (hown : w'.ownsV 0 e m v xs.length cs) (hv : v.ownBlock = some w.heap.size)
    (hb : Below w.heap.size w w') (hpl : ∃ cur e, w'.heap[w.heap.size]? = some (.cells cur e (0, 0))) (hr : REs w m xs cs L) (hf : FP g ks d L) (hks : ∀ k ∈ ks, U k) (hrow : ∀ k ∈ ks, ∃ e m xs d, st.ob k = .row e m xs d) (hnd : ks.Nodup) {s : Sem Next} (hrun : s.run P w = .ok (.value v) w') :
    Fin P W U key st g w s (.p false [.row key], goneAll ks ++ [(key, .row e m xs d)]) := by
  have hlt := hr.lt
  have hF := hI.nodupF hnd
  have hDmem : ∀ b ∈ (if d = 2 then L else []), b ∈ L ∧ d = 2 := fun b mb => by
    split at mb
    · rename_i hd; exact ⟨mb, hd⟩
    · simp at mb
  obtain ⟨h1, h2⟩ := hI.turn (key := key) (U := U) (w' := w') (v := v) (O := [w.heap.size]) (D := if d = 2 then L else []) (o := .row e m xs d) hU.ob hkey ks hks
    (hI.below.trans hb) hb.size (fun b hb' _ => hb.block b hb') (by simp) (fun b mb => by
      obtain ⟨m1, m2⟩ := hDmem b mb
      exact .inl (mem_F ((hf.1 m2).subset m1)))
    (by
      simp only [List.singleton_append, List.nodup_cons]
      refine ⟨fun mb => ?_, ?_⟩
      · have := hlt _ (hDmem _ mb).1; omega
      · split
        · rename_i hd; exact hF.sublist (hf.1 hd)
        · simp)
    (fun b mb => by
      simp only [List.singleton_append, List.mem_cons] at mb
      rcases mb with rfl | mb
      · exact ⟨.inl hI.below.size, hpl⟩
      · obtain ⟨m1, m2⟩ := hDmem b mb
        obtain ⟨k, k1, mk⟩ := mem_F ((hf.1 m2).subset m1)
        obtain ⟨p1, p2⟩ := hI.plain k b mk
        obtain ⟨_, _, _, _, hob⟩ := hrow k k1
        rw [hob] at p2
        exact ⟨p1, p2.keep (hb.block b (hlt b m1))⟩)
    (fun _ => ⟨hm, cs, L, by simpa [Gh.turn, upd] using hown, hr.keep fun b mb => hb.block b (hlt b mb), by
      have q1 := hf.2.1
      have q2 := hf.2.2.1
      by_cases hd : d = 2
      · exact .inl ⟨hd, by simp [Gh.turn, upd, hv], by simp [Gh.turn, hd]⟩
      · refine .inr (.inl ⟨by omega, by simp [Gh.turn, upd, hv], by simp [Gh.turn, hd], fun b mb ho => ?_⟩)
        have hb' := hlt b mb
        rcases turn_own ho with mo | ⟨k, k1, _, mk⟩ | hz
        · simp at mo; omega
        · rcases hf.2.2.2 b mb with hn | ⟨q, q1, q2⟩
          · exact hn (.inl ⟨k, mk⟩)
          · exact hI.apart k q (fun e => k1 (e ▸ q1)) b (by simp [mk]) (by simp [q2])
        · rcases hf.2.2.2 b mb with hn | ⟨q, q1, q2⟩
          · exact hn (.inr hz)
          · exact hI.nz (k := q) (by simp [q2]) hz⟩)
  have hwf := wf_turn (key := key) (o := .row e m xs d) hU ks trivial
  refine ⟨_, _, _, .inl hrun, h1, ⟨_, rfl, ⟨by simp [Gh.turn, upd], ?_⟩⟩, h2, fun y my => by simp at my; subst my; exact key_in, hwf.1, hwf.2⟩
  obtain ⟨A, cap, hv'⟩ := own_val hown
  simp [hv', Value.oneCell']
theorem updAll_frz (st : St) : ∀ (ks : List Nat) (ob : Nat → Ob) (k : Nat), updAll ob (frzAll st ks) k = if k ∈ ks then frzOb (st.ob k) else ob k
  | [], ob, k => by simp [frzAll, updAll]
  | j :: r, ob, k => by
    show updAll (upd ob j (frzOb (st.ob j))) (frzAll st r) k = _
    rw [updAll_frz st r]
    by_cases h : k ∈ r
    · simp [h]
    · by_cases hj : k = j
      · subst hj; simp [h, upd]
      · simp [h, hj, upd]
theorem updAll_turnF (st : St) (ks : List Nat) (ob : Nat → Ob) (key : Nat) (o : Ob) (k : Nat) : updAll ob (frzAll st ks ++ [(key, o)]) k = if k = key then o else if k ∈ ks then frzOb (st.ob k) else ob k := by
  rw [updAll_append]
  show upd (updAll ob (frzAll st ks)) key o k = _
  by_cases h : k = key
  · simp [upd, h]
  · simp only [upd, h, if_false]; exact updAll_frz st ks ob k
theorem avT_keys {x : AV} {ct : CT} {ks : List Nat} {d : Nat} (h : avT st x = some (ct, ks, d)) : ∀ k ∈ ks, ∃ e m xs d, st.ob k = .row e m xs d := by
  intro k mk
  cases x with
  | c y => cases y <;> simp only [avT, Option.some.injEq, Prod.mk.injEq] at h <;> (rw [← h.2.1] at mk; simp at mk)
  | nil e m =>
    simp only [avT] at h
    split at h <;> simp only [Option.some.injEq, Prod.mk.injEq, reduceCtorEq] at h
    rw [← h.2.1] at mk; simp at mk
  | row j =>
    simp only [avT] at h
    split at h
    · rename_i e m xs d' hj
      split at h <;> simp only [Option.some.injEq, Prod.mk.injEq] at h
      · rw [← h.2.1] at mk; simp at mk
      · rw [← h.2.1] at mk; simp at mk; subst mk; exact ⟨_, _, _, _, hj⟩
    · simp at h
  | dead => simp [avT] at h
theorem avTs_keys : ∀ {xs : List AV} {cts : List CT} {ks : List Nat} {d : Nat}, avTs st xs = some (cts, ks, d) → ∀ k ∈ ks, ∃ e m xs d, st.ob k = .row e m xs d
  | [], _, _, _, h, k, mk => by simp only [avTs, Option.some.injEq, Prod.mk.injEq] at h; rw [← h.2.1] at mk; simp at mk
  | x :: r, _, _, _, h, k, mk => by
    simp only [avTs] at h
    obtain ⟨⟨c1, k1, d1⟩, h1, h⟩ := Option.bind_eq_some_iff.1 h
    obtain ⟨⟨c2, k2, d2⟩, h2, h⟩ := Option.map_eq_some_iff.1 h
    simp only [Prod.mk.injEq] at h
    rw [← h.2.1] at mk
    rcases List.mem_append.1 mk with mk | mk
    · exact avT_keys h1 k mk
    · exact avTs_keys h2 k mk
theorem elemsS_keys {m : Nat} : ∀ {xs : List SV} {es : List (List CT)} {ks : List Nat} {d : Nat}, elemsS st m xs = some (es, ks, d) → ∀ k ∈ ks, ∃ e m xs d, st.ob k = .row e m xs d
  | [], _, _, _, h, k, mk => by simp only [elemsS, Option.some.injEq, Prod.mk.injEq] at h; rw [← h.2.1] at mk; simp at mk
  | x :: r, _, _, _, h, k, mk => by
    cases x with
    | p a cs =>
      simp only [elemsS] at h
      split at h
      · obtain ⟨⟨c1, k1, d1⟩, h1, h⟩ := Option.bind_eq_some_iff.1 h
        obtain ⟨⟨c2, k2, d2⟩, h2, h⟩ := Option.map_eq_some_iff.1 h
        simp only [Prod.mk.injEq] at h
        rw [← h.2.1] at mk
        rcases List.mem_append.1 mk with mk | mk
        · exact avTs_keys h1 k mk
        · exact elemsS_keys h2 k mk
      · simp at h
    | _ => simp [elemsS] at h
/-- the same, where the rows that the new one takes up are still read -/
theorem newRow_frz (hI : HI W g st.ob w) (hU : StU U st) (hkey : ¬ U key) {e m : Nat} (hm : 0 < m) {xs : List (List CT)} {ks : List Nat} {d : Nat} {L : List Nat} {cs : List Value} {v : Value} (hown : w'.ownsV 0 e m v xs.length cs) (hv : v.ownBlock = some w.heap.size)
    (hb : Below w.heap.size w w') (hpl : ∃ cur e, w'.heap[w.heap.size]? = some (.cells cur e (0, 0))) (hr : REs w m xs cs L) (hf : FP g ks d L) (hks : ∀ k ∈ ks, U k) (hrow : ∀ k ∈ ks, ∃ e m xs d, st.ob k = .row e m xs d) (hnd : ks.Nodup) {s : Sem Next} (hrun : s.run P w = .ok (.value v) w') :
    Fin P W U key st g w s (.p false [.row key], frzAll st ks ++ [(key, .row e m xs d)]) := by
  have hlt := hr.lt
  have hF := hI.nodupF hnd
  have hDmem : ∀ b ∈ (if d = 2 then L else []), b ∈ L ∧ d = 2 := fun b mb => by
    split at mb
    · rename_i hd; exact ⟨mb, hd⟩
    · simp at mb
  obtain ⟨h1, h2⟩ := hI.turn (key := key) (U := U) (w' := w') (v := v) (O := [w.heap.size]) (D := if d = 2 then L else []) (o := .row e m xs d) hU.ob hkey ks hks
    (hI.below.trans hb) hb.size (fun b hb' _ => hb.block b hb') (by simp) (fun b mb => by
      obtain ⟨m1, m2⟩ := hDmem b mb
      exact .inl (mem_F ((hf.1 m2).subset m1)))
    (by
      simp only [List.singleton_append, List.nodup_cons]
      refine ⟨fun mb => ?_, ?_⟩
      · have := hlt _ (hDmem _ mb).1; omega
      · split
        · rename_i hd; exact hF.sublist (hf.1 hd)
        · simp)
    (fun b mb => by
      simp only [List.singleton_append, List.mem_cons] at mb
      rcases mb with rfl | mb
      · exact ⟨.inl hI.below.size, hpl⟩
      · obtain ⟨m1, m2⟩ := hDmem b mb
        obtain ⟨k, k1, mk⟩ := mem_F ((hf.1 m2).subset m1)
        obtain ⟨p1, p2⟩ := hI.plain k b mk
        obtain ⟨_, _, _, _, hob⟩ := hrow k k1
        rw [hob] at p2
        exact ⟨p1, p2.keep (hb.block b (hlt b m1))⟩)
    (fun _ => ⟨hm, cs, L, by simpa [Gh.turn, upd] using hown, hr.keep fun b mb => hb.block b (hlt b mb), by
      have q1 := hf.2.1
      have q2 := hf.2.2.1
      by_cases hd : d = 2
      · exact .inl ⟨hd, by simp [Gh.turn, upd, hv], by simp [Gh.turn, hd]⟩
      · refine .inr (.inl ⟨by omega, by simp [Gh.turn, upd, hv], by simp [Gh.turn, hd], fun b mb ho => ?_⟩)
        have hb' := hlt b mb
        rcases turn_own ho with mo | ⟨k, k1, _, mk⟩ | hz
        · simp at mo; omega
        · rcases hf.2.2.2 b mb with hn | ⟨q, q1, q2⟩
          · exact hn (.inl ⟨k, mk⟩)
          · exact hI.apart k q (fun e => k1 (e ▸ q1)) b (by simp [mk]) (by simp [q2])
        · rcases hf.2.2.2 b mb with hn | ⟨q, q1, q2⟩
          · exact hn (.inr hz)
          · exact hI.nz (k := q) (by simp [q2]) hz⟩)
  have hkk : ∀ k ∈ ks, k ≠ key := fun k mk e => hkey (e ▸ hks k mk)
  have h1' : HI W (g.turn ks key v [w.heap.size] (if d = 2 then L else [])) (updAll st.ob (frzAll st ks ++ [(key, .row e m xs d)])) w' := by
    refine ⟨h1.below, fun k => ?_, h1.nodup, h1.apart, fun k b mb => ?_, h1.gz, h1.zx⟩
    rotate_left
    · have hp := h1.plain k b mb
      rw [updAll_turn] at hp
      rw [updAll_turnF]
      by_cases hk : k = key
      · rw [if_pos hk] at hp ⊢; exact hp
      · rw [if_neg hk] at hp ⊢
        by_cases hm' : k ∈ ks
        · rw [if_pos hm'] at hp ⊢
          obtain ⟨e2, m2, xs2, d2, hob⟩ := hrow k hm'
          rw [hob]
          exact hp
        · rw [if_neg hm'] at hp ⊢; exact hp
    have ho := h1.obs k
    rw [updAll_turn] at ho
    rw [updAll_turnF]
    by_cases hk : k = key
    · rw [if_pos hk] at ho ⊢; exact ho
    · rw [if_neg hk] at ho ⊢
      by_cases hm' : k ∈ ks
      · rw [if_pos hm'] at ho ⊢
        obtain ⟨e2, m2, xs2, d2, hob⟩ := hrow k hm'
        obtain ⟨p1, cs2, L2, p2, p3, p4, p5⟩ := hI.deep hob
        rw [hob]
        have hval : (g.turn ks key v [w.heap.size] (if d = 2 then L else [])).val k = g.val k := by simp [Gh.turn, upd, hk]
        have hl2 := p3.lt
        have hl1 := own_lt p2
        refine ⟨p1, cs2, L2, by rw [hval]; exact ownsV_keep p2 fun b mb => hb.block b (hl1 b mb), p3.keep fun b mb => hb.block b (hl2 b mb), .inr (.inr ⟨rfl, ho.1, ho.2, fun b mb hob' => ?_⟩)⟩
        rw [hval] at mb
        have hbl : b < w.heap.size := by
          rcases List.mem_append.1 mb with m1 | m1
          · exact hl1 b m1
          · exact hl2 b m1
        rcases turn_own hob' with mo | ⟨j, j1, _, mj⟩ | hz
        · simp at mo; omega
        · rcases List.mem_append.1 mb with m1 | m1
          · rcases p5 with ⟨_, q1, _⟩ | ⟨_, q1, _⟩ | ⟨_, _, _, q⟩
            · exact hI.apart j k (fun e => j1 (e ▸ hm')) b (by simp [mj]) (by simp [q1, m1])
            · exact hI.apart j k (fun e => j1 (e ▸ hm')) b (by simp [mj]) (by simp [q1, m1])
            · exact q b m1 (.inl ⟨j, mj⟩)
          · exact p4 b m1 (.inl ⟨j, mj⟩)
        · rcases List.mem_append.1 mb with m1 | m1
          · rcases p5 with ⟨_, q1, _⟩ | ⟨_, q1, _⟩ | ⟨_, _, _, q⟩
            · exact hI.nz (k := k) (by simp [q1, m1]) hz
            · exact hI.nz (k := k) (by simp [q1, m1]) hz
            · exact q b m1 (.inr hz)
          · exact p4 b m1 (.inr hz)
      · rw [if_neg hm'] at ho ⊢; exact ho
  have hfz : ∀ k, obU U (frzOb (st.ob k)) := fun k => by
    have := hU.ob k
    cases hk : st.ob k <;> simp only [frzOb] <;> first | trivial | (rw [hk] at this; exact this)
  refine ⟨_, _, _, .inl hrun, h1', ⟨_, rfl, ⟨by simp [Gh.turn, upd], ?_⟩⟩, h2, fun y my => by simp at my; subst my; exact key_in, fun k => ?_, fun k hk => ?_⟩
  · obtain ⟨A, cap, hv'⟩ := own_val hown
    simp [hv', Value.oneCell']
  · rw [updAll_turnF]
    split
    · trivial
    · split
      · exact (hfz k).mono fun _ => .inl
      · exact (hU.ob k).mono fun _ => .inl
  · rw [updAll_turnF, if_neg (fun e => hk (.inr (by omega)))]
    have e := hU.gone k fun h => hk (.inl h)
    split
    · rw [e]; rfl
    · exact e
end
end Go.Proofs.YtlkgkkacnoaeaaaGreatDoor

namespace Go.Proofs.YtlkgkkacnoaeaaaGreatDoor
open Go.RowKit
section
variable {P : Program} {W : Base} {U : Nat → Prop} {key : Nat} {st : St} {g : Gh} {w w' : World} {a : Act} {tt : Nat → Option TI}
theorem bsl_ok (htt : ∀ t i, tt t = some i → TOk P t i) (hI : HI W g st.ob w) (hS : ∀ t, SVR g w (st.sl t) (a.tmps.getD t undef)) (hU : StU U st) (hkey : ¬ U key) {t len e m bytes : Nat} {z : List AV} (hti : tt t = some (.slice e m bytes z)) {parts : Array (Nat × Operand)} {xs : List (List CT)} {ks : List Nat} {d : Nat}
    (h : elemsS st m (parts.toList.map fun p => st.ev tt e p.2) = some (xs, ks, d)) (hr : parts.toList.map (·.1) = List.range len) (hl : len * m ≤ 16777216) (hnd : ks.Nodup) {s : Sem Next} (hs : s = (do pure (.value (← Instr.buildSlice t len (parts.map fun (i, x) => (i, a.eval x)))))) :
    Fin P W U key st g w s (.p false [.row key], frzAll st ks ++ [(key, .row e m xs d)]) := by
  obtain ⟨hu, hm, _, ⟨ie, zv, hie, hsz, hby, hz, hzc, hzl⟩, _⟩ := htt t _ hti
  have hall : All2 (fun s v => SVR g w s v ∧ svU U s) (parts.toList.map fun p => st.ev tt e p.2) (parts.toList.map fun p => a.eval p.2) := All2.of_map _ _ fun p _ => ev_ok htt hS hU e p.2
  obtain ⟨cs, L, c1, c2, c3, c4⟩ := elems_ok hI h hall
  have hlen : parts.toList.length = len := by have := congrArg List.length hr; simpa using this
  have hcl : cs.length = len := by rw [c1.len]; simpa using hlen
  have hxl : xs.length = len := by
    have h1 := c2.len
    have h2 : cs.flatten.length = len * m := by
      have : ∀ (cs : List (List Value)) (vs : List Value), All2 (fun (c : List Value) (v : Value) => v.cells = c.toArray ∧ c.length = m ∧ ∀ u ∈ c, u.oneCell' = true) cs vs → cs.flatten.length = cs.length * m := by
        intro cs
        induction cs with
        | nil => intro _ _; simp
        | cons c cs ih =>
          intro vs hh
          cases vs with
          | nil => exact hh.elim
          | cons v vs => simp [ih vs hh.2, hh.1.2.1, Nat.add_mul]; omega
      rw [this cs _ c1, hcl]
    rw [h2] at h1
    exact (Nat.eq_of_mul_eq_mul_right hm h1).symm
  have hparts : (parts.map fun x => match x with | (i, x) => (i, a.eval x)).toList = (List.range' 0 (parts.toList.map fun p => a.eval p.2).length).zip (parts.toList.map fun p => a.eval p.2) := by
    have e1 : (parts.map fun x => match x with | (i, x) => (i, a.eval x)).toList = (parts.toList.map (·.1)).zip (parts.toList.map fun p => a.eval p.2) := by
      rw [List.zip_map']; simp
    rw [e1, hr, List.range_eq_range']
    simp [hlen]
  have hrun : (Instr.buildSlice t len (parts.map fun (i, x) => (i, a.eval x))).run P w = .ok (.slice (some ⟨w.heap.size, 0, none⟩) len len) (w.alloc (.cells cs.flatten.toArray e)) := by
    have hcells : ∀ base : List Value, base.length = len * m → Instr.fill (fun i => some (i * m, m)) base.toArray (parts.map fun x => match x with | (i, x) => (i, a.eval x)).toList = some cs.flatten.toArray := fun base hb => by
      rw [hparts]
      have := fill_seq cs (parts.toList.map fun p => a.eval p.2) 0 [] base c1 (by simp) (by simpa [hlen] using hb)
      simpa using this
    by_cases h0 : len = 0
    · subst h0
      have hcs0 : cs = [] := List.eq_nil_of_length_eq_zero hcl
      subst hcs0
      have hp0 : parts = #[] := by
        have : parts.toList = [] := List.eq_nil_of_length_eq_zero hlen
        simpa using this
      subst hp0
      simp [Instr.buildSlice, run_und hu, run_size hie, Instr.fill, newRow, Array.range_zero']
    · have hpos : ¬ len * ie.size = 0 := by
        rw [hsz]; intro e; rcases Nat.mul_eq_zero.1 e with e | e <;> omega
      refine run_buildSlice w t e len _ _ ie zv hu hie hz (by rw [hsz]; omega) hpos ?_
      rw [hsz]
      have hb := hcells ((Array.range (len * m)).map (zv.cells[· % zv.cells.size]!)).toList (by simp)
      rw [Array.toArray_toList] at hb
      exact hb
  have hown := ownsV_of <| World.ownsRow_lit (base := 0) (e := e) (size := m) w cs.flatten.toArray len (Nat.zero_le _) (by unfold maxLen; have := Nat.le_mul_of_pos_right len hm; omega) (by
    have h1 := c2.len
    rw [hxl] at h1
    simpa using h1)
  refine newRow_frz hI hU hkey hm (v := .slice (some ⟨w.heap.size, 0, none⟩) len len) (cs := cs.flatten) (w' := w.alloc (.cells cs.flatten.toArray e)) (by rw [hxl]; simpa using hown) rfl ((Below.refl _ _).alloc (Nat.le_refl _) _) ⟨_, _, heap_alloc_new w _⟩ c2 c3 c4 (elemsS_keys h) hnd ?_
  subst hs
  simp only [Sem.run_bind, hrun, Result.andThen_ok, Sem.run_pure]
theorem REs_replicate {m : Nat} {ze : List CT} {zc : List Value} (h : RCs w ze zc []) (hl : zc.length = m) : ∀ n : Nat, REs w m (List.replicate n ze) (List.replicate n zc).flatten []
  | 0 => by simp [REs]
  | n + 1 => by
    rw [List.replicate_succ, List.replicate_succ, List.flatten_cons]
    exact ⟨zc, _, [], [], rfl, rfl, ⟨h, hl⟩, REs_replicate h hl n⟩
theorem zCTs_ok : ∀ {z : List AV} {zs : List Value} {ze : List CT}, zCTs z = some ze → All2 (fun a v => constB a v = true) z zs → RCs w ze zs []
  | [], [], ze, h, _ => by simp [zCTs] at h; subst h; exact ⟨rfl, rfl⟩
  | [], _ :: _, _, _, h => h.elim
  | _ :: _, [], _, _, h => h.elim
  | .c x :: z, v :: zs, ze, h, hr => by
    simp only [zCTs] at h
    obtain ⟨b, h1, rfl⟩ := Option.map_eq_some_iff.1 h
    have hx := const_AVR (g := ⟨fun _ => undef, fun _ => [], fun _ => [], fun _ => False⟩) (w := w) hr.1
    obtain ⟨L, hL, _⟩ := hx
    have hL0 : L = [] := by
      have := hr.1
      cases x with
      | int k n => exact hL.2
      | bool b => exact hL.2
      | str s => exact hL.2.1
      | _ => simp [constB] at this
    subst hL0
    exact ⟨v, zs, [], [], rfl, rfl, hL, zCTs_ok h1 hr.2⟩
  | .nil e m :: z, v :: zs, ze, h, hr => by
    simp only [zCTs] at h
    split at h
    · rename_i hm
      obtain ⟨b, h1, rfl⟩ := Option.map_eq_some_iff.1 h
      have hv : v = .slice none 0 0 := const_AVR (g := ⟨fun _ => undef, fun _ => [], fun _ => [], fun _ => False⟩) (w := w) hr.1
      subst hv
      exact ⟨_, zs, [], [], rfl, rfl, ⟨none, 0, [], [], [], rfl, by simp, Nat.zero_le _, rfl, hm, Sl.zero, rfl, rfl⟩, zCTs_ok h1 hr.2⟩
    · simp at h
  | .row k :: z, v :: zs, ze, h, _ => by simp [zCTs] at h
  | .dead :: z, v :: zs, ze, h, _ => by simp [zCTs] at h
theorem made_flat (z : Array Value) (m : Nat) (hz : z.size = m) (hm : 0 < m) : ∀ n : Nat, (madeCells z (n * m)).toList = (List.replicate n z.toList).flatten
  | 0 => by simp [madeCells]
  | n + 1 => by
    have ih := made_flat z m hz hm n
    rw [List.replicate_succ', List.flatten_append, ← ih]
    simp only [madeCells, Array.toList_map, Array.toList_range, Nat.add_mul, Nat.one_mul, List.range_add, List.map_append, List.map_map, List.flatten_cons, List.flatten_nil, List.append_nil]
    congr 1
    apply List.ext_getElem?
    intro j
    by_cases hj : j < m
    · simp only [List.getElem?_map, List.getElem?_range hj, Option.map_some, Function.comp]
      have e : (n * m + j) % z.size = j := by
        rw [hz, Nat.add_comm, Nat.add_mul_mod_self_right, Nat.mod_eq_of_lt hj]
      have hjz : j < z.size := by omega
      simp [e, hjz]
    · have h1 : z.size ≤ j := by omega
      simp [hj, h1]
theorem make_ok (htt : ∀ t i, tt t = some i → TOk P t i) (hI : HI W g st.ob w) (hU : StU U st) (hkey : ¬ U key) {t e m bytes : Nat} {z : List AV} (hti : tt t = some (.slice e m bytes z)) {n : Nat} {ze : List CT} (hz : zCTs z = some ze) (hn : n ≤ 1073741824) {s : Sem Next}
    (hs : s = (do pure (.value (← Instr.makeSlice t (.int .i64 n) (.int .i64 n))))) : Fin P W U key st g w s (.p false [.row key], [(key, .row e m (List.replicate n ze) 2)]) := by
  obtain ⟨hu, hm, hby0, ⟨ie, zv, hie, hsz, hby, hzz, hzc, hzl⟩, _⟩ := htt t _ hti
  have hb' : ie.bytes * n ≤ 281474976710656 := by
    have := Nat.mul_le_mul (show ie.bytes ≤ 131072 by omega) hn
    omega
  obtain ⟨w', r1, r2, r3⟩ := run_make_full (P := P) w 0 t e ie zv m hu hie hzz hsz .i64 .i64 n hb' (by unfold maxLen; omega) (Nat.zero_le _)
  have hzs : zv.cells.size = m := by rw [← hzl, hzc.len]; simp
  rw [made_flat zv.cells m hzs hm n] at r2
  have hre := REs_replicate (zCTs_ok (w := w) hz hzc) (by simpa using hzs) n
  have hb : Below w.heap.size w w' := (Below.refl _ _).grown r3 (Nat.le_refl _) (by simp)
  have hpl : ∃ cur e, w'.heap[w.heap.size]? = some (.cells cur e (0, 0)) := by
    rcases r2.2 with ⟨h', _⟩ | ⟨g', cap', cur, h', _, hg, _⟩
    · simp at h'
    · simp at h'
      rw [← h'.1] at hg
      exact ⟨cur, e, hg⟩
  have := newRow_ok (ks := []) (d := 2) hI hU hkey hm (xs := List.replicate n ze) (by simpa using ownsV_of r2) rfl hb hpl hre FP.nil (by simp) (by simp) (by simp) (s := s) (P := P) (by subst hs; simp only [Sem.run_bind, r1, Result.andThen_ok, Sem.run_pure])
  simpa [goneAll] using this
theorem append_none {t e : TypeId} {ty : TypeId} {ie : TypeInfo} (hu : P.underlying t = some (.slice e)) (hie : P.info? e = some ie) (A B : Option Addr) (n c c' : Nat) (hnc : n ≤ c) :
    (Builtin.append_ #[t, t] ty #[.slice A n c, .slice B 0 c']).run P w = .ok (.slice A n c) w := by
  cases A <;> cases B <;> simp [Builtin.append_, run_und hu, run_size hie, Builtin.lenOf, Builtin.firstCells, loadCells, loadCellsFrom, storeCells, hnc]
theorem RCs_flat : ∀ {e : List CT} {cs : List Value} {L : List Nat}, RCs w e cs L → e.all CT.flat = true → L = []
  | [], _, _, h, _ => h.2
  | x :: r, _, _, ⟨v, cs', L1, L2, rfl, rfl, h1, h2⟩, hf => by
    simp only [List.all_cons, Bool.and_eq_true] at hf
    have e1 : L1 = [] := by
      cases x with
      | int k n => exact h1.2
      | bool b => exact h1.2
      | str s => exact h1.2.1
      | _ => simp [CT.flat] at hf
    rw [e1, RCs_flat h2 hf.2]; rfl
theorem REs_flat {m : Nat} : ∀ {xs : List (List CT)} {cs : List Value} {L : List Nat}, REs w m xs cs L → flatEs xs = true → L = []
  | [], _, _, h, _ => h.2
  | x :: r, _, _, ⟨c1, c2, L1, L2, rfl, rfl, h1, h2⟩, hf => by
    simp only [flatEs, List.all_cons, Bool.and_eq_true] at hf
    rw [RCs_flat h1.1 hf.1, REs_flat h2 hf.2]; rfl
theorem REs.append {m : Nat} : ∀ {xs ys : List (List CT)} {us vs : List Value} {L M : List Nat}, REs w m xs us L → REs w m ys vs M → REs w m (xs ++ ys) (us ++ vs) (L ++ M)
  | [], _, _, _, _, _, h, h' => by obtain ⟨rfl, rfl⟩ := h; simpa using h'
  | _ :: _, _, _, _, _, _, ⟨c1, c2, L1, L2, rfl, rfl, h3, h4⟩, h' => ⟨c1, c2 ++ _, L1, L2 ++ _, by simp, by simp, h3, h4.append h'⟩
theorem REs.one {m : Nat} : ∀ {xs : List (List CT)} {cs : List Value} {L : List Nat}, REs w m xs cs L → ∀ u ∈ cs, u.oneCell' = true
  | [], _, _, h => by simp [h.1]
  | _ :: _, _, _, ⟨c1, c2, L1, L2, rfl, rfl, h3, h4⟩ => fun u mu => by
    rcases List.mem_append.1 mu with mu | mu
    · exact h3.1.one u mu
    · exact h4.one u mu
theorem dmin_two {a b : Nat} (h : dmin a b = 2) (ha : a ≤ 2) (hb : b ≤ 2) : a = 2 ∧ b = 2 := by unfold dmin at h; split at h <;> omega
theorem flatD_two {fl : Bool} {xs : List (List CT)} (h : flatD fl xs = 2) : flatEs xs = true := by unfold flatD at h; split at h <;> simp_all
theorem flatD_le (fl : Bool) (xs : List (List CT)) : flatD fl xs ≤ 2 := by unfold flatD; split <;> omega
theorem flatD_pos (fl : Bool) (xs : List (List CT)) : 0 < flatD fl xs := by unfold flatD; split <;> omega
/-- what is appended to -/
theorem HI.plainD {ob : Nat → Ob} (h : HI W g ob w) {k b : Nat} (m : b ∈ g.D k) : (W.heap.size ≤ b ∨ W.x b) ∧ ∃ cur e, w.heap[b]? = some (.cells cur e (0, 0)) := by
  have h1 := h.plain k b (by simp [m])
  have h2 := h.obs k
  cases hk : ob k with
  | map kk vk kv =>
    rw [hk] at h2
    obtain ⟨_, _, _, _, _, h3, _⟩ := h2
    rw [h3] at m; simp at m
  | _ => rw [hk] at h1; exact h1
theorem dst_ok (hI : HI W g st.ob w) {x : SV} {v : Value} {e m : Nat} {xs : List (List CT)} {ks : List Nat} {d : Nat} (h : appDst st x = some (xs, ks, d)) (hok : dstOk st e m x = true) (hx : SVR g w x v) (hu : svU U x) :
    ∃ cs L, w.ownsV 0 e m v xs.length cs ∧ REs w m xs cs L ∧ (∀ b ∈ L, ¬ g.own b) ∧ (d = 2 → L = ks.flatMap g.D) ∧ v.ownBlock.toList = ks.flatMap g.O ∧ (∀ k ∈ ks, U k) ∧ d ≤ 2 ∧ 0 < d := by
  unfold appDst at h
  split at h
  · simp only [Option.some.injEq, Prod.mk.injEq] at h
    obtain ⟨rfl, rfl, rfl⟩ := h
    have := nil_of hx
    subst this
    exact ⟨[], [], ownsV_nil _ _ _ _, ⟨rfl, rfl⟩, by simp, by simp, by simp [Value.ownBlock], by simp, by simp, by simp⟩
  · rename_i k
    split at h
    · rename_i e' m' xs' d' hk
      split at h
      · simp at h
      rename_i hd0
      simp only [Option.some.injEq, Prod.mk.injEq] at h
      obtain ⟨rfl, rfl, rfl⟩ := h
      simp only [dstOk, hk, Bool.and_eq_true, beq_iff_eq] at hok
      obtain ⟨rfl, rfl⟩ := hok
      have := row_of hx
      subst this
      obtain ⟨hm, cs, L, o1, o2, o3, o4, o5⟩ := hI.deepO hk hd0
      refine ⟨cs, L, o1, o2, o3, fun hd => ?_, by simp [o4], fun q mq => by simp at mq; subst mq; exact hu (.row q) (by simp), ?_, by omega⟩
      · rcases o5 with ⟨_, o5⟩ | ⟨o5, _⟩
        · simp [o5]
        · omega
      · rcases o5 with ⟨o5, _⟩ | ⟨o5, _⟩ <;> omega
    · simp at h
  · simp at h
/-- what is appended -/
theorem src_ok (hI : HI W g st.ob w) {x : SV} {v : Value} {m : Nat} {xs : List (List CT)} {ks : List Nat} {d : Nat} {fl : Bool} (h : appSrc st fl x = some (xs, ks, d)) (hok : srcOk st m x = true) (hx : SVR g w x v) (hu : svU U x) :
    ∃ A c cs L, v = .slice A xs.length c ∧ REs w m xs cs L ∧ (0 < xs.length → ∃ b off, A = some ⟨b, off, none⟩ ∧ CellsAt w b off cs) ∧ (∀ b ∈ L, ¬ g.own b) ∧ (d = 2 → L.Sublist (ks.flatMap g.D)) ∧ (∀ k ∈ ks, U k) ∧ d ≤ 2 ∧ 0 < d := by
  unfold appSrc at h
  split at h
  · simp only [Option.some.injEq, Prod.mk.injEq] at h
    obtain ⟨rfl, rfl, rfl⟩ := h
    simp only [srcOk, beq_iff_eq] at hok
    subst hok
    obtain ⟨A, cap, cs, L0, L1, rfl, h2, h3, h5, h6, h7, ho⟩ := slice_of hx
    refine ⟨A, cap, cs, L1, rfl, h7, fun hp => ?_, fun b mb => ho b (by simp [mb]), fun hd => by rw [REs_flat h7 (flatD_two hd)]; simp, by simp, flatD_le _ _, flatD_pos _ _⟩
    obtain ⟨b, off, h8, _, h9⟩ := h6.at_ hp
    exact ⟨b, off, h8, h9⟩
  · simp only [Option.some.injEq, Prod.mk.injEq] at h
    obtain ⟨rfl, rfl, rfl⟩ := h
    have := nil_of hx
    subst this
    exact ⟨none, 0, [], [], rfl, ⟨rfl, rfl⟩, by simp, by simp, by simp, by simp, by simp, by simp⟩
  · rename_i k
    split at h
    · rename_i e' m' xs' d' hk
      simp only [srcOk, hk, beq_iff_eq] at hok
      subst hok
      have := row_of hx
      subst this
      obtain ⟨hm, cs, L, o1, o2, o3, o5⟩ := hI.deep hk
      obtain ⟨A, cap, L0, s1, s2, s3, s4, s5⟩ := Sl.row o1
      have hat : 0 < xs'.length → ∃ b off, A = some ⟨b, off, none⟩ ∧ CellsAt w b off cs := fun hp => by
        obtain ⟨b, off, h8, _, h9⟩ := s4.at_ hp
        exact ⟨b, off, h8, h9⟩
      split at h
      · simp only [Option.some.injEq, Prod.mk.injEq] at h
        obtain ⟨rfl, rfl, rfl⟩ := h
        exact ⟨A, cap, cs, L, s1, o2, hat, o3, fun hd => by rw [REs_flat o2 (flatD_two hd)]; simp, by simp, flatD_le _ _, flatD_pos _ _⟩
      · rename_i hd0
        simp only [Option.some.injEq, Prod.mk.injEq] at h
        obtain ⟨rfl, rfl, rfl⟩ := h
        refine ⟨A, cap, cs, L, s1, o2, hat, o3, fun hd => ?_, fun q mq => by simp at mq; subst mq; exact hu (.row q) (by simp), ?_, by omega⟩
        · rcases o5 with ⟨_, _, o5⟩ | ⟨o5, _⟩ | ⟨o5, _⟩
          · simp [o5]
          · omega
          · omega
        · rcases o5 with ⟨o5, _⟩ | ⟨o5, _⟩ | ⟨o5, _⟩ <;> omega
    · simp at h
  · simp at h
theorem HI.nodupD {ob : Nat → Ob} (hI : HI W g ob w) : ∀ {ks : List Nat}, ks.Nodup → (ks.flatMap g.D).Nodup
  | [], _ => by simp
  | k :: ks, h => by
    simp only [List.flatMap_cons, List.nodup_append]
    rw [List.nodup_cons] at h
    refine ⟨(List.nodup_append.1 (hI.nodup k)).2.1, hI.nodupD h.2, fun x hx y hy e => ?_⟩
    subst e
    obtain ⟨j, hj, hy⟩ := List.mem_flatMap.1 hy
    exact hI.apart k j (fun e => h.1 (e ▸ hj)) x (by simp [hx]) (by simp [hy])
theorem app_ok (htt : ∀ t i, tt t = some i → TOk P t i) (hI : HI W g st.ob w) (hU : StU U st) (hkey : ¬ U key) {t : Nat} {s x : SV} {vs vx : Value} {r : SV × List (Nat × Ob)} (h : appV st key (tt t) s x = some r) (hs : SVR g w s vs ∧ svU U s) (hx : SVR g w x vx ∧ svU U x) {ty : TypeId} {q : Sem Next}
    (hq : q = (do pure (.value (← Builtin.append_ #[t, t] ty #[vs, vx])))) : Fin P W U key st g w q r := by
  unfold appV at h
  split at h
  · rename_i e m bytes z hti
    obtain ⟨⟨xs, k1, d1⟩, h1, h⟩ := Option.bind_eq_some_iff.1 h
    obtain ⟨⟨ys, k2, d2⟩, h2, h⟩ := Option.bind_eq_some_iff.1 h
    split at h
    · rename_i hc
      simp only [Option.some.injEq] at h
      subst h
      obtain ⟨hc1, hc2, hc3, hc4⟩ := hc
      simp only at hc3 hc4
      obtain ⟨hu, hm, hby0, ⟨ie, zv, hie, hsz, hby, hzz, hzc, hzl⟩, _⟩ := htt t _ hti
      obtain ⟨cs, Lx, a1, a2, a3, a4, a5, a6, a7, a8⟩ := dst_ok hI h1 hc1 hs.1 hs.2
      obtain ⟨A, c, news, Ly, b0, b1, b2, b3, b4, b5, b7, b8⟩ := src_ok hI h2 hc2 hx.1 hx.2
      subst b0
      obtain ⟨A1, cap1, hv1, hv2, hv3⟩ := ownV_slice a1
      have hnl : news.length = ys.length * m := b1.len
      -- what the append gives
      obtain ⟨v', w', r1, r2, r3, r4⟩ : ∃ v' w', (Builtin.append_ #[t, t] ty #[vs, .slice A ys.length c]).run P w = .ok v' w' ∧ w'.ownsV 0 e m v' (xs.length + ys.length) (cs ++ news) ∧ w.grownBy w' vs.ownBlock ∧ (v'.ownBlock = vs.ownBlock ∨ v'.ownBlock = some w.heap.size) := by
        by_cases hy : ys.length = 0
        · have hn0 : news = [] := List.eq_nil_of_length_eq_zero (by rw [hnl, hy]; simp)
          refine ⟨vs, w, ?_, by rw [hn0, hy, List.append_nil]; exact a1, World.grownBy.refl _ _, .inl rfl⟩
          rw [hv1, hy]
          exact append_none hu hie A1 A _ _ _ hv2
        · obtain ⟨b, off, rfl, hcell⟩ := b2 (by omega)
          have hbytes : (xs.length + ys.length) * bytes ≤ 140737488355328 := by
            have := Nat.mul_le_mul hc4 hby0
            omega
          obtain ⟨v', w', q1, q2, q3, q5⟩ := run_append_ownV (P := P) w 0 t ty e ie zv m bytes hu hie hzz hsz hby (by rw [← hzl, hzc.len]; simp) hm vs xs.length cs a1 ⟨b, off, none⟩ ys.length c news hnl
            (fun j u hj => by rw [add_lit0]; exact hcell j u hj) b1.one (by unfold maxLen; omega) hbytes (Nat.zero_le _)
          exact ⟨v', w', q1, q2, q3, q5⟩
      have hnot : ∀ b, ¬ g.own b → some b ≠ vs.ownBlock := fun b hn e => hn (by
        have : b ∈ vs.ownBlock.toList := by simp [← e]
        rw [a5] at this
        obtain ⟨k, _, mk⟩ := List.mem_flatMap.1 this
        exact .inl ⟨k, mk⟩)
      have hkeepL : ∀ b ∈ Lx ++ Ly, w'.heap[b]? = w.heap[b]? := fun b mb => by
        rcases List.mem_append.1 mb with mb | mb
        · exact r3.block b (a2.lt b mb) (hnot b (a3 b mb))
        · exact r3.block b (b1.lt b mb) (hnot b (b3 b mb))
      have hREs : REs w' m (xs ++ ys) (cs ++ news) (Lx ++ Ly) := (a2.keep fun b mb => hkeepL b (by simp [mb])).append (b1.keep fun b mb => hkeepL b (by simp [mb]))
      have hOwn : ∀ b ∈ v'.ownBlock.toList, b ∈ k1.flatMap g.O ∨ b = w.heap.size := fun b mb => by
        rcases r4 with r4 | r4
        · rw [r4, a5] at mb; exact .inl mb
        · rw [r4] at mb; simp at mb; exact .inr mb
      have hDsub : (dmin d1 d2) = 2 → (Lx ++ Ly).Sublist ((k1 ++ k2).flatMap g.D) := fun hd => by
        have hd := dmin_two hd a7 b7
        rw [List.flatMap_append]
        exact List.Sublist.append (by rw [a4 hd.1]; exact List.Sublist.refl _) (b4 hd.2)
      have hDm : ∀ b ∈ (if (dmin d1 d2) = 2 then Lx ++ Ly else []), b ∈ Lx ++ Ly ∧ (dmin d1 d2) = 2 := fun b mb => by
        split at mb
        · rename_i hd; exact ⟨mb, hd⟩
        · simp at mb
      have hbel : Bel W w' := by
        refine ⟨r3.os.trans hI.below.os, r3.tape.trans hI.below.tape, r3.output.trans hI.below.output, Nat.le_trans hI.below.size r3.size, fun b hb hx' => ?_⟩
        rw [r3.block b (Nat.lt_of_lt_of_le hb hI.below.size) fun e => ?_]
        · exact hI.below.block b hb hx'
        · have : b ∈ vs.ownBlock.toList := by simp [← e]
          rw [a5] at this
          obtain ⟨k, _, mk⟩ := List.mem_flatMap.1 this
          rcases (hI.plain k b (by simp [mk])).1 with h | h
          · omega
          · exact hx' h
      obtain ⟨t1, t2⟩ := hI.turn (key := key) (U := U) (w' := w') (v := v') (O := v'.ownBlock.toList) (D := if (dmin d1 d2) = 2 then Lx ++ Ly else []) (o := .row e m (xs ++ ys) (dmin d1 d2)) hU.ob hkey (k1 ++ k2)
        (fun k mk => (List.mem_append.1 mk).elim (a6 k) (b5 k)) hbel r3.size (fun b hb hn => r3.block b hb fun e => by
          have : b ∈ vs.ownBlock.toList := by simp [← e]
          rw [a5] at this
          obtain ⟨k, hk, mk⟩ := List.mem_flatMap.1 this
          exact hn k (by simp [hk]) mk)
        (fun b mb => by
          rcases hOwn b mb with mb | rfl
          · obtain ⟨k, hk, mk⟩ := List.mem_flatMap.1 mb
            exact .inl ⟨k, by simp [hk], mk⟩
          · exact .inr (Nat.le_refl _))
        (fun b mb => by
          obtain ⟨m1, m2⟩ := hDm b mb
          obtain ⟨k, hk, mk⟩ := List.mem_flatMap.1 ((hDsub m2).subset m1)
          exact .inl ⟨k, hk, by simp [mk]⟩)
        (by
          rw [List.nodup_append]
          refine ⟨by cases v'.ownBlock <;> simp, ?_, fun b mb b' mb' e => ?_⟩
          · split
            · rename_i hd; exact (hI.nodupD hc3).sublist (hDsub hd)
            · simp
          · subst e
            obtain ⟨m1, m2⟩ := hDm b mb'
            rcases hOwn b mb with mb | rfl
            · obtain ⟨k, _, mk⟩ := List.mem_flatMap.1 mb
              rcases List.mem_append.1 m1 with m1 | m1
              · exact a3 b m1 (.inl ⟨k, mk⟩)
              · exact b3 b m1 (.inl ⟨k, mk⟩)
            · rcases List.mem_append.1 m1 with m1 | m1
              · have := a2.lt _ m1; omega
              · have := b1.lt _ m1; omega)
        (fun b mb => by
          rcases List.mem_append.1 mb with mb | mb
          · have hpl : W.heap.size ≤ b ∨ W.x b := by
              rcases hOwn b mb with mb | rfl
              · obtain ⟨k, _, mk⟩ := List.mem_flatMap.1 mb
                exact (hI.plain k b (by simp [mk])).1
              · exact .inl hI.below.size
            rcases r2.2 with ⟨h', _⟩ | ⟨g', o', cap', cur, h', hg0, hg, _⟩
            · simp [h', Value.ownBlock] at mb
            · simp [h', Value.ownBlock] at mb
              subst mb
              exact ⟨hpl, cur, e, hg⟩
          · obtain ⟨m1, m2⟩ := hDm b mb
            obtain ⟨k, hk, mk⟩ := List.mem_flatMap.1 ((hDsub m2).subset m1)
            obtain ⟨p1, cur, e', p2⟩ := hI.plainD mk
            exact ⟨p1, cur, e', by rw [hkeepL b m1]; exact p2⟩)
        (fun hown => ⟨hm, cs ++ news, Lx ++ Ly, by simpa [Gh.turn, upd] using r2, hREs, by
          by_cases hd : dmin d1 d2 = 2
          · exact .inl ⟨hd, by simp [Gh.turn, upd], by simp [Gh.turn, hd]⟩
          · have hd1 : dmin d1 d2 = 1 := by unfold dmin at hd ⊢; split <;> simp_all <;> omega
            refine .inr (.inl ⟨hd1, by simp [Gh.turn, upd], by simp [Gh.turn, hd], fun b mb ho => ?_⟩)
            have hnb : ¬ g.own b := by
              rcases List.mem_append.1 mb with m1 | m1
              · exact a3 b m1
              · exact b3 b m1
            rcases turn_own ho with mo | ⟨k, _, _, mk⟩ | hz
            · rcases hOwn b mo with mo | rfl
              · obtain ⟨k, _, mk⟩ := List.mem_flatMap.1 mo
                exact hnb (.inl ⟨k, mk⟩)
              · rcases List.mem_append.1 mb with m1 | m1
                · have := a2.lt _ m1; omega
                · have := b1.lt _ m1; omega
            · exact hnb (.inl ⟨k, mk⟩)
            · exact hnb (.inr hz)⟩)
      have hwf := wf_turn (key := key) (o := .row e m (xs ++ ys) (dmin d1 d2)) hU (k1 ++ k2) trivial
      refine ⟨_, v', w', .inl (by subst hq; simp only [Sem.run_bind, r1, Result.andThen_ok, Sem.run_pure]), t1, ⟨_, rfl, ⟨by simp [Gh.turn, upd], ?_⟩⟩, t2, fun y my => by simp at my; subst my; exact key_in, hwf.1, hwf.2⟩
      obtain ⟨A2, cap2, hv'⟩ := own_val r2
      simp [hv', Value.oneCell']
    · simp at h
  · simp at h
end
end Go.Proofs.YtlkgkkacnoaeaaaGreatDoor
