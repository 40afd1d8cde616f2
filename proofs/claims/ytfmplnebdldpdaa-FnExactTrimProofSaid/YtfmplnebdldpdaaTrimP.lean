/- TrimProof, plainly: which steps are kept, and what becomes of them. -/
import Derived.Test.YtfmplnebdldpdaaBT
namespace Go.Proofs.Ytfmplnebdldpdaa
/-- the uses that point back are marked -/
def markUses (i : Nat) : List Int → List Bool → List Bool
  | [], n => n
  | u :: r, n => markUses i r (if 0 ≤ u ∧ u < i then n.set u.toNat true else n)
def usesAt (l : List StepD) (i : Nat) : List Int := (l[i]?.map (·.uses)).getD []
/-- from step i down -/
def needTo (l : List StepD) : Nat → List Bool → List Bool
  | 0, n => n
  | i + 1, n => needTo l i (if (n[i]?).getD false then markUses i (usesAt l i) n else n)
def need0 (l : List StepD) (k : Nat) : List Bool := (List.replicate l.length false).set k true
def needOf (l : List StepD) (k : Nat) : List Bool := needTo l (k + 1) (need0 l k)
theorem markUses_len (i : Nat) : ∀ us n, (markUses i us n).length = n.length
  | [], _ => rfl
  | u :: r, n => by rw [markUses, markUses_len i r]; split <;> simp
/-- only places below i change, and only to true -/
theorem markUses_ge (i : Nat) : ∀ us n (j : Nat), i ≤ j → (markUses i us n)[j]? = n[j]?
  | [], _, _, _ => rfl
  | u :: r, n, j, hj => by
    rw [markUses, markUses_ge i r _ j hj]
    split
    · rename_i h; rw [List.getElem?_set_ne (by omega)]
    · rfl
theorem set_true {n : List Bool} {j m : Nat} (h : n[j]? = some true) : (n.set m true)[j]? = some true := by
  rw [List.getElem?_set]
  split
  · rename_i e; subst e; obtain ⟨h1, h2⟩ := List.getElem?_eq_some_iff.1 h; simp [h1]
  · exact h
theorem markUses_true (i : Nat) : ∀ us n (j : Nat), n[j]? = some true → (markUses i us n)[j]? = some true
  | [], _, _, h => h
  | u :: r, n, j, h => by
    rw [markUses]
    refine markUses_true i r _ j ?_
    split
    · exact set_true h
    · exact h
theorem markUses_mem (i : Nat) : ∀ us n (u : Int), u ∈ us → 0 ≤ u → u < i → i ≤ n.length → (markUses i us n)[u.toNat]? = some true
  | v :: r, n, u, h, h0, h1, hl => by
    rw [markUses]
    rcases List.mem_cons.1 h with h | h
    · subst h
      refine markUses_true i r _ _ ?_
      rw [if_pos ⟨h0, h1⟩, List.getElem?_set_self (by omega)]
    · exact markUses_mem i r _ u h h0 h1 (by split <;> simp [hl])
theorem needTo_len (l : List StepD) : ∀ c n, (needTo l c n).length = n.length
  | 0, _ => rfl
  | c + 1, n => by
    rw [needTo, needTo_len l c]
    split
    · rw [markUses_len]
    · rfl
theorem needTo_ge (l : List StepD) : ∀ c n (j : Nat), c ≤ j + 1 → (needTo l c n)[j]? = n[j]?
  | 0, _, _, _ => rfl
  | c + 1, n, j, hj => by
    rw [needTo, needTo_ge l c _ j (by omega)]
    split
    · exact markUses_ge c _ _ j (by omega)
    · rfl
theorem needTo_true (l : List StepD) : ∀ c n (j : Nat), n[j]? = some true → (needTo l c n)[j]? = some true
  | 0, _, _, h => h
  | c + 1, n, j, h => by
    rw [needTo]
    refine needTo_true l c _ j ?_
    split
    · exact markUses_true c _ _ j h
    · exact h
/-- what a kept step uses is kept -/
theorem needTo_closed (l : List StepD) : ∀ c n (i : Nat) (u : Int), i < c → c ≤ n.length → (needTo l c n)[i]? = some true → u ∈ usesAt l i → 0 ≤ u → u < i → (needTo l c n)[u.toNat]? = some true
  | c + 1, n, i, u, hi, hl, h, hu, h0, h1 => by
    rw [needTo] at h ⊢
    rcases Nat.lt_or_ge i c with hic | hic
    · refine needTo_closed l c _ i u hic ?_ h hu h0 h1
      split
      · rw [markUses_len]; omega
      · omega
    · have e : i = c := by omega
      subst e
      rw [needTo_ge l i _ i (by omega)] at h
      have hn : n[i]? = some true := by
        split at h
        · rwa [markUses_ge i _ _ i (Nat.le_refl _)] at h
        · exact h
      rw [hn]
      refine needTo_true l i _ _ ?_
      exact markUses_mem i _ _ u hu h0 h1 (by omega)
/-- beyond k nothing is kept -/
theorem needOf_beyond (l : List StepD) (k j : Nat) (hj : k < j) : ((needOf l k)[j]?).getD false = false := by
  rw [needOf, needTo_ge l _ _ j (by omega), need0, List.getElem?_set_ne (by omega), List.getElem?_replicate]
  split <;> rfl
theorem needOf_len (l : List StepD) (k : Nat) : (needOf l k).length = l.length := by simp [needOf, needTo_len, need0]
theorem needOf_closed (l : List StepD) (k i : Nat) (u : Int) (hk : k < l.length) (h : (needOf l k)[i]? = some true) (hu : u ∈ usesAt l i) (h0 : 0 ≤ u) (h1 : u < i) : (needOf l k)[u.toNat]? = some true := by
  have hi : i < k + 1 := by
    rcases Nat.lt_or_ge k i with h2 | h2
    · have := needOf_beyond l k i h2; rw [h] at this; simp at this
    · omega
  exact needTo_closed l (k + 1) _ i u hi (by simp [need0]; omega) h hu h0 h1
/-- the new places: how many kept steps lie before -/
def rank (n : List Bool) (i : Nat) : Nat := (n.take i).count true
def ranks (n : List Bool) (i : Nat) : List Int := (List.range i).map fun j => (rank n j : Int)
def reUse (n : List Bool) (i : Nat) (u : Int) : Int := if 0 ≤ u ∧ u < i then (rank n u.toNat : Int) else u
def reStep (n : List Bool) (i : Nat) (s : StepD) : StepD := { fact := s.fact, rule := s.rule, uses := s.uses.map (reUse n i) }
/-- the kept steps of the first i -/
def trimGo (n : List Bool) (l : List StepD) : Nat → List StepD
  | 0 => []
  | i + 1 => if (n[i]?).getD false then (match l[i]? with | some s => trimGo n l i ++ [reStep n i s] | none => trimGo n l i) else trimGo n l i
def trimOf (l : List StepD) (k : Int) : List StepD := if 0 ≤ k ∧ k < l.length then trimGo (needOf l k.toNat) l (k.toNat + 1) else []
theorem rank_succ (n : List Bool) (i : Nat) (hi : i < n.length) : rank n (i + 1) = rank n i + if (n[i]?).getD false then 1 else 0 := by
  rw [rank, rank, List.take_add_one, List.count_append]
  rw [List.getElem?_eq_getElem hi]
  cases h : n[i] <;> simp [h]
theorem trimGo_len (n : List Bool) (l : List StepD) : ∀ i, i ≤ l.length → n.length = l.length → (trimGo n l i).length = rank n i
  | 0, _, _ => by simp [trimGo, rank]
  | i + 1, hi, hn => by
    rw [rank_succ n i (by omega), trimGo, List.getElem?_eq_getElem (show i < l.length by omega)]
    split
    · rename_i h; simp [h, trimGo_len n l i (by omega) hn]
    · rename_i h; simp [trimGo_len n l i (by omega) hn]
theorem trimGo_beyond (l : List StepD) (k : Nat) : ∀ i, k + 1 ≤ i → trimGo (needOf l k) l i = trimGo (needOf l k) l (k + 1)
  | i + 1, h => by
    rcases Nat.lt_or_ge (k + 1) (i + 1) with h1 | h1
    · rw [trimGo, needOf_beyond l k i (by omega)]
      simp only [Bool.false_eq_true, if_false]
      exact trimGo_beyond l k i (by omega)
    · have : i = k := by omega
      rw [this]
theorem ranks_snoc (n : List Bool) (i : Nat) : ranks n i ++ [(rank n i : Int)] = ranks n (i + 1) := by simp [ranks, List.range_succ]
theorem ranks_len (n : List Bool) (i : Nat) : (ranks n i).length = i := by simp [ranks]
theorem ranks_at {n : List Bool} {i u : Nat} (h : u < i) : (ranks n i)[u]? = some (rank n u : Int) := by simp [ranks, h]
theorem rank_le (n : List Bool) (i : Nat) : rank n i ≤ i := by
  rw [rank]
  exact Nat.le_trans List.count_le_length (by simp; omega)
end Go.Proofs.Ytfmplnebdldpdaa
