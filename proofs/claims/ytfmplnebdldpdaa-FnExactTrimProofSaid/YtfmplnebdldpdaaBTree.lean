/- Data as trees: what a cell of Go's data holds, and how such a tree lies in memory. No program in sight. -/
import Derived.Test.YtfmplnebdldpdaaCodec
namespace Go.Proofs.Ytfmplnebdldpdaa
open Go.RowKit
/-- one cell's datum: a number, a bool, a text, or a slice (the elements' type, the cells of an element, the elements) -/
inductive CT where
  | int (k : IntKind) (n : Int)
  | bool (b : Bool)
  | str (s : ByteArray)
  | sl (e m : Nat) (xs : List (List CT))
mutual
def RC (w : World) : CT → Value → List Nat → Prop
  | .int k n, v, L => v = .int k n ∧ L = []
  | .bool b, v, L => v = .bool b ∧ L = []
  | .str s, v, L => v = .string s ∧ L = [] ∧ s.size ≤ 9223372036854775807
  | .sl _ m xs, v, L => ∃ A cap cs L0 L1, v = .slice A xs.length cap ∧ xs.length ≤ cap ∧ cap ≤ maxLen ∧ L = L0 ++ L1 ∧ 0 < m ∧ Sl w m A xs.length cs L0 ∧ REs w m xs cs L1
def RCs (w : World) : List CT → List Value → List Nat → Prop
  | [], cs, L => cs = [] ∧ L = []
  | x :: r, cs, L => ∃ v cs' L1 L2, cs = v :: cs' ∧ L = L1 ++ L2 ∧ RC w x v L1 ∧ RCs w r cs' L2
def REs (w : World) (m : Nat) : List (List CT) → List Value → List Nat → Prop
  | [], cs, L => cs = [] ∧ L = []
  | e :: r, cs, L => ∃ c1 c2 L1 L2, cs = c1 ++ c2 ∧ L = L1 ++ L2 ∧ (RCs w e c1 L1 ∧ c1.length = m) ∧ REs w m r c2 L2
end
mutual
theorem RC.keep {w w' : World} : ∀ {x : CT} {v : Value} {L : List Nat}, RC w x v L → (∀ b ∈ L, w'.heap[b]? = w.heap[b]?) → RC w' x v L
  | .int _ _, _, _, h, _ => h
  | .bool _, _, _, h, _ => h
  | .str _, _, _, h, _ => h
  | .sl _ _ _, _, _, ⟨A, cap, cs, L0, L1, h1, h2, h3, h4, h5, h6, h7⟩, hk => ⟨A, cap, cs, L0, L1, h1, h2, h3, h4, h5, h6.keep fun b m => hk b (by simp [h4, m]), h7.keep fun b m => hk b (by simp [h4, m])⟩
theorem RCs.keep {w w' : World} : ∀ {x : List CT} {v : List Value} {L : List Nat}, RCs w x v L → (∀ b ∈ L, w'.heap[b]? = w.heap[b]?) → RCs w' x v L
  | [], _, _, h, _ => h
  | _ :: _, _, _, ⟨v, cs, L1, L2, h1, h2, h3, h4⟩, hk => ⟨v, cs, L1, L2, h1, h2, h3.keep fun b m => hk b (by simp [h2, m]), h4.keep fun b m => hk b (by simp [h2, m])⟩
theorem REs.keep {w w' : World} {m : Nat} : ∀ {x : List (List CT)} {v : List Value} {L : List Nat}, REs w m x v L → (∀ b ∈ L, w'.heap[b]? = w.heap[b]?) → REs w' m x v L
  | [], _, _, h, _ => h
  | _ :: _, _, _, ⟨c1, c2, L1, L2, h1, h2, h3, h4⟩, hk => ⟨c1, c2, L1, L2, h1, h2, ⟨h3.1.keep fun b m => hk b (by simp [h2, m]), h3.2⟩, h4.keep fun b m => hk b (by simp [h2, m])⟩
end
mutual
theorem RC.lt {w : World} : ∀ {x : CT} {v : Value} {L : List Nat}, RC w x v L → ∀ b ∈ L, b < w.heap.size
  | .int _ _, _, _, h => by simp [h.2]
  | .bool _, _, _, h => by simp [h.2]
  | .str _, _, _, h => by simp [h.2.1]
  | .sl _ _ _, _, _, ⟨A, cap, cs, L0, L1, h1, h2, h3, h4, h5, h6, h7⟩ => fun b m => by
    rw [h4] at m
    rcases List.mem_append.1 m with m | m
    · exact h6.lt h5 b m
    · exact h7.lt b m
theorem RCs.lt {w : World} : ∀ {x : List CT} {v : List Value} {L : List Nat}, RCs w x v L → ∀ b ∈ L, b < w.heap.size
  | [], _, _, h => by simp [h.2]
  | _ :: _, _, _, ⟨v, cs, L1, L2, h1, h2, h3, h4⟩ => fun b m => by
    rw [h2] at m
    rcases List.mem_append.1 m with m | m
    · exact h3.lt b m
    · exact h4.lt b m
theorem REs.lt {w : World} {m : Nat} : ∀ {x : List (List CT)} {v : List Value} {L : List Nat}, REs w m x v L → ∀ b ∈ L, b < w.heap.size
  | [], _, _, h => by simp [h.2]
  | _ :: _, _, _, ⟨c1, c2, L1, L2, h1, h2, h3, h4⟩ => fun b m => by
    rw [h2] at m
    rcases List.mem_append.1 m with m | m
    · exact h3.1.lt b m
    · exact h4.lt b m
end
theorem RC.one {w : World} : ∀ {x : CT} {v : Value} {L : List Nat}, RC w x v L → v.oneCell' = true
  | .int _ _, _, _, h => by simp [h.1, Value.oneCell']
  | .bool _, _, _, h => by simp [h.1, Value.oneCell']
  | .str _, _, _, h => by simp [h.1, Value.oneCell']
  | .sl _ _ _, _, _, ⟨A, cap, cs, L0, L1, h1, _⟩ => by simp [h1, Value.oneCell']
theorem RCs.one {w : World} : ∀ {x : List CT} {v : List Value} {L : List Nat}, RCs w x v L → ∀ u ∈ v, u.oneCell' = true
  | [], _, _, h => by simp [h.1]
  | _ :: _, _, _, ⟨v, cs, L1, L2, h1, h2, h3, h4⟩ => fun u m => by
    rw [h1] at m
    rcases List.mem_cons.1 m with rfl | m
    · exact h3.one
    · exact h4.one u m
theorem RCs.len {w : World} : ∀ {x : List CT} {v : List Value} {L : List Nat}, RCs w x v L → v.length = x.length
  | [], _, _, h => by simp [h.1]
  | _ :: _, _, _, ⟨v, cs, L1, L2, h1, h2, h3, h4⟩ => by simp [h1, h4.len]
/-- elements of m cells as a codec -/
def uC (m : Nat) (hm : 0 < m) : Codec (List CT) where
  size := m
  rep := fun w cs x L => RCs w x cs L ∧ cs.length = m
  len := fun h => h.2
  keep := fun h hk => ⟨h.1.keep hk, h.2⟩
  lt := fun h => h.1.lt
  one := fun h => h.1.one
  pos := hm
theorem REs_reps {w : World} {m : Nat} {hm : 0 < m} : ∀ {xs : List (List CT)} {cs : List Value} {L : List Nat}, REs w m xs cs L ↔ (uC m hm).reps w cs xs L
  | [], _, _ => Iff.rfl
  | _ :: _, _, _ => ⟨fun ⟨c1, c2, L1, L2, h1, h2, h3, h4⟩ => ⟨c1, c2, L1, L2, h1, h2, h3, REs_reps.1 h4⟩, fun ⟨c1, c2, L1, L2, h1, h2, h3, h4⟩ => ⟨c1, c2, L1, L2, h1, h2, h3, REs_reps.2 h4⟩⟩
theorem RC_sl {w : World} {e m : Nat} {xs : List (List CT)} {v : Value} {L : List Nat} : RC w (.sl e m xs) v L ↔ ∃ hm : 0 < m, (sliceC (uC m hm)).rep w [v] xs L := by
  constructor
  · rintro ⟨A, cap, cs, L0, L1, rfl, h2, h3, rfl, h5, h6, h7⟩
    exact ⟨h5, A, cap, rfl, h2, h3, cs, L0, L1, rfl, h6, REs_reps.1 h7⟩
  · rintro ⟨hm, A, cap, h1, h2, h3, cs, L0, L1, rfl, h6, h7⟩
    simp only [List.cons.injEq, and_true] at h1
    exact ⟨A, cap, cs, L0, L1, h1, h2, h3, rfl, hm, h6, REs_reps.2 h7⟩
theorem RCs.at {w : World} : ∀ {xs : List CT} {vs : List Value} {L : List Nat} {i : Nat} {x : CT}, RCs w xs vs L → xs[i]? = some x → ∃ v L', vs[i]? = some v ∧ RC w x v L' ∧ ∀ b ∈ L', b ∈ L
  | [], _, _, i, x, _, hx => by simp at hx
  | y :: r, _, _, 0, x, ⟨v, cs, L1, L2, h1, h2, h3, h4⟩, hx => by
    simp at hx; subst hx; exact ⟨v, L1, by simp [h1], h3, fun b m => by simp [h2, m]⟩
  | y :: r, _, _, i + 1, x, ⟨v, cs, L1, L2, h1, h2, h3, h4⟩, hx => by
    obtain ⟨v', L', a, b, c⟩ := RCs.at h4 (i := i) (x := x) (by simpa using hx)
    exact ⟨v', L', by simp [h1, a], b, fun b m => by simp [h2, c b m]⟩
theorem RCs.append {w : World} : ∀ {xs ys : List CT} {us vs : List Value} {L M : List Nat}, RCs w xs us L → RCs w ys vs M → RCs w (xs ++ ys) (us ++ vs) (L ++ M)
  | [], _, _, _, _, _, h, h' => by obtain ⟨rfl, rfl⟩ := h; simpa using h'
  | _ :: _, _, _, _, _, _, ⟨v, cs, L1, L2, h1, h2, h3, h4⟩, h' => ⟨v, cs ++ _, L1, L2 ++ _, by simp [h1], by simp [h2], h3, h4.append h'⟩
end Go.Proofs.Ytfmplnebdldpdaa
