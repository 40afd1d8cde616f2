/- Texts of this proof, joined: Base, Own, Codec, Types, BTree, BState, BSimp, BLoop, BDec, ExtD, ExtL, Df, PL, E1. What each holds is said at its theorems. -/
import Derived.WalkKit
import Derived.Lib.Hide
import Derived.Deep.Draws
import Derived.Maps.AppendAt
import Derived.Deep.QuietTactic
import Derived.BigQuiet
import Derived.IntWalk
import Derived.Lib.ItoaNum
import Derived.Lib.Bytealg
import Derived.Lib.Join
import Derived.Lib.Atoi
import Derived.Lib.ItoaLen
import Derived.Laws.BitsLemmas
set_option linter.unusedSimpArgs false
set_option linter.unusedVariables false
namespace Go.Proofs.YtlkgkkacnoaeaaaGreatDoor
open Go.RowKit

theorem add_lit0 (b off j : Nat) : (⟨b, off, none⟩ : Addr).add j = ⟨b, off + j, none⟩ := by
  unfold Addr.add; split <;> simp_all

/-- the cells from (b, off) on are these -/
def CellsAt (w : World) (b off : Nat) (xs : List Value) : Prop := ∀ j u, xs[j]? = some u → w.cell? ⟨b, off + j, none⟩ = some u

/-- the slice '.slice A n c' of elements of 'size' cells holds the cells xs; L: the block that it touches -/
def Sl (w : World) (size : Nat) (A : Option Addr) (n : Nat) (xs : List Value) (L : List Nat) : Prop :=
  xs.length = n * size ∧ ((n = 0 ∧ L = []) ∨ (0 < n ∧ ∃ b off, A = some ⟨b, off, none⟩ ∧ L = [b] ∧ CellsAt w b off xs))

section
variable {w w' : World} {size n : Nat} {A : Option Addr} {xs : List Value} {L : List Nat}
theorem Sl.zero : Sl w size A 0 [] [] := ⟨by simp, .inl ⟨rfl, rfl⟩⟩
theorem Sl.at_ (h : Sl w size A n xs L) (hn : 0 < n) : ∃ b off, A = some ⟨b, off, none⟩ ∧ L = [b] ∧ CellsAt w b off xs := by
  rcases h.2 with ⟨h0, _⟩ | ⟨_, h⟩
  · omega
  · exact h
theorem Sl.keep (h : Sl w size A n xs L) (hk : ∀ b ∈ L, w'.heap[b]? = w.heap[b]?) : Sl w' size A n xs L := by
  refine ⟨h.1, ?_⟩
  rcases h.2 with h0 | ⟨hn, b, off, hA, hL, hc⟩
  · exact .inl h0
  · refine .inr ⟨hn, b, off, hA, hL, fun j u hu => ?_⟩
    rw [← hc j u hu]
    exact World.cell?_of_block (hk b (by simp [hL]))
theorem Sl.lt (h : Sl w size A n xs L) (hs : 0 < size) : ∀ b ∈ L, b < w.heap.size := by
  rcases h.2 with h0 | ⟨hn, b, off, hA, hL, hc⟩
  · simp [h0.2]
  · intro x hx
    rw [hL] at hx
    simp at hx
    subst hx
    have hp : 0 < xs.length := by rw [h.1]; exact Nat.mul_pos hn hs
    exact World.block_lt_of_cell? w _ (hc 0 _ (List.getElem?_eq_getElem hp))
end

/-- blocks that are plain rows of cells, none frozen, different, from 'base' on -/
structure Own (w : World) (base : Nat) (L : List Nat) : Prop where
  nodup : L.Nodup
  ge : ∀ b ∈ L, base ≤ b
  plain : ∀ b ∈ L, ∃ cur e, w.heap[b]? = some (.cells cur e (0, 0))

theorem Own.nil (w : World) (base : Nat) : Own w base [] := ⟨List.nodup_nil, by simp, by simp⟩
theorem Own.lt {w : World} {base : Nat} {L : List Nat} (h : Own w base L) : ∀ b ∈ L, b < w.heap.size := by
  intro b hb
  obtain ⟨cur, e, hc⟩ := h.plain b hb
  exact (Array.getElem?_eq_some_iff.1 hc).1
theorem Own.keep {w w' : World} {base : Nat} {L : List Nat} (h : Own w base L) (hk : ∀ b ∈ L, w'.heap[b]? = w.heap[b]?) : Own w' base L :=
  ⟨h.nodup, h.ge, fun b hb => by rw [hk b hb]; exact h.plain b hb⟩
theorem Own.mono {w : World} {base base' : Nat} {L : List Nat} (h : Own w base L) (hb : base' ≤ base) : Own w base' L :=
  ⟨h.nodup, fun b m => Nat.le_trans hb (h.ge b m), h.plain⟩

/-- below a bound all blocks are kept -/
theorem keep_below {B : Nat} {w w' : World} {L : List Nat} (hb : Below B w w') (h : ∀ b ∈ L, b < B) : ∀ b ∈ L, w'.heap[b]? = w.heap[b]? :=
  fun b m => hb.block b (h b m)

theorem own_slice {w : World} {base : Nat} {e : TypeId} {size n : Nat} {v : Value} {xs : List Value} (h : w.ownsRow base e size v n xs) :
    ∃ A c, v = .slice A n c ∧ n ≤ c ∧ c ≤ maxLen := by
  rcases h.2 with ⟨rfl, rfl⟩ | ⟨g, cap, cur, rfl, hb, hg, hnc, hm, hs, ht⟩
  · exact ⟨none, 0, rfl, Nat.le_refl _, Nat.zero_le _⟩
  · exact ⟨_, cap, rfl, hnc, hm⟩

/-- only blocks of L, and new ones, have turned -/
structure Only (L : List Nat) (w w' : World) : Prop where
  os : w'.os = w.os
  tape : w'.tape = w.tape
  output : w'.output = w.output
  size : w.heap.size ≤ w'.heap.size
  block : ∀ k, k < w.heap.size → k ∉ L → w'.heap[k]? = w.heap[k]?

theorem Only.refl (L : List Nat) (w : World) : Only L w w := ⟨rfl, rfl, rfl, Nat.le_refl _, fun _ _ _ => rfl⟩
theorem Only.trans {L : List Nat} {a b c : World} (h : Only L a b) (k : Only L b c) : Only L a c :=
  ⟨k.os.trans h.os, k.tape.trans h.tape, k.output.trans h.output, Nat.le_trans h.size k.size, fun i hi hn => (k.block i (Nat.lt_of_lt_of_le hi h.size) hn).trans (h.block i hi hn)⟩
theorem Only.mono {L L' : List Nat} {w w' : World} (h : Only L w w') (hl : ∀ b ∈ L, b ∈ L') : Only L' w w' :=
  ⟨h.os, h.tape, h.output, h.size, fun k hk hn => h.block k hk (fun m => hn (hl k m))⟩
theorem Only.below {L : List Nat} {B : Nat} {w w' : World} (h : Only L w w') (hB : B ≤ w.heap.size) (hl : ∀ b ∈ L, B ≤ b) : Below B w w' :=
  ⟨h.os, h.tape, h.output, h.size, fun k hk => h.block k (by omega) (fun m => by have := hl k m; omega)⟩
theorem Only.of_below {w w' : World} (h : Below w.heap.size w w') (L : List Nat) : Only L w w' := ⟨h.os, h.tape, h.output, h.size, fun k hk _ => h.block k hk⟩
theorem Only.keep {L M : List Nat} {w w' : World} (h : Only L w w') (hl : ∀ b ∈ M, b < w.heap.size) (hd : ∀ b ∈ M, b ∉ L) : ∀ b ∈ M, w'.heap[b]? = w.heap[b]? :=
  fun b m => h.block b (hl b m) (hd b m)
theorem Only.setCell {L : List Nat} {a w : World} (h : Only L a w) {p : Addr} (hp : p.block ∈ L) (u : Value) : Only L a (w.setCell p u) :=
  h.trans ⟨rfl, rfl, rfl, by simp [World.setCell], fun k _ hn => Below.heap_setCell _ _ _ _ (fun e => hn (by rw [e]; exact hp))⟩
theorem Only.drew {L : List Nat} {a w : World} (h : Only L a w) : Only L a w.drew := ⟨h.os, h.tape, h.output, h.size, h.block⟩
theorem Only.drewN {L : List Nat} {a w : World} (h : Only L a w) (n : Nat) : Only L a (w.drewN n) := ⟨h.os, h.tape, h.output, h.size, h.block⟩

theorem below_drewN {B : Nat} {a w : World} (h : Below B a w) (n : Nat) : Below B a (w.drewN n) := ⟨h.os, h.tape, h.output, h.size, h.block⟩
theorem below_of_drewN (B : Nat) (w : World) (n : Nat) : Below B w (w.drewN n) := below_drewN (Below.refl _ _) n

theorem drew_ex (w : World) (q p : Nat) : ∃ r, (w.drewN q).drewN p = w.drewN r := ⟨q + p, World.drewN_drewN w q p⟩
theorem drew_ex1 (w : World) (q : Nat) : ∃ r, w.drewN q = w.drewN r := ⟨q, rfl⟩

/-- a cell of a plain block is not frozen -/
theorem Own.frozen {w : World} {base : Nat} {L : List Nat} (h : Own w base L) {b : Nat} (hb : b ∈ L) (o : Nat) : w.frozen? ⟨b, o, none⟩ = false := by
  obtain ⟨cur, e, hc⟩ := h.plain b hb
  simp [World.frozen?, hc]
theorem Own.setCell {w : World} {base : Nat} {L : List Nat} (h : Own w base L) (b o : Nat) (u : Value) : Own (w.setCell ⟨b, o, none⟩ u) base L := by
  refine ⟨h.nodup, h.ge, fun x hx => ?_⟩
  obtain ⟨cur, e, hc⟩ := h.plain x hx
  by_cases hxb : x = b
  · subst hxb
    exact ⟨cur.setIfInBounds o u, e, by simp [World.setCell, Array.getElem?_modify, hc]⟩
  · exact ⟨cur, e, by rw [Below.heap_setCell _ _ _ _ (by simpa using hxb)]; exact hc⟩

theorem cell_setCell_same {w : World} {b o : Nat} {u v : Value} (h : w.cell? ⟨b, o, none⟩ = some v) : (w.setCell ⟨b, o, none⟩ u).cell? ⟨b, o, none⟩ = some u := by
  unfold World.cell? at h ⊢
  unfold World.setCell
  simp only [Array.getElem?_modify, if_true]
  cases hb : w.heap[b]? with
  | none => simp [hb] at h
  | some ob =>
    cases ob <;> simp [hb] at h ⊢
    have hlt := (Array.getElem?_eq_some_iff.1 h).1
    simp [Array.getElem?_setIfInBounds, hlt]

/-- a store into a slice's cell -/
theorem Sl.set {w : World} {size n : Nat} {b off : Nat} {xs : List Value} {L : List Nat} (h : Sl w size (some ⟨b, off, none⟩) n xs L) (j : Nat) (hj : j < xs.length) (u : Value) :
    Sl (w.setCell ⟨b, off + j, none⟩ u) size (some ⟨b, off, none⟩) n (xs.set j u) L := by
  refine ⟨by simpa using h.1, ?_⟩
  rcases h.2 with ⟨h0, hL⟩ | ⟨hn, b', off', hA, hL, hc⟩
  · exact .inl ⟨h0, hL⟩
  · simp only [Option.some.injEq, Addr.mk.injEq, and_true] at hA
    obtain ⟨rfl, rfl⟩ := hA
    refine .inr ⟨hn, b, off, rfl, hL, fun i v hv => ?_⟩
    by_cases hij : i = j
    · subst hij
      have hv' : v = u := by
        rw [List.getElem?_set] at hv
        simp [hj] at hv
        exact hv.symm
      subst hv'
      exact cell_setCell_same (hc i _ (List.getElem?_eq_getElem hj))
    · rw [List.getElem?_set] at hv
      rw [if_neg (fun e => hij e.symm)] at hv
      rw [World.cell?_setCell_other]
      · exact hc i v hv
      · intro e; injection e with _ e; omega

/-- what a call has made so far: a row of its own with the cells xs; all that was there when it began (in W) is as it was -/
structure Acc (W : World) (e size : Nat) (v : Value) (n : Nat) (xs : List Value) (w : World) : Prop where
  own : w.ownsRow W.heap.size e size v n xs
  below : Below W.heap.size W w

theorem Acc.size {W : World} {e size : Nat} {v : Value} {n : Nat} {xs : List Value} {w : World} (h : Acc W e size v n xs w) : W.heap.size ≤ w.heap.size := h.below.size
theorem Acc.nil {W w : World} (e size : Nat) (hb : Below W.heap.size W w) : Acc W e size (.slice none 0 0) 0 [] w := ⟨World.ownsRow_nil _ _ _ _, hb⟩
theorem Acc.made {W w : World} (e size : Nat) (hb : Below W.heap.size W w) : Acc W e size (.slice (some ⟨w.heap.size, 0, none⟩) 0 0) 0 [] (w.alloc (.cells #[] e)) :=
  ⟨World.ownsRow_made w #[] 0 hb.size (by unfold maxLen; omega) (by simp), hb.alloc hb.size _⟩
theorem Acc.drewN {W : World} {e size : Nat} {v : Value} {n : Nat} {xs : List Value} {w : World} (h : Acc W e size v n xs w) (q : Nat) : Acc W e size v n xs (w.drewN q) := ⟨h.own, below_drewN h.below q⟩
/-- a later call that only makes memory keeps it -/
theorem Acc.later {W : World} {e size : Nat} {v : Value} {n : Nat} {xs : List Value} {w w' : World} (h : Acc W e size v n xs w) (hb : Below w.heap.size w w') : Acc W e size v n xs w' :=
  ⟨h.own.kept (row := none) ⟨hb.os, hb.tape, hb.output, hb.size, fun k hk _ => hb.block k hk⟩ (by cases v.ownBlock <;> simp), h.below.trans (hb.mono h.size)⟩

theorem Acc.shape {W : World} {e size : Nat} {v : Value} {n : Nat} {xs : List Value} {w : World} (h : Acc W e size v n xs w) : ∃ A c, v = .slice A n c ∧ n ≤ c ∧ c ≤ maxLen := own_slice h.own

theorem ret_i {k : IntKind} {a b : Int} (h : a = b) : Ending.returned (.int k a) = .returned (.int k b) := by rw [h]

/-- a slice of ints that reads as a list -/
def Ints (w : World) (A : Option Addr) (n : Nat) (zs : List Int) (L : List Nat) : Prop := Sl w 1 A n (zs.map (Value.int .i64)) L
section
variable {w w' : World} {n : Nat} {A : Option Addr} {zs : List Int} {L : List Nat}
theorem Ints.len (h : Ints w A n zs L) : n = zs.length := by have := h.1; simp at this; omega
theorem Ints.at_ {k : Nat} (h : Ints w A n zs L) (hk : k < n) : ∃ b off, A = some ⟨b, off, none⟩ ∧ b ∈ L ∧ w.cell? ⟨b, off + k, none⟩ = some (.int .i64 (zs.getD k 0)) := by
  obtain ⟨b, off, hA, hL, hc⟩ := Sl.at_ h (by omega)
  refine ⟨b, off, hA, by simp [hL], hc k _ ?_⟩
  have := h.len
  simp [List.getElem?_eq_getElem (show k < zs.length by omega)]
theorem Ints.cell {b off k : Nat} (h : Ints w (some ⟨b, off, none⟩) n zs L) (hk : k < n) : w.cell? ⟨b, off + k, none⟩ = some (.int .i64 (zs.getD k 0)) := by
  obtain ⟨b', off', hA, _, hc⟩ := h.at_ hk
  simp only [Option.some.injEq, Addr.mk.injEq, and_true] at hA
  obtain ⟨rfl, rfl⟩ := hA
  exact hc
theorem Ints.keep (h : Ints w A n zs L) (hk : ∀ b ∈ L, w'.heap[b]? = w.heap[b]?) : Ints w' A n zs L := Sl.keep h hk
theorem Ints.lt (h : Ints w A n zs L) : ∀ b ∈ L, b < w.heap.size := Sl.lt h (by omega)
theorem Ints.below (h : Ints w A n zs L) (hb : Below w.heap.size w w') : Ints w' A n zs L := h.keep (keep_below hb h.lt)
end

section
variable {P : Program} {f : FuncId} {args : Array Value} {w : World} {a n : Nat} {v : Value}
end
end Go.Proofs.YtlkgkkacnoaeaaaGreatDoor

namespace Go.Proofs.YtlkgkkacnoaeaaaGreatDoor
open Go.RowKit
end Go.Proofs.YtlkgkkacnoaeaaaGreatDoor
namespace Go
open Go.RowKit Go.Proofs.YtlkgkkacnoaeaaaGreatDoor
def World.ownsV (w : World) (base : Nat) (e : TypeId) (size : Nat) (v : Value) (n : Nat) (xs : List Value) : Prop :=
  xs.length = n * size ∧ ((v = .slice none 0 0 ∧ n = 0) ∨
   ∃ g o cap cur, v = .slice (some ⟨g, o, none⟩) n cap ∧ base ≤ g ∧ w.heap[g]? = some (.cells cur e (0, 0)) ∧ n ≤ cap ∧ cap ≤ maxLen ∧ o + cap * size ≤ cur.size ∧ (cur.toList.drop o).take (n * size) = xs)
end Go
namespace Go.Proofs.YtlkgkkacnoaeaaaGreatDoor
open Go.RowKit
section
variable {w w' : World} {base : Nat} {e : TypeId} {size n : Nat} {v : Value} {xs : List Value}
theorem ownsV_of (h : w.ownsRow base e size v n xs) : w.ownsV base e size v n xs := by
  refine ⟨h.1, ?_⟩
  rcases h.2 with h0 | ⟨g, cap, cur, h1, h2, h3, h4, h5, h6, h7⟩
  · exact .inl h0
  · exact .inr ⟨g, 0, cap, cur, h1, h2, h3, h4, h5, by omega, by simpa using h7⟩
theorem ownsV_nil (w : World) (base : Nat) (e : TypeId) (size : Nat) : w.ownsV base e size (.slice none 0 0) 0 [] := ownsV_of (World.ownsRow_nil _ _ _ _)
theorem ownV_slice (h : w.ownsV base e size v n xs) : ∃ A c, v = .slice A n c ∧ n ≤ c ∧ c ≤ maxLen := by
  rcases h.2 with ⟨rfl, rfl⟩ | ⟨g, o, cap, cur, rfl, hb, hg, hnc, hm, hs, ht⟩
  · exact ⟨none, 0, rfl, Nat.le_refl _, Nat.zero_le _⟩
  · exact ⟨_, cap, rfl, hnc, hm⟩
theorem ownsV_mono {base' : Nat} (h : w.ownsV base e size v n xs) (hb : base' ≤ base) : w.ownsV base' e size v n xs := by
  refine ⟨h.1, ?_⟩
  rcases h.2 with h0 | ⟨g, o, cap, cur, h1, h2, h3⟩
  · exact .inl h0
  · exact .inr ⟨g, o, cap, cur, h1, Nat.le_trans hb h2, h3⟩
theorem own_lt (h : w.ownsV base e size v n xs) : ∀ b ∈ v.ownBlock.toList, b < w.heap.size := by
  rcases h.2 with ⟨h0, _⟩ | ⟨g, o, cap, cur, hv, _, hc, _⟩
  · simp [h0, Value.ownBlock]
  · intro b mb
    simp [hv, Value.ownBlock] at mb
    subst mb
    exact (Array.getElem?_eq_some_iff.1 hc).1
theorem ownsV_keep (h : w.ownsV base e size v n xs) (hk : ∀ b ∈ v.ownBlock.toList, w'.heap[b]? = w.heap[b]?) : w'.ownsV base e size v n xs := by
  refine ⟨h.1, ?_⟩
  rcases h.2 with h0 | ⟨g, o, cap, cur, hv, hg, hc, r⟩
  · exact .inl h0
  · refine .inr ⟨g, o, cap, cur, hv, hg, ?_, r⟩
    rw [hk g (by simp [hv, Value.ownBlock])]
    exact hc
theorem ownsV_at {g o n' cap : Nat} (h : w.ownsV base e size v n xs) (hv0 : v = .slice (some ⟨g, o, none⟩) n' cap) : ∀ j u, xs[j]? = some u → w.cell? ⟨g, o + j, none⟩ = some u := by
  intro j u hj
  subst hv0
  rcases h.2 with ⟨h0, _⟩ | ⟨g', o', cap', cur, hv, hb, hg, hnc, hm, hs, ht⟩
  · simp at h0
  · simp only [Value.slice.injEq, Option.some.injEq, Addr.mk.injEq, and_true, true_and] at hv
    obtain ⟨⟨rfl, rfl⟩, rfl, rfl⟩ := hv
    rw [cell_of_row w g (o + j) cur e (0, 0) hg]
    rw [← ht] at hj
    have hl : j < n' * size := by
      have := (List.getElem?_eq_some_iff.1 hj).1
      simp at this
      omega
    rw [List.getElem?_take_of_lt hl, List.getElem?_drop] at hj
    simpa using hj
theorem Sl.of_ownV {c : Nat} {A : Option Addr} (h : w.ownsV base e size (.slice A n c) n xs) : ∃ L, Sl w size A n xs L ∧ Own w base L ∧ ∀ b ∈ L, ∃ o, A = some ⟨b, o, none⟩ := by
  rcases h.2 with ⟨hv, hn⟩ | ⟨g, o, cap, cur, hv, hb, hg, hnc, hm, hs, ht⟩
  · subst hn
    exact ⟨[], ⟨h.1, .inl ⟨rfl, rfl⟩⟩, Own.nil _ _, by simp⟩
  · injection hv with hA _ hc
    subst hA
    subst hc
    rcases Nat.eq_zero_or_pos n with h0 | h0
    · subst h0
      exact ⟨[], ⟨h.1, .inl ⟨rfl, rfl⟩⟩, Own.nil _ _, by simp⟩
    · refine ⟨[g], ⟨h.1, .inr ⟨h0, g, o, rfl, rfl, fun j u hu => ownsV_at h rfl j u hu⟩⟩, ⟨by simp, by simpa using hb, fun b m => ?_⟩, by simp⟩
      simp at m
      subst m
      exact ⟨cur, e, hg⟩
end
section
variable {P : Program} (w : World)
theorem run_append_room_o (t ty e : TypeId) (i : TypeInfo) (ht : P.underlying t = some (.slice e)) (hi : P.info? e = some i)
    (g o sLen sCap : Nat) (cur : Array Value) (hg : w.heap[g]? = some (.cells cur e (0, 0)))
    (a : Addr) (m c : Nat) (news : List Value) (hl : news.length = m * i.size) (hnews : ∀ j u, news[j]? = some u → w.cell? (a.add j) = some u) (h1 : ∀ u ∈ news, u.oneCell' = true)
    (hroom : sLen + m ≤ sCap) (hfit : o + sLen * i.size + news.length ≤ cur.size) :
    (Builtin.append_ #[t, t] ty #[.slice (some ⟨g, o, none⟩) sLen sCap, .slice (some a) m c]).run P w =
      .ok (.slice (some ⟨g, o, none⟩) (sLen + m) sCap) (w.setRow g (cur.toList.take (o + sLen * i.size) ++ news ++ cur.toList.drop (o + sLen * i.size + news.length)).toArray) := by
  have hf := run_firstCells_some (P := P) w i.size m a m c news hl hnews
  have hst := run_storeCells_at P g (o + sLen * i.size) e news 0 cur w hg (by simpa using hfit) h1
  simp only [Nat.add_zero] at hst
  simp [Builtin.append_, run_underlying ht, sizeOf, typeInfo, hi, Builtin.lenOf, hroom, hf, Addr.add_lit, hst]
theorem run_append_ownV (base : Nat) (t ty e : TypeId) (i : TypeInfo) (z : Value) (size bytes : Nat) (ht : P.underlying t = some (.slice e)) (hi : P.info? e = some i) (hz : i.zero = some z)
    (hsize : i.size = size) (hby : i.bytes = bytes) (hzs : z.cells.size = size) (hsz : 0 < size)
    (v : Value) (n : Nat) (xs : List Value) (hown : w.ownsV base e size v n xs)
    (a : Addr) (m c : Nat) (news : List Value) (hl : news.length = m * size) (hnews : ∀ j u, news[j]? = some u → w.cell? (a.add j) = some u) (h1 : ∀ u ∈ news, u.oneCell' = true)
    (h63 : n + m ≤ maxLen) (hbytes : (n + m) * bytes ≤ 140737488355328) (hbase : base ≤ w.heap.size) :
    ∃ v' w', (Builtin.append_ #[t, t] ty #[v, .slice (some a) m c]).run P w = .ok v' w' ∧ w'.ownsV base e size v' (n + m) (xs ++ news) ∧ w.grownBy w' v.ownBlock ∧
      (v'.ownBlock = v.ownBlock ∨ v'.ownBlock = some w.heap.size) := by
  rcases hown.2 with ⟨rfl, rfl⟩ | ⟨g, o, cap, cur, rfl, hbg, hg, hnc, hcm, hcs, htake⟩
  · have hx : xs = [] := List.eq_nil_of_length_eq_zero (by simpa using hown.1)
    subst hx
    obtain ⟨v', w', r1, r2, r3, _, r5⟩ := run_append_own_at (P := P) w base t ty e i z size bytes ht hi hz hsize hby hzs hsz _ 0 [] (World.ownsRow_nil w base e size) a m c news hl hnews h1 h63 hbytes hbase
    exact ⟨v', w', r1, ownsV_of r2, r3, r5⟩
  · subst hsize
    subst hby
    have hsmall : n + m ≤ 9223372036854775807 := by simp only [maxLen] at h63; omega
    have hlen : (xs ++ news).length = (n + m) * i.size := by rw [List.length_append, hown.1, hl, Nat.add_mul]
    by_cases hroom : n + m ≤ cap
    · have hfit : o + n * i.size + news.length ≤ cur.size := by
        have := Nat.mul_le_mul_right i.size hroom
        rw [Nat.add_mul] at this
        rw [hl]; omega
      have hr := run_append_room_o (P := P) w t ty e i ht hi g o n cap cur hg a m c news hl hnews h1 hroom hfit
      refine ⟨_, _, hr, ⟨hlen, .inr ⟨g, o, cap, _, rfl, hbg, setRow_heap w g cur _ e _ hg, hroom, hcm, ?_, ?_⟩⟩, ⟨rfl, rfl, rfl, by simp, fun k _ hk => setRow_other w g k _ (fun e => hk (by simp [Value.ownBlock, e]))⟩, .inl rfl⟩
      · simp only [List.size_toArray, List.length_append, List.length_take, List.length_drop, Array.length_toList]
        omega
      · show List.take _ (List.drop o (cur.toList.take (o + n * i.size) ++ news ++ _)) = _
        have hx : (cur.toList.take (o + n * i.size)).drop o = xs := by
          rw [List.drop_take, Nat.add_sub_cancel_left]; exact htake
        have ho : o ≤ (cur.toList.take (o + n * i.size)).length := by simp; omega
        rw [List.append_assoc, List.drop_append_of_le_length ho, hx, ← List.append_assoc, ← hlen]
        exact List.take_left
    · have holds : ∀ j u, xs[j]? = some u → w.cell? ((⟨g, o, none⟩ : Addr).add j) = some u := fun j u hj => by
        rw [Addr.add_lit]; exact ownsV_at hown rfl j u hj
      have hr := run_append_grow (P := P) w t ty e i z ht hi hz ⟨g, o, none⟩ n cap xs hown.1 holds a m c news hl hnews (by omega) (by omega) (growslice_fits (by omega) hbytes)
      have hge := grownCap_ge w (n + m) cap e
      have hcm' : grownCap w (n + m) cap e ≤ maxLen := grownCap_le_maxLen w (n + m) cap e h63
      refine ⟨_, _, hr, ⟨hlen, .inr ⟨w.heap.size, 0, _, _, rfl, hbase, heap_alloc_new w.drew _, hge, hcm', ?_, ?_⟩⟩, ⟨rfl, rfl, rfl, by simp, fun k hk _ => heap_alloc_old w.drew _ hk⟩, .inr rfl⟩
      · simp only [Array.size_append, List.size_toArray, size_zeroCells, hzs, hown.1, hl, ← Nat.add_mul]
        rw [Nat.zero_add]
        exact Nat.mul_le_mul_right _ (by omega)
      · rw [List.drop_zero]
        simp only [Array.toList_append, List.append_assoc]
        rw [← List.append_assoc, ← hlen]
        exact List.take_left
/-- a part up to the end -/
theorem ownsV_tail {w : World} {base : Nat} {e : TypeId} {size n l c : Nat} {A : Option Addr} {xs : List Value} (h : w.ownsV base e size (.slice A n c) n xs) (hl : l ≤ n) :
    w.ownsV base e size (.slice (if c = l then A else A.map (·.add (l * size))) (n - l) (c - l)) (n - l) (xs.drop (l * size)) ∧ (Value.slice (if c = l then A else A.map (·.add (l * size))) (n - l) (c - l)).ownBlock = (Value.slice A n c).ownBlock := by
  have hln : (xs.drop (l * size)).length = (n - l) * size := by rw [List.length_drop, h.1, Nat.sub_mul]
  rcases h.2 with ⟨h0, hn⟩ | ⟨g, o, cap, cur, hv, hb, hg, hnc, hm, hs, ht⟩
  · simp only [Value.slice.injEq] at h0
    obtain ⟨rfl, _, rfl⟩ := h0
    subst hn
    obtain rfl : l = 0 := by omega
    exact ⟨⟨hln, .inl ⟨by simp, by omega⟩⟩, by simp⟩
  · simp only [Value.slice.injEq, true_and] at hv
    obtain ⟨rfl, rfl⟩ := hv
    by_cases hcl : c = l
    · subst hcl
      rw [if_pos rfl]
      refine ⟨⟨hln, .inr ⟨g, o, c - c, cur, rfl, hb, hg, by omega, by omega, ?_, ?_⟩⟩, rfl⟩
      · rw [Nat.sub_self, Nat.zero_mul]; omega
      · have e0 : (n - c) * size = 0 := by rw [show n - c = 0 by omega, Nat.zero_mul]
        rw [e0] at hln ⊢
        rw [List.take_zero]
        exact (List.eq_nil_of_length_eq_zero hln).symm
    · rw [if_neg hcl]
      refine ⟨⟨hln, .inr ⟨g, o + l * size, c - l, cur, by simp [Addr.add], hb, hg, by omega, by omega, ?_, ?_⟩⟩, by simp only [Option.map_some, Value.ownBlock, Addr.add_lit]⟩
      · rw [Nat.sub_mul]
        have := Nat.mul_le_mul_right size (show l ≤ c by omega)
        omega
      · rw [← ht, List.drop_take, List.drop_drop, Nat.sub_mul]
end
end Go.Proofs.YtlkgkkacnoaeaaaGreatDoor

namespace Go.Proofs.YtlkgkkacnoaeaaaGreatDoor
open Go.RowKit
/-- a number of Go's int -/
def wfInt (n : Int) : Prop := -9223372036854775808 ≤ n ∧ n ≤ 9223372036854775807

structure Codec (α : Type) where
  size : Nat
  rep : World → List Value → α → List Nat → Prop
  len : ∀ {w cs x L}, rep w cs x L → cs.length = size
  keep : ∀ {w w' cs x L}, rep w cs x L → (∀ b ∈ L, w'.heap[b]? = w.heap[b]?) → rep w' cs x L
  lt : ∀ {w cs x L}, rep w cs x L → ∀ b ∈ L, b < w.heap.size
  one : ∀ {w cs x L}, rep w cs x L → ∀ u ∈ cs, u.oneCell' = true
  pos : 0 < size

def intC : Codec Int where
  size := 1
  rep := fun _ cs x L => cs = [.int .i64 x] ∧ L = []
  len := fun h => by simp [h.1]
  keep := fun h _ => h
  lt := fun h => by simp [h.2]
  one := fun h => by simp [h.1, Value.oneCell']
  pos := by omega
def strC : Codec ByteArray where
  size := 1
  rep := fun _ cs x L => cs = [.string x] ∧ L = [] ∧ x.size ≤ 9223372036854775807
  len := fun h => by simp [h.1]
  keep := fun h _ => h
  lt := fun h => by simp [h.2.1]
  one := fun h => by simp [h.1, Value.oneCell']
  pos := by omega
section
variable {α : Type} (c : Codec α)

/-- the cells of several values, one behind the other -/
def Codec.reps (w : World) : List Value → List α → List Nat → Prop
  | xs, [], L => xs = [] ∧ L = []
  | xs, d :: ds, L => ∃ c1 c2 L1 L2, xs = c1 ++ c2 ∧ L = L1 ++ L2 ∧ c.rep w c1 d L1 ∧ Codec.reps w c2 ds L2
variable {c}
theorem reps_len {w : World} : ∀ {ds : List α} {xs : List Value} {L : List Nat}, c.reps w xs ds L → xs.length = ds.length * c.size
  | [], _, _, h => by simp [h.1]
  | d :: ds, _, _, ⟨c1, c2, L1, L2, rfl, rfl, h1, h2⟩ => by
    have := reps_len h2
    simp [c.len h1, this, Nat.add_mul]; omega
theorem reps_keep {w w' : World} : ∀ {ds : List α} {xs : List Value} {L : List Nat}, c.reps w xs ds L → (∀ b ∈ L, w'.heap[b]? = w.heap[b]?) → c.reps w' xs ds L
  | [], _, _, h, _ => h
  | d :: ds, _, _, ⟨c1, c2, L1, L2, rfl, rfl, h1, h2⟩, hk =>
    ⟨c1, c2, L1, L2, rfl, rfl, c.keep h1 (fun b m => hk b (by simp [m])), reps_keep h2 (fun b m => hk b (by simp [m]))⟩
theorem reps_lt {w : World} : ∀ {ds : List α} {xs : List Value} {L : List Nat}, c.reps w xs ds L → ∀ b ∈ L, b < w.heap.size
  | [], _, _, h => by simp [h.2]
  | d :: ds, _, _, ⟨c1, c2, L1, L2, rfl, rfl, h1, h2⟩ => by
    intro b m
    rcases List.mem_append.1 m with m | m
    · exact c.lt h1 b m
    · exact reps_lt h2 b m
theorem reps_append {w : World} : ∀ {ds es : List α} {xs ys : List Value} {L M : List Nat}, c.reps w xs ds L → c.reps w ys es M → c.reps w (xs ++ ys) (ds ++ es) (L ++ M)
  | [], es, _, ys, _, M, h, h' => by obtain ⟨rfl, rfl⟩ := h; simpa using h'
  | d :: ds, es, _, ys, _, M, ⟨c1, c2, L1, L2, rfl, rfl, h1, h2⟩, h' =>
    ⟨c1, c2 ++ ys, L1, L2 ++ M, by simp, by simp, h1, reps_append h2 h'⟩
theorem reps_one_of {w : World} {d : α} {cs : List Value} {L : List Nat} (h : c.rep w cs d L) : c.reps w cs [d] L := ⟨cs, [], L, [], by simp, by simp, h, rfl, rfl⟩
theorem reps_split {w : World} : ∀ {ds es : List α} {xs : List Value} {L : List Nat}, c.reps w xs (ds ++ es) L →
    ∃ x1 x2 L1 L2, xs = x1 ++ x2 ∧ L = L1 ++ L2 ∧ c.reps w x1 ds L1 ∧ c.reps w x2 es L2
  | [], es, xs, L, h => ⟨[], xs, [], L, rfl, rfl, ⟨rfl, rfl⟩, h⟩
  | d :: ds, es, _, _, ⟨c1, c2, L1, L2, rfl, rfl, h1, h2⟩ => by
    obtain ⟨x1, x2, M1, M2, rfl, rfl, h3, h4⟩ := reps_split h2
    exact ⟨c1 ++ x1, x2, L1 ++ M1, M2, by simp, by simp, ⟨c1, x1, L1, M1, rfl, rfl, h1, h3⟩, h4⟩
/-- the element at k -/
theorem reps_at {w : World} {ds : List α} {xs : List Value} {L : List Nat} (h : c.reps w xs ds L) {k : Nat} (hk : k < ds.length) :
    ∃ x1 cs x2 L1 Lk L2, xs = x1 ++ (cs ++ x2) ∧ x1.length = k * c.size ∧ L = L1 ++ (Lk ++ L2) ∧ c.reps w x1 (ds.take k) L1 ∧ c.rep w cs ds[k] Lk ∧ c.reps w x2 (ds.drop (k + 1)) L2 := by
  have e : ds = ds.take k ++ (ds[k] :: ds.drop (k + 1)) := by rw [← List.drop_eq_getElem_cons hk, List.take_append_drop]
  rw [e] at h
  obtain ⟨x1, x2, L1, L2, rfl, rfl, h1, c1, c2, M1, M2, rfl, rfl, h2, h3⟩ := reps_split h
  refine ⟨x1, c1, c2, L1, M1, M2, rfl, ?_, rfl, h1, h2, h3⟩
  have := reps_len h1
  rw [this, List.length_take, Nat.min_eq_left (by omega)]

/-- a slice of such values -/
def Sli (c : Codec α) (w : World) (A : Option Addr) (ds : List α) (L : List Nat) : Prop :=
  ∃ xs L0 L1, L = L0 ++ L1 ∧ Sl w c.size A ds.length xs L0 ∧ c.reps w xs ds L1
theorem Sli.nil (w : World) (A : Option Addr) : Sli c w A [] [] := ⟨[], [], [], rfl, Sl.zero, rfl, rfl⟩
theorem Sli.keep {w w' : World} {A : Option Addr} {ds : List α} {L : List Nat} (h : Sli c w A ds L) (hk : ∀ b ∈ L, w'.heap[b]? = w.heap[b]?) : Sli c w' A ds L := by
  obtain ⟨xs, L0, L1, rfl, h1, h2⟩ := h
  exact ⟨xs, L0, L1, rfl, h1.keep (fun b m => hk b (by simp [m])), reps_keep h2 (fun b m => hk b (by simp [m]))⟩
theorem Sli.lt {w : World} {A : Option Addr} {ds : List α} {L : List Nat} (h : Sli c w A ds L) : ∀ b ∈ L, b < w.heap.size := by
  obtain ⟨xs, L0, L1, rfl, h1, h2⟩ := h
  intro b m
  rcases List.mem_append.1 m with m | m
  · exact h1.lt c.pos b m
  · exact reps_lt h2 b m
theorem Sli.below {w w' : World} {A : Option Addr} {ds : List α} {L : List Nat} (h : Sli c w A ds L) (hb : Below w.heap.size w w') : Sli c w' A ds L := h.keep (keep_below hb h.lt)
/-- where the element at k lies -/
theorem Sli.at_ {w : World} {A : Option Addr} {ds : List α} {L : List Nat} (h : Sli c w A ds L) {k : Nat} (hk : k < ds.length) :
    ∃ b off cs Lk, A = some ⟨b, off, none⟩ ∧ b ∈ L ∧ (∀ x ∈ Lk, x ∈ L) ∧ c.rep w cs ds[k] Lk ∧ ∀ j u, cs[j]? = some u → w.cell? ⟨b, off + (k * c.size + j), none⟩ = some u := by
  obtain ⟨xs, L0, L1, rfl, h1, h2⟩ := h
  obtain ⟨x1, cs, x2, M1, Mk, M2, rfl, hx, rfl, _, h3, _⟩ := reps_at h2 hk
  obtain ⟨b, off, hA, hL, hc⟩ := h1.at_ (by omega)
  subst hL
  refine ⟨b, off, cs, Mk, hA, by simp, fun x m => by simp [m], h3, fun j u hu => hc _ u ?_⟩
  rw [List.getElem?_append_right (by omega), hx, Nat.add_sub_cancel_left, List.getElem?_append_left (List.getElem?_eq_some_iff.1 hu).1]
  exact hu

/-- the codec of slices -/
def sliceC (c : Codec α) : Codec (List α) where
  size := 1
  rep := fun w cs ds L => ∃ A cap, cs = [.slice A ds.length cap] ∧ ds.length ≤ cap ∧ cap ≤ maxLen ∧ Sli c w A ds L
  len := fun ⟨_, _, h, _⟩ => by simp [h]
  keep := fun ⟨A, cap, h, h1, h2, h3⟩ hk => ⟨A, cap, h, h1, h2, h3.keep hk⟩
  lt := fun ⟨_, _, _, _, _, h3⟩ => h3.lt
  one := fun ⟨_, _, h, _⟩ => by simp [h, Value.oneCell']
  pos := by omega

theorem Own.append {w : World} {base base' : Nat} {L M : List Nat} (h : Own w base L) (k : Own w base' M) (hb : base ≤ base') (hl : ∀ b ∈ L, b < base') : Own w base (L ++ M) := by
  refine ⟨?_, ?_, ?_⟩
  · rw [List.nodup_append]
    refine ⟨h.nodup, k.nodup, fun a ha b hb' e => ?_⟩
    subst e
    have := hl a ha
    have := k.ge a hb'
    omega
  · intro b m
    rcases List.mem_append.1 m with m | m
    · exact h.ge b m
    · exact Nat.le_trans hb (k.ge b m)
  · intro b m
    rcases List.mem_append.1 m with m | m
    · exact h.plain b m
    · exact k.plain b m
theorem Own.sub {w : World} {base : Nat} {L M : List Nat} (h : Own w base L) (hs : M.Sublist L) : Own w base M :=
  ⟨h.nodup.sublist hs, fun b m => h.ge b (hs.subset m), fun b m => h.plain b (hs.subset m)⟩

/-- a value of codec c (its cells cs) whose blocks are the call's own -/
structure Got (c : Codec α) (base : Nat) (cs : List Value) (x : α) (L : List Nat) (w : World) : Prop where
  rep : c.rep w cs x L
  own : Own w base L
section
variable {c : Codec α} {base : Nat} {cs : List Value} {x : α} {L M : List Nat} {w w' : World}
theorem Got.keep (h : Got c base cs x L w) (hk : ∀ b ∈ L, w'.heap[b]? = w.heap[b]?) : Got c base cs x L w' := ⟨c.keep h.rep hk, h.own.keep hk⟩
theorem Got.later (h : Got c base cs x L w) (hb : Below w.heap.size w w') : Got c base cs x L w' := h.keep (keep_below hb h.own.lt)
theorem Got.drewN (h : Got c base cs x L w) (q : Nat) : Got c base cs x L (w.drewN q) := h.keep fun _ _ => rfl
theorem Got.setCell (h : Got c base cs x L w) {p : Addr} (hp : p.block < base) (u : Value) : Got c base cs x L (w.setCell p u) :=
  h.keep fun b m => Below.heap_setCell w p u b (by have := h.own.ge b m; omega)
theorem Got.alloc (h : Got c base cs x L w) (o : Obj) : Got c base cs x L (w.alloc o) := h.keep fun b m => Below.heap_alloc w o b (h.own.lt b m)
theorem Got.only (h : Got c base cs x L w) (ho : Only M w w') (hd : ∀ b ∈ L, b ∉ M) : Got c base cs x L w' := h.keep (ho.keep h.own.lt hd)
theorem Got.lt (h : Got c base cs x L w) : ∀ b ∈ L, b < w.heap.size := h.own.lt
theorem Got.mono {base' : Nat} (h : Got c base cs x L w) (hb : base' ≤ base) : Got c base' cs x L w := ⟨h.rep, h.own.mono hb⟩
end

/-- what a call leaves that gives a new value of codec c (a struct) -/
def Gives (c : Codec α) (w : World) (x : α) (e : Ending) (w' : World) : Prop := ∃ cs L, e = .returned (.agg cs.toArray) ∧ Got c w.heap.size cs x L w' ∧ Below w.heap.size w w'

theorem sliceC_out {c : Codec α} {w : World} {A : Option Addr} {n cap : Nat} {ds : List α} {L : List Nat} (h : (sliceC c).rep w [.slice A n cap] ds L) : ds.length ≤ cap ∧ cap ≤ maxLen ∧ Sli c w A ds L := by
  obtain ⟨A', cap', hv, h1, h2, h3⟩ := h
  cases hv
  exact ⟨h1, h2, h3⟩

/-- a row that the call has made, with what its elements lead to -/
structure AccC (c : Codec α) (E : TypeId) (W : World) (v : Value) (ds : List α) (w : World) : Prop where
  ex : ∃ xs L1, w.ownsV W.heap.size E c.size v ds.length xs ∧ c.reps w xs ds L1 ∧ Own w W.heap.size (v.ownBlock.toList ++ L1)
  below : Below W.heap.size W w
def GivesS (c : Codec α) (E : TypeId) (w : World) (ds : List α) (e : Ending) (w' : World) : Prop := ∃ v, e = .returned v ∧ AccC c E w v ds w'
theorem AccC.shape {c : Codec α} {E : TypeId} {W w : World} {v : Value} {ds : List α} (h : AccC c E W v ds w) : ∃ A cap, v = .slice A ds.length cap := by
  obtain ⟨xs, L1, h1, _⟩ := h.ex
  obtain ⟨A, cap, hv, _⟩ := ownV_slice h1
  exact ⟨A, cap, hv⟩
theorem AccC.got {c : Codec α} {E : TypeId} {W w : World} {v : Value} {ds : List α} (h : AccC c E W v ds w) : ∃ L, Got (sliceC c) W.heap.size [v] ds L w := by
  obtain ⟨xs, L1, h1, h2, h3⟩ := h.ex
  obtain ⟨A, cap, rfl, hn, hm⟩ := ownV_slice h1
  obtain ⟨L0, hs, ho, hb⟩ := Sl.of_ownV h1
  refine ⟨L0 ++ L1, ⟨A, cap, rfl, hn, hm, xs, L0, L1, rfl, hs, h2⟩, h3.sub ?_⟩
  refine List.Sublist.append ?_ (List.Sublist.refl _)
  rcases hs.2 with ⟨_, h0⟩ | ⟨_, b, off, rfl, h0, _⟩
  · subst h0; exact List.nil_sublist _
  · subst h0
    simp [Value.ownBlock]

end

/-- several cells stored one behind the other -/
def setCs (w : World) (g p : Nat) : List Value → World
  | [] => w
  | u :: r => setCs (w.setCell ⟨g, p, none⟩ u) g (p + 1) r
def setMany (xs : List Value) (p : Nat) : List Value → List Value
  | [] => xs
  | u :: r => setMany (xs.set p u) (p + 1) r
theorem setMany_append (x1 : List Value) : ∀ (cs x2 : List Value), cs.length ≤ x2.length → setMany (x1 ++ x2) x1.length cs = x1 ++ (cs ++ x2.drop cs.length)
  | [], x2, _ => by simp [setMany]
  | u :: r, [], h => by simp at h
  | u :: r, y :: x2, h => by
    rw [setMany, List.set_append_right _ _ (Nat.le_refl _), Nat.sub_self, List.set_cons_zero]
    have e : x1 ++ u :: x2 = (x1 ++ [u]) ++ x2 := by simp
    have l : x1.length + 1 = (x1 ++ [u]).length := by simp
    rw [e, l, setMany_append (x1 ++ [u]) r x2 (by simpa using h)]
    simp
theorem stored_many {base : Nat} {e : TypeId} {size g n cap : Nat} : ∀ (cs : List Value) (w : World) (xs : List Value) (p : Nat), w.ownsRow base e size (.slice (some ⟨g, 0, none⟩) n cap) n xs →
    (setCs w g p cs).ownsRow base e size (.slice (some ⟨g, 0, none⟩) n cap) n (setMany xs p cs) ∧ w.grownBy (setCs w g p cs) (some g)
  | [], w, xs, p, h => ⟨h, World.grownBy.refl _ _⟩
  | u :: r, w, xs, p, h => by
    obtain ⟨h1, h2⟩ := h.stored p u
    obtain ⟨h3, h4⟩ := stored_many r _ _ (p + 1) h1
    exact ⟨h3, ⟨h4.os.trans h2.os, h4.tape.trans h2.tape, h4.output.trans h2.output, Nat.le_trans h2.size h4.size, fun k hk hn => (h4.block k (Nat.lt_of_lt_of_le hk h2.size) hn).trans (h2.block k hk hn)⟩⟩

/-- a new row of n elements of which the first k are filled -/
structure Filling {α : Type} (c : Codec α) (E : TypeId) (W : World) (n : Nat) (ds : List α) (k : Nat) (w : World) : Prop where
  ex : ∃ x1 x2 L1, w.ownsRow W.heap.size E c.size (.slice (some ⟨W.heap.size, 0, none⟩) n n) n (x1 ++ x2) ∧ c.reps w x1 (ds.take k) L1 ∧ x2.length = (n - k) * c.size ∧ Own w W.heap.size (W.heap.size :: L1)
  below : Below W.heap.size W w
section
variable {α : Type} {c : Codec α} {E : TypeId} {W : World} {n : Nat} {ds : List α} {k : Nat} {w w' : World}
theorem Filling.start {ys : List Value} (h : w.ownsRow W.heap.size E c.size (.slice (some ⟨W.heap.size, 0, none⟩) n n) n ys) (hb : Below W.heap.size W w) : Filling c E W n ds 0 w := by
  refine ⟨⟨[], ys, [], h, ⟨rfl, rfl⟩, by simpa using h.1, by simp, by simp, ?_⟩, hb⟩
  intro b m
  simp at m
  subst m
  rcases h.2 with ⟨h', _⟩ | ⟨g', cap', cur, h', _, hg, _⟩
  · simp at h'
  · simp at h'; obtain ⟨h', _⟩ := h'; subst h'; exact ⟨cur, E, hg⟩
theorem Filling.later (h : Filling c E W n ds k w) (hb : Below w.heap.size w w') : Filling c E W n ds k w' := by
  obtain ⟨⟨x1, x2, L1, h1, h2, h3, h4⟩, hB⟩ := h
  have hk := keep_below hb h4.lt
  refine ⟨⟨x1, x2, L1, ?_, reps_keep h2 (fun b m => hk b (by simp [m])), h3, h4.keep hk⟩, hB.trans (hb.mono hB.size)⟩
  exact h1.kept (row := none) ⟨hb.os, hb.tape, hb.output, hb.size, fun k hk _ => hb.block k hk⟩ (by simp [Value.ownBlock])
theorem Filling.cell (h : Filling c E W n ds k w) (hk : k < n) {j : Nat} (hj : j < c.size) : ∃ d, w.cell? ⟨W.heap.size, k * c.size + j, none⟩ = some d := by
  obtain ⟨⟨x1, x2, L1, h1, h2, h3, h4⟩, hB⟩ := h
  have hlt : k * c.size + j < n * c.size := by
    have := Nat.mul_le_mul_right c.size (show k + 1 ≤ n from hk)
    rw [Nat.add_mul] at this
    omega
  rw [h1.cellAt _ hlt]
  exact ⟨_, List.getElem?_eq_getElem (by rw [h1.1]; exact hlt)⟩
theorem Filling.frozen (h : Filling c E W n ds k w) (j : Nat) : w.frozen? ⟨W.heap.size, j, none⟩ = false := by
  obtain ⟨⟨x1, x2, L1, h1, h2, h3, h4⟩, hB⟩ := h
  exact h1.frozenAt j
theorem Filling.store {cs : List Value} {x : α} {M : List Nat} {w2 : World} (h : Filling c E W n ds k w) (hk : k < n) (hn : n = ds.length) (hx : ∀ hl : k < ds.length, x = ds[k]) (hb : Below w.heap.size w w2) (hg : Got c w.heap.size cs x M w2) :
    Filling c E W n ds (k + 1) (setCs w2 W.heap.size (k * c.size) cs) := by
  have hold := h
  obtain ⟨⟨x1, x2, L1, h1, h2, h3, h4⟩, hB⟩ := h
  have hkeep := keep_below hb h4.lt
  have h1' := (Filling.later hold hb).ex
  clear h1'
  have o1 : w2.ownsRow W.heap.size E c.size (.slice (some ⟨W.heap.size, 0, none⟩) n n) n (x1 ++ x2) := h1.kept (row := none) ⟨hb.os, hb.tape, hb.output, hb.size, fun k hk _ => hb.block k hk⟩ (by simp [Value.ownBlock])
  obtain ⟨o2, o3⟩ := stored_many cs w2 (x1 ++ x2) (k * c.size) o1
  have hx1 : x1.length = k * c.size := by rw [reps_len h2, List.length_take, Nat.min_eq_left (by omega)]
  have hcs : cs.length = c.size := c.len hg.rep
  have h3' : c.size ≤ x2.length := by
    rw [h3]
    have := Nat.mul_le_mul_right c.size (show 1 ≤ n - k by omega)
    omega
  rw [← hx1, setMany_append x1 cs x2 (by omega)] at o2
  have hMge : ∀ b ∈ M, b ≠ W.heap.size := fun b m e => by have := hg.own.ge b m; have := hB.size; have := h4.lt W.heap.size (by simp); omega
  have hL1 : ∀ b ∈ L1, b ≠ W.heap.size := fun b m e => by
    have := h4.nodup
    rw [List.nodup_cons] at this
    exact this.1 (e ▸ m)
  have hkp : ∀ b, b < w2.heap.size → b ≠ W.heap.size → (setCs w2 W.heap.size x1.length cs).heap[b]? = w2.heap[b]? := fun b hl hne => by
    rw [hx1]; exact o3.block b hl (fun e => hne (by injection e))
  rw [← hx1]
  refine ⟨⟨x1 ++ cs, x2.drop cs.length, L1 ++ M, by rw [List.append_assoc]; exact o2, ?_, ?_, ?_⟩, ?_⟩
  · rw [List.take_succ_eq_append_getElem (by omega)]
    refine reps_append (reps_keep h2 (fun b m => ?_)) (reps_one_of ?_)
    · rw [hkp b (Nat.lt_of_lt_of_le (h4.lt b (by simp [m])) hb.size) (hL1 b m)]
      exact hkeep b (by simp [m])
    · rw [← hx (by omega)]
      exact c.keep hg.rep (fun b m => hkp b (hg.own.lt b m) (hMge b m))
  · rw [List.length_drop, h3, hcs, show n - k = (n - (k + 1)) + 1 by omega, Nat.add_mul]; omega
  · have hO : Own w2 W.heap.size ((W.heap.size :: L1) ++ M) := Own.append (h4.keep hkeep) hg.own hB.size h4.lt
    rw [List.cons_append] at hO
    refine ⟨hO.nodup, hO.ge, fun b m => ?_⟩
    by_cases e : b = W.heap.size
    · subst e
      rcases o2.2 with ⟨h', _⟩ | ⟨g', cap', cur, h', _, hgg, _⟩
      · simp at h'
      · simp at h'; obtain ⟨h', _⟩ := h'; rw [← h'] at hgg; exact ⟨cur, E, hgg⟩
    · rw [hkp b (hO.lt b m) e]
      exact hO.plain b m
  · rw [hx1]
    refine (hB.trans (hb.mono hB.size)).trans ⟨o3.os, o3.tape, o3.output, o3.size, fun i hi => o3.block i (Nat.lt_of_lt_of_le hi (Nat.le_trans hB.size hb.size)) (fun e => by injection e with e; omega)⟩
theorem Filling.done (h : Filling c E W n ds n w) (hn : n = ds.length) : AccC c E W (.slice (some ⟨W.heap.size, 0, none⟩) n n) ds w := by
  obtain ⟨⟨x1, x2, L1, h1, h2, h3, h4⟩, hB⟩ := h
  have e : x2 = [] := List.eq_nil_of_length_eq_zero (by simpa using h3)
  subst e
  rw [List.append_nil] at h1
  rw [List.take_of_length_le (by omega)] at h2
  subst hn
  exact ⟨⟨x1, L1, ownsV_of h1, h2, by simpa [Value.ownBlock] using h4⟩, hB⟩
end
theorem cost_le {α : Type} (f : α → Nat) (ds : List α) (k : Nat) (hk : k < ds.length) {B : Nat} (h : (ds.map f).sum ≤ B) : f ds[k] ≤ B := by
  refine Nat.le_trans ?_ h
  have e : ds = ds.take k ++ (ds[k] :: ds.drop (k + 1)) := by rw [← List.drop_eq_getElem_cons hk, List.take_append_drop]
  have : (ds.map f).sum = ((ds.take k).map f).sum + (f ds[k] + ((ds.drop (k + 1)).map f).sum) := by
    have h1 := congrArg (fun l => (List.map f l).sum) e
    simp only [List.map_append, List.map_cons, List.sum_append_nat, List.sum_cons] at h1
    exact h1
  omega

theorem gives_of {α : Type} {c : Codec α} {w wr WF : World} {x : α} {cs : List Value} (L : List Nat) (hg : Got c (w.heap.size + 3) cs x L wr) (hk : ∀ b, w.heap.size + 3 ≤ b → WF.heap[b]? = wr.heap[b]?) (hb : Below w.heap.size w WF) :
    Gives c w x (.returned (.agg cs.toArray)) WF := ⟨cs, L, rfl, (hg.keep (fun b m => hk b (hg.own.ge b m))).mono (by omega), hb⟩

/-- the cost of a text, of several -/
def szR (c : Nat) (l : Int) : Int := if (c : Int) ≤ l then l - c else -1
theorem szR_pos {c : Nat} {l : Int} (h : (c : Int) ≤ l) : szR c l = l - c := if_pos h
theorem szR_neg {c : Nat} {l : Int} (h : ¬ (c : Int) ≤ l) : szR c l = -1 := if_neg h
theorem szR_step (a b c : Nat) (l : Int) (ha : (a : Int) ≤ l) (hc : c = a + b) : szR b (l - a) = szR c l := by
  subst hc
  by_cases h : (b : Int) ≤ l - a
  · rw [szR_pos h, szR_pos (by omega)]; omega
  · rw [szR_neg h, szR_neg (by omega)]
def costStrs (l : List ByteArray) : Nat := l.length + (l.map ByteArray.size).sum
theorem str_rep {w : World} {cs : List Value} {x : ByteArray} {L : List Nat} (h : strC.rep w cs x L) : cs = [.string x] ∧ L = [] ∧ x.size ≤ 9223372036854775807 := h


def SzPost (c : Nat) (left : Int) (w : World) (e : Ending) (w' : World) : Prop := e = .returned (.int .i64 (szR c left)) ∧ Below w.heap.size w w'

/-- a block that is known whole -/
def Blk (w : World) (g : Nat) (t : TypeId) (cs : Array Value) : Prop := w.heap[g]? = some (.cells cs t (0, 0))
section
variable {w w' : World} {g : Nat} {t : TypeId} {cs : Array Value}
theorem Blk.lt (h : Blk w g t cs) : g < w.heap.size := (Array.getElem?_eq_some_iff.1 h).1
theorem Blk.at {i : Nat} {v : Value} (h : Blk w g t cs) (hv : cs[i]? = some v) : w.cell? ⟨g, i, none⟩ = some v := (cell_of_row w g i cs t (0, 0) h).trans hv
theorem Blk.frozen (h : Blk w g t cs) (i : Nat) : w.frozen? ⟨g, i, none⟩ = false := by
  unfold Blk at h
  simp [World.frozen?, h]
theorem Blk.new (w : World) (t : TypeId) (cs : Array Value) : Blk (w.alloc (.cells cs t)) w.heap.size t cs := heap_alloc_new w _
theorem Blk.new_at {w : World} {t : TypeId} {cs : Array Value} {g : Nat} (hg : g = w.heap.size) : Blk (w.alloc (.cells cs t)) g t cs := by subst hg; exact heap_alloc_new w _
theorem Blk.alloc (h : Blk w g t cs) (o : Obj) : Blk (w.alloc o) g t cs := (Below.heap_alloc w o g h.lt).trans h
theorem Blk.set_ (h : Blk w g t cs) (i : Nat) (u : Value) : Blk (w.setCell ⟨g, i, none⟩ u) g t (cs.setIfInBounds i u) := by
  unfold Blk at h ⊢
  simp [World.setCell, Array.getElem?_modify, h]
theorem Blk.far (h : Blk w g t cs) {p : Addr} (hp : g ≠ p.block) (u : Value) : Blk (w.setCell p u) g t cs := (Below.heap_setCell w p u g hp).trans h
theorem Blk.later (h : Blk w g t cs) (hb : Below w.heap.size w w') : Blk w' g t cs := (hb.block g h.lt).trans h
end

/-- an element of a slice of the call's own, and what may be put in its place -/
theorem Got.focus {α : Type} {c : Codec α} {base : Nat} {A : Option Addr} {n cap : Nat} {ds : List α} {L : List Nat} {w : World} {k : Nat} (h : Got (sliceC c) base [.slice A n cap] ds L w) (hk : k < ds.length) :
    ∃ b off cs Lk, A = some ⟨b, off, none⟩ ∧ b ∈ L ∧ (∀ x ∈ Lk, x ∈ L) ∧ Own w base (b :: Lk) ∧ c.rep w cs ds[k] Lk ∧ CellsAt w b (off + k * c.size) cs ∧
      ∀ w' cs' x', Only (b :: Lk) w w' → CellsAt w' b (off + k * c.size) cs' → (∀ o, o < off + k * c.size ∨ off + k * c.size + c.size ≤ o → w'.cell? ⟨b, o, none⟩ = w.cell? ⟨b, o, none⟩) →
        c.rep w' cs' x' Lk → Own w' base (b :: Lk) → Got (sliceC c) base [.slice A n cap] (ds.set k x') L w' := by
  obtain ⟨⟨A', cap', hv, hn, hm, xs, L0, L1, rfl, h1, h2⟩, ho⟩ := h
  cases hv
  obtain ⟨x1, cs, x2, M1, Mk, M2, rfl, hx, rfl, r1, r2, r3⟩ := reps_at h2 hk
  obtain ⟨b, off, rfl, rfl, hc⟩ := h1.at_ (by omega)
  have hcs : cs.length = c.size := c.len r2
  have hmem : ∀ x ∈ Mk, x ∈ [b] ++ (M1 ++ (Mk ++ M2)) := fun x m => by simp [m]
  have hnd := ho.nodup
  have hsub : (b :: Mk).Sublist ([b] ++ (M1 ++ (Mk ++ M2))) := by
    simp only [List.singleton_append]
    exact List.Sublist.cons_cons b ((List.sublist_append_left Mk M2).trans (List.sublist_append_right M1 _))
  refine ⟨b, off, cs, Mk, rfl, by simp, hmem, ho.sub hsub, r2, fun j u hu => ?_, ?_⟩
  · have := hc (x1.length + j) u (by rw [List.getElem?_append_right (by omega), Nat.add_sub_cancel_left, List.getElem?_append_left (List.getElem?_eq_some_iff.1 hu).1]; exact hu)
    rw [hx] at this
    rw [← this, Nat.add_assoc]
  · intro w' cs' x' hon hcell hrest hrep hown
    have hcs' : cs'.length = c.size := c.len hrep
    simp only [List.singleton_append, List.nodup_cons, List.nodup_append, List.mem_append] at hnd
    obtain ⟨hb, hM1, ⟨hMk, hM2, hd2⟩, hd1⟩ := hnd
    have e1 : ∀ y ∈ M1, y ∉ b :: Mk := fun y m m' => by
      rcases List.mem_cons.1 m' with rfl | m'
      · exact hb (.inl m)
      · exact hd1 y m y (.inl m') rfl
    have e2 : ∀ y ∈ M2, y ∉ b :: Mk := fun y m m' => by
      rcases List.mem_cons.1 m' with rfl | m'
      · exact hb (.inr (.inr m))
      · exact hd2 y m' y m rfl
    have k1 := hon.keep (fun y m => ho.lt y (by simp [m])) e1
    have k2 := hon.keep (fun y m => ho.lt y (by simp [m])) e2
    have eset : ds.set k x' = ds.take k ++ (x' :: ds.drop (k + 1)) := by rw [List.set_eq_take_append_cons_drop, if_pos hk]
    refine ⟨⟨some ⟨b, off, none⟩, cap, by simp, by simpa using hn, hm, x1 ++ (cs' ++ x2), [b], M1 ++ (Mk ++ M2), rfl, ⟨?_, .inr ⟨by simp; omega, b, off, rfl, rfl, ?_⟩⟩, ?_⟩, ?_⟩
    · have := h1.1
      simp only [List.length_append, List.length_set] at this ⊢
      omega
    · intro j u hu
      rcases Nat.lt_or_ge j x1.length with hj | hj
      · rw [hrest _ (.inl (by omega))]
        exact hc j u (by rw [List.getElem?_append_left hj] at hu ⊢; exact hu)
      · rw [List.getElem?_append_right hj] at hu
        rcases Nat.lt_or_ge (j - x1.length) cs'.length with hj2 | hj2
        · rw [List.getElem?_append_left hj2] at hu
          have := hcell _ u hu
          rw [show off + k * c.size + (j - x1.length) = off + j by omega] at this
          exact this
        · rw [List.getElem?_append_right hj2] at hu
          rw [hrest _ (.inr (by omega))]
          exact hc j u (by rw [List.getElem?_append_right hj, List.getElem?_append_right (by omega), hcs, ← hcs']; exact hu)
    · rw [eset]
      refine reps_append (reps_keep r1 k1) ⟨cs', x2, Mk, M2, rfl, rfl, hrep, reps_keep r3 k2⟩
    · refine ⟨ho.nodup, ho.ge, fun y m => ?_⟩
      by_cases hy : y ∈ b :: Mk
      · exact hown.plain y hy
      · rw [hon.block y (ho.lt y m) hy]
        exact ho.plain y m

/-- an element whose cells are being written -/
structure Elem (w0 : World) (base b lo m : Nat) (Lk : List Nat) (cs : List Value) (w : World) : Prop where
  cells : CellsAt w b lo cs
  len : cs.length = m
  only : Only (b :: Lk) w0 w
  rest : ∀ o, o < lo ∨ lo + m ≤ o → w.cell? ⟨b, o, none⟩ = w0.cell? ⟨b, o, none⟩
  plain : ∃ cur e, w.heap[b]? = some (.cells cur e (0, 0))
section
variable {w0 : World} {base b lo m : Nat} {Lk M : List Nat} {cs : List Value} {w w' : World}
theorem Elem.start (h : CellsAt w b lo cs) (hl : cs.length = m) (ho : Own w base (b :: Lk)) : Elem w base b lo m Lk cs w := ⟨h, hl, Only.refl _ _, fun _ _ => rfl, ho.plain b (by simp)⟩
theorem Elem.lt (h : Elem w0 base b lo m Lk cs w) : b < w.heap.size := by obtain ⟨cur, e, hc⟩ := h.plain; exact (Array.getElem?_eq_some_iff.1 hc).1
theorem Elem.keepb (h : Elem w0 base b lo m Lk cs w) (hk : w'.heap[b]? = w.heap[b]?) (ho : Only (b :: Lk) w w') : Elem w0 base b lo m Lk cs w' := by
  refine ⟨fun j u hu => ?_, h.len, h.only.trans ho, fun o hr => ?_, ?_⟩
  · rw [← h.cells j u hu]; exact World.cell?_of_block hk
  · rw [← h.rest o hr]; exact World.cell?_of_block hk
  · rw [hk]; exact h.plain
theorem Elem.later (h : Elem w0 base b lo m Lk cs w) (hb : Below w.heap.size w w') : Elem w0 base b lo m Lk cs w' := h.keepb (hb.block b h.lt) (Only.of_below hb _)
theorem Elem.marked (h : Elem w0 base b lo m Lk cs w) (ho : Only M w w') (hs : ∀ y ∈ M, y ∈ Lk) (hd : b ∉ M) : Elem w0 base b lo m Lk cs w' :=
  h.keepb (ho.block b h.lt hd) (ho.mono (fun y m => by simp [hs y m]))
theorem Elem.at (h : Elem w0 base b lo m Lk cs w) {j : Nat} {u : Value} (hu : cs[j]? = some u) : w.cell? ⟨b, lo + j, none⟩ = some u := h.cells j u hu
theorem Elem.frozen (h : Elem w0 base b lo m Lk cs w) (o : Nat) : w.frozen? ⟨b, o, none⟩ = false := by
  obtain ⟨cur, e, hc⟩ := h.plain
  simp [World.frozen?, hc]
theorem Elem.set (h : Elem w0 base b lo m Lk cs w) (j : Nat) (hj : j < m) (u : Value) : Elem w0 base b lo m Lk (cs.set j u) (w.setCell ⟨b, lo + j, none⟩ u) := by
  have hl := h.len
  refine ⟨fun i v hv => ?_, by simp [h.len], h.only.setCell (by simp) _, fun o hr => ?_, ?_⟩
  · by_cases hij : i = j
    · subst hij
      rw [List.getElem?_set] at hv
      simp [show i < cs.length by omega] at hv
      subst hv
      exact cell_setCell_same (h.cells i _ (List.getElem?_eq_getElem (by omega)))
    · rw [List.getElem?_set, if_neg (fun e => hij e.symm)] at hv
      rw [World.cell?_setCell_other _ _ _ _ (by intro e; injection e with _ e; omega)]
      exact h.cells i v hv
  · rw [World.cell?_setCell_other _ _ _ _ (by intro e; injection e with _ e; omega)]
    exact h.rest o hr
  · obtain ⟨cur, e, hc⟩ := h.plain
    exact ⟨cur.setIfInBounds (lo + j) u, e, by simp [World.setCell, Array.getElem?_modify, hc]⟩
end
theorem Got.setFar {α : Type} {c : Codec α} {base : Nat} {cs : List Value} {x : α} {L : List Nat} {w : World} (h : Got c base cs x L w) {p : Addr} (hp : p.block ∉ L) (u : Value) : Got c base cs x L (w.setCell p u) :=
  h.keep fun b m => Below.heap_setCell w p u b (fun e => hp (e ▸ m))

/-- a block and what its element leads to, when only they have turned and what it leads to is kept -/
theorem own_cons_keep {w w' : World} {base b : Nat} {Lk : List Nat} (h : Own w base (b :: Lk)) (hp : ∃ cur e, w'.heap[b]? = some (.cells cur e (0, 0))) (_ho : Only (b :: Lk) w w') (hk : ∀ y ∈ Lk, ∃ cur e, w'.heap[y]? = some (.cells cur e (0, 0))) : Own w' base (b :: Lk) :=
  ⟨h.nodup, h.ge, fun y m => by
    rcases List.mem_cons.1 m with rfl | m
    · exact hp
    · exact hk y m⟩

theorem Own.tail {w : World} {base b : Nat} {L : List Nat} (h : Own w base (b :: L)) : Own w base L := h.sub (List.sublist_cons_self b L)
theorem Own.left {w : World} {base : Nat} {L M : List Nat} (h : Own w base (L ++ M)) : Own w base L := h.sub (List.sublist_append_left L M)
theorem Own.right {w : World} {base : Nat} {L M : List Nat} (h : Own w base (L ++ M)) : Own w base M := h.sub (List.sublist_append_right L M)
theorem Own.head {w : World} {base b : Nat} {L : List Nat} (h : Own w base (b :: L)) : b ∉ L := (List.nodup_cons.1 h.nodup).1
theorem Own.apart {w : World} {base : Nat} {L M : List Nat} (h : Own w base (L ++ M)) : ∀ y ∈ L, y ∉ M := fun y m m' => (List.nodup_append.1 h.nodup).2.2 y m y m' rfl
end Go.Proofs.YtlkgkkacnoaeaaaGreatDoor

namespace Go.Proofs.YtlkgkkacnoaeaaaGreatDoor
open Go.RowKit

structure FactD where
  rel : ByteArray
  args : List ByteArray
def cFact : Codec FactD where
  size := 2
  rep := fun w cs x L => ∃ A1 c1 L1, cs = [.string x.rel, .slice A1 x.args.length c1] ∧ L = L1 ∧ x.rel.size ≤ 9223372036854775807 ∧ x.args.length ≤ c1 ∧ c1 ≤ maxLen ∧ Sli strC w A1 x.args L1
  len := fun ⟨A1, c1, L1, h, hL, t0, n1, m1, s1⟩ => by simp [h]
  keep := fun ⟨A1, c1, L1, h, hL, t0, n1, m1, s1⟩ hk => ⟨A1, c1, L1, h, hL, t0, n1, m1, s1.keep (fun b m => hk b (by simp [hL, m]))⟩
  lt := fun ⟨A1, c1, L1, h, hL, t0, n1, m1, s1⟩ => by intro b m; simp only [hL, List.mem_append] at m; exact s1.lt b m
  one := fun ⟨A1, c1, L1, h, hL, t0, n1, m1, s1⟩ => by simp [h, Value.oneCell']
  pos := by omega
theorem cFact_cells {w : World} {cs : List Value} {x : FactD} {L : List Nat} (h : cFact.rep w cs x L) : ∃ A1 c1, cs = [.string x.rel, .slice A1 x.args.length c1] := by
  obtain ⟨A1, c1, L1, h, hL, t0, n1, m1, s1⟩ := h
  exact ⟨A1, c1, h⟩
def costFact (x : FactD) : Nat := x.rel.size + costStrs x.args
def costFactS (l : List FactD) : Nat := l.length + (l.map costFact).sum
def wfFact (x : FactD) : Prop := (fun _ => True) x.rel ∧ (fun ds => ∀ d ∈ ds, (fun _ => True) d) x.args

structure PatternD where
  rel : ByteArray
  args : List ByteArray
def cPattern : Codec PatternD where
  size := 2
  rep := fun w cs x L => ∃ A1 c1 L1, cs = [.string x.rel, .slice A1 x.args.length c1] ∧ L = L1 ∧ x.rel.size ≤ 9223372036854775807 ∧ x.args.length ≤ c1 ∧ c1 ≤ maxLen ∧ Sli strC w A1 x.args L1
  len := fun ⟨A1, c1, L1, h, hL, t0, n1, m1, s1⟩ => by simp [h]
  keep := fun ⟨A1, c1, L1, h, hL, t0, n1, m1, s1⟩ hk => ⟨A1, c1, L1, h, hL, t0, n1, m1, s1.keep (fun b m => hk b (by simp [hL, m]))⟩
  lt := fun ⟨A1, c1, L1, h, hL, t0, n1, m1, s1⟩ => by intro b m; simp only [hL, List.mem_append] at m; exact s1.lt b m
  one := fun ⟨A1, c1, L1, h, hL, t0, n1, m1, s1⟩ => by simp [h, Value.oneCell']
  pos := by omega
theorem cPattern_cells {w : World} {cs : List Value} {x : PatternD} {L : List Nat} (h : cPattern.rep w cs x L) : ∃ A1 c1, cs = [.string x.rel, .slice A1 x.args.length c1] := by
  obtain ⟨A1, c1, L1, h, hL, t0, n1, m1, s1⟩ := h
  exact ⟨A1, c1, h⟩
def costPattern (x : PatternD) : Nat := x.rel.size + costStrs x.args
def wfPattern (x : PatternD) : Prop := (fun _ => True) x.rel ∧ (fun ds => ∀ d ∈ ds, (fun _ => True) d) x.args

structure PairD where
  var : ByteArray
  value : ByteArray
structure CondD where
  kind : Int
  pattern : PatternD
  left : ByteArray
  right : ByteArray
def cCond : Codec CondD where
  size := 5
  rep := fun w cs x L => ∃ A1 c1 L1, cs = [.int .i64 x.kind, .string x.pattern.rel, .slice A1 x.pattern.args.length c1, .string x.left, .string x.right] ∧ L = L1 ∧ x.pattern.rel.size ≤ 9223372036854775807 ∧ x.left.size ≤ 9223372036854775807 ∧ x.right.size ≤ 9223372036854775807 ∧ x.pattern.args.length ≤ c1 ∧ c1 ≤ maxLen ∧ Sli strC w A1 x.pattern.args L1
  len := fun ⟨A1, c1, L1, h, hL, t0, t1, t2, n1, m1, s1⟩ => by simp [h]
  keep := fun ⟨A1, c1, L1, h, hL, t0, t1, t2, n1, m1, s1⟩ hk => ⟨A1, c1, L1, h, hL, t0, t1, t2, n1, m1, s1.keep (fun b m => hk b (by simp [hL, m]))⟩
  lt := fun ⟨A1, c1, L1, h, hL, t0, t1, t2, n1, m1, s1⟩ => by intro b m; simp only [hL, List.mem_append] at m; exact s1.lt b m
  one := fun ⟨A1, c1, L1, h, hL, t0, t1, t2, n1, m1, s1⟩ => by simp [h, Value.oneCell']
  pos := by omega
theorem cCond_cells {w : World} {cs : List Value} {x : CondD} {L : List Nat} (h : cCond.rep w cs x L) : ∃ A1 c1, cs = [.int .i64 x.kind, .string x.pattern.rel, .slice A1 x.pattern.args.length c1, .string x.left, .string x.right] := by
  obtain ⟨A1, c1, L1, h, hL, t0, t1, t2, n1, m1, s1⟩ := h
  exact ⟨A1, c1, h⟩
def costCond (x : CondD) : Nat := costPattern x.pattern + x.left.size + x.right.size
def costCondS (l : List CondD) : Nat := l.length + (l.map costCond).sum
def wfCond (x : CondD) : Prop := wfInt x.kind ∧ wfPattern x.pattern ∧ (fun _ => True) x.left ∧ (fun _ => True) x.right

structure ActionD where
  kind : Int
  pattern : PatternD
def cAction : Codec ActionD where
  size := 3
  rep := fun w cs x L => ∃ A1 c1 L1, cs = [.int .i64 x.kind, .string x.pattern.rel, .slice A1 x.pattern.args.length c1] ∧ L = L1 ∧ x.pattern.rel.size ≤ 9223372036854775807 ∧ x.pattern.args.length ≤ c1 ∧ c1 ≤ maxLen ∧ Sli strC w A1 x.pattern.args L1
  len := fun ⟨A1, c1, L1, h, hL, t0, n1, m1, s1⟩ => by simp [h]
  keep := fun ⟨A1, c1, L1, h, hL, t0, n1, m1, s1⟩ hk => ⟨A1, c1, L1, h, hL, t0, n1, m1, s1.keep (fun b m => hk b (by simp [hL, m]))⟩
  lt := fun ⟨A1, c1, L1, h, hL, t0, n1, m1, s1⟩ => by intro b m; simp only [hL, List.mem_append] at m; exact s1.lt b m
  one := fun ⟨A1, c1, L1, h, hL, t0, n1, m1, s1⟩ => by simp [h, Value.oneCell']
  pos := by omega
theorem cAction_cells {w : World} {cs : List Value} {x : ActionD} {L : List Nat} (h : cAction.rep w cs x L) : ∃ A1 c1, cs = [.int .i64 x.kind, .string x.pattern.rel, .slice A1 x.pattern.args.length c1] := by
  obtain ⟨A1, c1, L1, h, hL, t0, n1, m1, s1⟩ := h
  exact ⟨A1, c1, h⟩
def costAction (x : ActionD) : Nat := costPattern x.pattern
def costActionS (l : List ActionD) : Nat := l.length + (l.map costAction).sum
def wfAction (x : ActionD) : Prop := wfInt x.kind ∧ wfPattern x.pattern

structure RuleD where
  name : ByteArray
  priority : Int
  cond : List CondD
  thn : List ActionD
def cRule : Codec RuleD where
  size := 4
  rep := fun w cs x L => ∃ A1 c1 L1 A2 c2 L2, cs = [.string x.name, .int .i64 x.priority, .slice A1 x.cond.length c1, .slice A2 x.thn.length c2] ∧ L = L1 ++ L2 ∧ x.name.size ≤ 9223372036854775807 ∧ x.cond.length ≤ c1 ∧ c1 ≤ maxLen ∧ Sli cCond w A1 x.cond L1 ∧ x.thn.length ≤ c2 ∧ c2 ≤ maxLen ∧ Sli cAction w A2 x.thn L2
  len := fun ⟨A1, c1, L1, A2, c2, L2, h, hL, t0, n1, m1, s1, n2, m2, s2⟩ => by simp [h]
  keep := fun ⟨A1, c1, L1, A2, c2, L2, h, hL, t0, n1, m1, s1, n2, m2, s2⟩ hk => ⟨A1, c1, L1, A2, c2, L2, h, hL, t0, n1, m1, s1.keep (fun b m => hk b (by simp [hL, m])), n2, m2, s2.keep (fun b m => hk b (by simp [hL, m]))⟩
  lt := fun ⟨A1, c1, L1, A2, c2, L2, h, hL, t0, n1, m1, s1, n2, m2, s2⟩ => by intro b m; simp only [hL, List.mem_append] at m; rcases m with m | m <;> first | exact s1.lt b m | exact s2.lt b m
  one := fun ⟨A1, c1, L1, A2, c2, L2, h, hL, t0, n1, m1, s1, n2, m2, s2⟩ => by simp [h, Value.oneCell']
  pos := by omega
theorem cRule_cells {w : World} {cs : List Value} {x : RuleD} {L : List Nat} (h : cRule.rep w cs x L) : ∃ A1 c1 A2 c2, cs = [.string x.name, .int .i64 x.priority, .slice A1 x.cond.length c1, .slice A2 x.thn.length c2] := by
  obtain ⟨A1, c1, L1, A2, c2, L2, h, hL, t0, n1, m1, s1, n2, m2, s2⟩ := h
  exact ⟨A1, c1, A2, c2, h⟩
def costRule (x : RuleD) : Nat := x.name.size + costCondS x.cond + costActionS x.thn
def costRuleS (l : List RuleD) : Nat := l.length + (l.map costRule).sum
def wfRule (x : RuleD) : Prop := (fun _ => True) x.name ∧ wfInt x.priority ∧ (fun ds => ∀ d ∈ ds, wfCond d) x.cond ∧ (fun ds => ∀ d ∈ ds, wfAction d) x.thn

structure TokenD where
  facts : List FactD
  binding : List PairD
structure MatchD where
  rule : ByteArray
  facts : List FactD
  binding : List PairD
end Go.Proofs.YtlkgkkacnoaeaaaGreatDoor

namespace Go.Proofs.YtlkgkkacnoaeaaaGreatDoor
open Go.RowKit
/-- kinds of plain data -/
inductive PK where
  | int (k : IntKind)
  | bool
  | str
def pkOk : PK → Value → Prop
  | .int k, .int k' _ => k = k'
  | .bool, .bool _ => True
  | .str, .string s => s.size ≤ 9223372036854775807
  | _, _ => False
def mapOk (kk vk : PK) (kv : List (Value × Value)) : Prop := ∀ p ∈ kv, pkOk kk p.1 ∧ pkOk vk p.2
/-- one cell's datum: a number, a bool, a text, or a slice (the elements' type, the cells of an element, the elements) -/
inductive CT where
  | int (k : IntKind) (n : Int)
  | bool (b : Bool)
  | str (s : ByteArray)
  | sl (e m : Nat) (xs : List (List CT))
  /-- a pointer to cells that are only read -/
  | pt (es : List CT)
  /-- a function value with what it has captured -/
  | fn (f : Nat) (cs : List CT)
  /-- a map of plain keys and plain values that is only read -/
  | mp (kk vk : PK) (kv : List (Value × Value))
  /-- an interface value: nil or not -/
  | ifc (isNil : Bool)
def mapOf (es : Array MapEntry) : List (Value × Value) := es.toList.map fun e => (e.key, e.val)
mutual
def RC (w : World) : CT → Value → List Nat → Prop
  | .int k n, v, L => v = .int k n ∧ L = []
  | .bool b, v, L => v = .bool b ∧ L = []
  | .str s, v, L => v = .string s ∧ L = [] ∧ s.size ≤ 9223372036854775807
  | .sl _ m xs, v, L => ∃ A cap cs L0 L1, v = .slice A xs.length cap ∧ xs.length ≤ cap ∧ cap ≤ maxLen ∧ L = L0 ++ L1 ∧ 0 < m ∧ Sl w m A xs.length cs L0 ∧ REs w m xs cs L1
  | .pt es, v, L => ∃ b cs L1, v = .pointer (some ⟨b, 0, none⟩) ∧ b < w.heap.size ∧ L = b :: L1 ∧ CellsAt w b 0 cs ∧ RCs w es cs L1
  | .fn f es, v, L => ∃ vs : List Value, v = .func (.func f) #[] vs.toArray ∧ RCs w es vs L
  | .mp kk vk kv, v, L => ∃ b es c, v = .map (some b) ∧ w.heap[b]? = some (.map es c) ∧ mapOf es = kv ∧ mapOk kk vk kv ∧ L = [b]
  | .ifc b, v, L => L = [] ∧ v.oneCell' = true ∧ (match b with | true => v = .nilIface | false => ∃ t x, v = .iface t x)
def RCs (w : World) : List CT → List Value → List Nat → Prop
  | [], cs, L => cs = [] ∧ L = []
  | x :: r, cs, L => ∃ v cs' L1 L2, cs = v :: cs' ∧ L = L1 ++ L2 ∧ RC w x v L1 ∧ RCs w r cs' L2
def REs (w : World) (m : Nat) : List (List CT) → List Value → List Nat → Prop
  | [], cs, L => cs = [] ∧ L = []
  | e :: r, cs, L => ∃ c1 c2 L1 L2, cs = c1 ++ c2 ∧ L = L1 ++ L2 ∧ (RCs w e c1 L1 ∧ c1.length = m) ∧ REs w m r c2 L2
end
mutual
theorem RC.keep {w w' : World} : ∀ {x : CT} {v : Value} {L : List Nat}, RC w x v L → (∀ b ∈ L, w'.heap[b]? = w.heap[b]?) → RC w' x v L
  | .int _ _, _, _, h, _ => h
  | .bool _, _, _, h, _ => h
  | .str _, _, _, h, _ => h
  | .sl _ _ _, _, _, ⟨A, cap, cs, L0, L1, h1, h2, h3, h4, h5, h6, h7⟩, hk => ⟨A, cap, cs, L0, L1, h1, h2, h3, h4, h5, h6.keep fun b m => hk b (by simp [h4, m]), h7.keep fun b m => hk b (by simp [h4, m])⟩
  | .pt _, _, _, ⟨b, cs, L1, h1, h2, h3, h4, h5⟩, hk => ⟨b, cs, L1, h1, by
      have e := hk b (by simp [h3])
      rcases Nat.lt_or_ge b w'.heap.size with h | h
      · exact h
      · rw [Array.getElem?_eq_none h] at e
        have := Array.getElem?_eq_none_iff.1 e.symm
        omega, h3, fun j u hu => by rw [← h4 j u hu]; exact World.cell?_of_block (hk b (by simp [h3])), h5.keep fun b m => hk b (by simp [h3, m])⟩
  | .fn _ _, _, _, ⟨vs, h1, h2⟩, hk => ⟨vs, h1, h2.keep hk⟩
  | .mp _ _ _, _, _, ⟨b, es, c, h1, h2, h3, h3', h4⟩, hk => ⟨b, es, c, h1, by rw [hk b (by simp [h4])]; exact h2, h3, h3', h4⟩
  | .ifc _, _, _, h, _ => h
theorem RCs.keep {w w' : World} : ∀ {x : List CT} {v : List Value} {L : List Nat}, RCs w x v L → (∀ b ∈ L, w'.heap[b]? = w.heap[b]?) → RCs w' x v L
  | [], _, _, h, _ => h
  | _ :: _, _, _, ⟨v, cs, L1, L2, h1, h2, h3, h4⟩, hk => ⟨v, cs, L1, L2, h1, h2, h3.keep fun b m => hk b (by simp [h2, m]), h4.keep fun b m => hk b (by simp [h2, m])⟩
theorem REs.keep {w w' : World} {m : Nat} : ∀ {x : List (List CT)} {v : List Value} {L : List Nat}, REs w m x v L → (∀ b ∈ L, w'.heap[b]? = w.heap[b]?) → REs w' m x v L
  | [], _, _, h, _ => h
  | _ :: _, _, _, ⟨c1, c2, L1, L2, h1, h2, h3, h4⟩, hk => ⟨c1, c2, L1, L2, h1, h2, ⟨h3.1.keep fun b m => hk b (by simp [h2, m]), h3.2⟩, h4.keep fun b m => hk b (by simp [h2, m])⟩
end
mutual
theorem RC.lt {w : World} : ∀ {x : CT} {v : Value} {L : List Nat}, RC w x v L → ∀ b ∈ L, b < w.heap.size
  | .int _ _, _, _, h => by simp [h.2]
  | .bool _, _, _, h => by simp [h.2]
  | .str _, _, _, h => by simp [h.2.1]
  | .sl _ _ _, _, _, ⟨A, cap, cs, L0, L1, h1, h2, h3, h4, h5, h6, h7⟩ => fun b m => by
    rw [h4] at m
    rcases List.mem_append.1 m with m | m
    · exact h6.lt h5 b m
    · exact h7.lt b m
  | .pt _, _, _, ⟨b, cs, L1, h1, h2, h3, h4, h5⟩ => fun x m => by
    rw [h3] at m
    rcases List.mem_cons.1 m with rfl | m
    · exact h2
    · exact h5.lt x m
  | .fn _ _, _, _, ⟨vs, h1, h2⟩ => h2.lt
  | .mp _ _ _, _, _, ⟨b, es, c, h1, h2, h3, h3', h4⟩ => fun x m => by
    rw [h4] at m
    simp at m; subst m
    exact (Array.getElem?_eq_some_iff.1 h2).1
  | .ifc _, _, _, h => by simp [h.1]
theorem RCs.lt {w : World} : ∀ {x : List CT} {v : List Value} {L : List Nat}, RCs w x v L → ∀ b ∈ L, b < w.heap.size
  | [], _, _, h => by simp [h.2]
  | _ :: _, _, _, ⟨v, cs, L1, L2, h1, h2, h3, h4⟩ => fun b m => by
    rw [h2] at m
    rcases List.mem_append.1 m with m | m
    · exact h3.lt b m
    · exact h4.lt b m
theorem REs.lt {w : World} {m : Nat} : ∀ {x : List (List CT)} {v : List Value} {L : List Nat}, REs w m x v L → ∀ b ∈ L, b < w.heap.size
  | [], _, _, h => by simp [h.2]
  | _ :: _, _, _, ⟨c1, c2, L1, L2, h1, h2, h3, h4⟩ => fun b m => by
    rw [h2] at m
    rcases List.mem_append.1 m with m | m
    · exact h3.1.lt b m
    · exact h4.lt b m
end
theorem RC.one {w : World} : ∀ {x : CT} {v : Value} {L : List Nat}, RC w x v L → v.oneCell' = true
  | .int _ _, _, _, h => by simp [h.1, Value.oneCell']
  | .bool _, _, _, h => by simp [h.1, Value.oneCell']
  | .str _, _, _, h => by simp [h.1, Value.oneCell']
  | .sl _ _ _, _, _, ⟨A, cap, cs, L0, L1, h1, _⟩ => by simp [h1, Value.oneCell']
  | .pt _, _, _, ⟨b, cs, L1, h1, _⟩ => by simp [h1, Value.oneCell']
  | .fn _ _, _, _, ⟨vs, h1, _⟩ => by simp [h1, Value.oneCell']
  | .mp _ _ _, _, _, ⟨b, es, c, h1, _⟩ => by simp [h1, Value.oneCell']
  | .ifc _, _, _, h => h.2.1
theorem RCs.one {w : World} : ∀ {x : List CT} {v : List Value} {L : List Nat}, RCs w x v L → ∀ u ∈ v, u.oneCell' = true
  | [], _, _, h => by simp [h.1]
  | _ :: _, _, _, ⟨v, cs, L1, L2, h1, h2, h3, h4⟩ => fun u m => by
    rw [h1] at m
    rcases List.mem_cons.1 m with rfl | m
    · exact h3.one
    · exact h4.one u m
theorem RCs.len {w : World} : ∀ {x : List CT} {v : List Value} {L : List Nat}, RCs w x v L → v.length = x.length
  | [], _, _, h => by simp [h.1]
  | _ :: _, _, _, ⟨v, cs, L1, L2, h1, h2, h3, h4⟩ => by simp [h1, h4.len]
theorem RCs.at {w : World} : ∀ {xs : List CT} {vs : List Value} {L : List Nat} {i : Nat} {x : CT}, RCs w xs vs L → xs[i]? = some x → ∃ v L', vs[i]? = some v ∧ RC w x v L' ∧ ∀ b ∈ L', b ∈ L
  | [], _, _, i, x, _, hx => by simp at hx
  | y :: r, _, _, 0, x, ⟨v, cs, L1, L2, h1, h2, h3, h4⟩, hx => by
    simp at hx; subst hx; exact ⟨v, L1, by simp [h1], h3, fun b m => by simp [h2, m]⟩
  | y :: r, _, _, i + 1, x, ⟨v, cs, L1, L2, h1, h2, h3, h4⟩, hx => by
    obtain ⟨v', L', a, b, c⟩ := RCs.at h4 (i := i) (x := x) (by simpa using hx)
    exact ⟨v', L', by simp [h1, a], b, fun b m => by simp [h2, c b m]⟩
theorem RCs.append {w : World} : ∀ {xs ys : List CT} {us vs : List Value} {L M : List Nat}, RCs w xs us L → RCs w ys vs M → RCs w (xs ++ ys) (us ++ vs) (L ++ M)
  | [], _, _, _, _, _, h, h' => by obtain ⟨rfl, rfl⟩ := h; simpa using h'
  | _ :: _, _, _, _, _, _, ⟨v, cs, L1, L2, h1, h2, h3, h4⟩, h' => ⟨v, cs ++ _, L1, L2 ++ _, by simp [h1], by simp [h2], h3, h4.append h'⟩
end Go.Proofs.YtlkgkkacnoaeaaaGreatDoor

namespace Go.Proofs.YtlkgkkacnoaeaaaGreatDoor
open Go.RowKit
/-- what a cell holds: a tree (a slice in it is read only), a row that the call has made (by its key), the nil slice, or nothing that is known -/
inductive AV where
  | c (x : CT)
  /-- a row that the call has made with all that it leads to, from now on only read, maybe through others too -/
  | n (x : CT)
  | row (k : Nat)
  | nil (e m : Nat)
  | dead
inductive SV where
  | any
  | und
  | p (agg : Bool) (cs : List AV)
  | tup (xs : List (Bool × List AV))
  | bp (k off : Nat)
  | rp (k m i off : Nat)
  | ep (e : List CT) (off : Nat)
  | fn (f : FuncId)
inductive Ob where
  | gone
  | box (t : TypeId) (cs : List AV)
  | row (e m : Nat) (xs : List (List CT)) (deep : Nat)
  | map (kk vk : PK) (kv : List (Value × Value))
def upd {α : Type} (f : Nat → α) (k : Nat) (v : α) : Nat → α := fun j => if j = k then v else f j
/-- how far a row is the call's own: 2 with all that it leads to, 1 the row alone, 0 not any more (it is only read from then on) -/
def dmin (a b : Nat) : Nat := if a ≤ b then a else b
structure St where
  sl : Nat → SV
  ob : Nat → Ob
  n : Nat
def St.put (st : St) (d : Option Nat) (v : SV) : St := match d with | none => st | some t => { st with sl := upd st.sl t v }
def updAll (ob : Nat → Ob) : List (Nat × Ob) → Nat → Ob
  | [] => ob
  | p :: r => updAll (upd ob p.1 p.2) r
def St.app (st : St) (u : List (Nat × Ob)) : St := { st with ob := updAll st.ob u }
/-- types: a field of a struct; a type of one cell, a struct, a slice -/
structure FI where
  off : Nat
  size : Nat
  agg : Bool
inductive TI where
  | atom (z : AV)
  | strct (fs : List FI) (n : Nat) (z : List AV)
  | slice (e m bytes : Nat) (z : List AV)
  | map (kk vk : PK)
  | eqs (ks : List PK)
  | ifc
def isIfc : Option TI → Bool
  | some .ifc => true
  | _ => false
def zeroOf : Option TI → Option (List AV)
  | some (.atom z) => some [z]
  | some (.strct _ _ z) => some z
  | some (.slice e m _ _) => some [.nil e m]
  | _ => none
def strOk (s : ByteArray) : Bool := Nat.ble s.data.toList.length 9223372036854775807
def cvT (ti : Option TI) : Value → SV
  | .int k n => .p false [.c (.int k n)]
  | .bool b => .p false [.c (.bool b)]
  | .string s => if strOk s then .p false [.c (.str s)] else .any
  | .slice none 0 0 => match ti with | some (.slice e m _ _) => .p false [.nil e m] | _ => .any
  | _ => .any
section
variable (tt : Nat → Option TI)
def St.ev (st : St) (t : Nat) : Operand → SV
  | .tmp s => st.sl s
  | .const v => cvT (tt t) v
  | .func f => .fn f
  | .global _ => .any
def andI (k : IntKind) (x y : Int) : Int := k.wrap (BitVec.ofInt k.bits x &&& BitVec.ofInt k.bits y).toNat
def orI (k : IntKind) (x y : Int) : Int := k.wrap (BitVec.ofInt k.bits x ||| BitVec.ofInt k.bits y).toNat
def xorI (k : IntKind) (x y : Int) : Int := k.wrap (BitVec.ofInt k.bits x ^^^ BitVec.ofInt k.bits y).toNat
def andNotI (k : IntKind) (x y : Int) : Int := k.wrap (BitVec.ofInt k.bits x &&& ~~~ BitVec.ofInt k.bits y).toNat
def shlI (k : IntKind) (x y : Int) : Int := k.wrap (x * 2 ^ (min y.toNat k.bits))
def shrI (k : IntKind) (x y : Int) : Int := x.fdiv (2 ^ (min y.toNat k.bits))
def bitV (op : BinOp) (k : IntKind) (x y : Int) : Option Int :=
  match op with
  | .and => some (andI k x y)
  | .or => some (orI k x y)
  | .xor => some (xorI k x y)
  | .andNot => some (andNotI k x y)
  | _ => none
def intV (op : BinOp) (k : IntKind) (x y : Int) : Option CT :=
  match op with
  | .add => some (.int k (k.wrap (x + y)))
  | .sub => some (.int k (k.wrap (x - y)))
  | .mul => some (.int k (k.wrap (x * y)))
  | .quo => if y = 0 then none else some (.int k (k.wrap (x.tdiv y)))
  | .rem => if y = 0 then none else some (.int k (x.tmod y))
  | .eql => some (.bool (x == y))
  | .neq => some (.bool (x != y))
  | .lss => some (.bool (decide (x < y)))
  | .leq => some (.bool (decide (x ≤ y)))
  | .gtr => some (.bool (decide (y < x)))
  | .geq => some (.bool (decide (y ≤ x)))
  | .shl => if y < 0 then none else some (.int k (shlI k x y))
  | .shr => if y < 0 then none else some (.int k (shrI k x y))
  | op => (bitV op k x y).map (.int k)
def sLt (x y : ByteArray) : Bool := Op.bytesLess x.toList y.toList
def sEq (x y : ByteArray) : Bool := decide (x = y)
def strV (op : BinOp) (x y : ByteArray) : Option CT :=
  match op with
  | .add => if x.size + y.size ≤ 9223372036854775807 then some (.str (x ++ y)) else none
  | .eql => some (.bool (sEq x y))
  | .neq => some (.bool (!sEq x y))
  | .lss => some (.bool (sLt x y))
  | .leq => some (.bool (sLt x y || sEq x y))
  | .gtr => some (.bool (!(sLt x y || sEq x y)))
  | .geq => some (.bool (!sLt x y))
  | _ => none
/-- two plain cells: alike or not -/
def eqC : PK → AV → AV → Option Bool
  | .int _, .c (.int k x), .c (.int k' y) => if k = k' then some (x == y) else none
  | .str, .c (.str x), .c (.str y) => some (sEq x y)
  | .bool, .c (.bool x), .c (.bool y) => some (x == y)
  | _, _, _ => none
def eqCs : List PK → List AV → List AV → Option Bool
  | [], [], [] => some true
  | k :: ks, x :: r, y :: q => (eqC k x y).bind fun a => (eqCs ks r q).map fun b => a && b
  | _, _, _ => none
def eqsTI : Option TI → Option (List PK)
  | some (.eqs ks) => some ks
  | _ => none
def eqRes (op : BinOp) (b : Bool) : Option SV :=
  match op with
  | .eql => some (.p false [.c (.bool b)])
  | .neq => some (.p false [.c (.bool (!b))])
  | _ => none
def aggV (t : Option TI) (op : BinOp) : SV → SV → Option SV
  | .p true xs, .p true ys => (eqsTI t).bind fun ks => (eqCs ks xs ys).bind (eqRes op)
  | _, _ => none
def isNilV : Value → Bool
  | .nilIface => true
  | .int _ _ => false
  | .string _ => false
  | .bool _ => false
  | .slice _ _ _ => false
  | _ => false
def isNilC : Operand → Bool
  | .const v => isNilV v
  | .tmp _ => false
  | .func _ => false
  | .global _ => false
def nilV (op : BinOp) : SV → Option SV
  | .p false [.c (.ifc b)] => eqRes op b
  | _ => none
def isAggV : SV → Bool
  | .p ag _ => ag
  | _ => false
def binV (t : Option TI) (op : BinOp) : SV → SV → Option SV
  | .p false [.c (.int k x)], .p false [.c (.int k' y)] => if k = k' ∨ op = .shl ∨ op = .shr then (intV op k x y).map fun z => .p false [.c z] else none
  | .p false [.c (.str x)], .p false [.c (.str y)] => (strV op x y).map fun z => .p false [.c z]
  | .p false [.c (.bool x)], .p false [.c (.bool y)] =>
    match t, op with
    | some (.atom (.c (.bool _))), .eql => some (.p false [.c (.bool (x == y))])
    | some (.atom (.c (.bool _))), .neq => some (.p false [.c (.bool (!(x == y)))])
    | _, _ => none
  | _, _ => none
def unV (op : UnOp) : SV → Option SV
  | .p false [.c (.bool b)] => match op with | .not => some (.p false [.c (.bool (!b))]) | _ => none
  | .p false [.c (.int k n)] => match op with | .neg => some (.p false [.c (.int k (k.wrap (0 - n)))]) | _ => none
  | _ => none
def binO (tt : Nat → Option TI) (t : Nat) (n : Bool) (op : BinOp) (x y : SV) : Option SV :=
  if n = true then (if isIfc (tt t) = true then nilV op x else none) else if isAggV x = true then aggV (tt (t + 4000)) op x y else binV (tt t) op x y
def intsOf : List (List CT) → Option (List Int)
  | [] => some []
  | [.int .u8 n] :: r => (intsOf r).map fun l => n :: l
  | _ :: _ => none
def bytesS (l : List Int) : ByteArray := ⟨(l.map fun n => UInt8.ofNat n.toNat).toArray⟩
def byteTI : Option TI → Bool
  | some (.atom (.c (.int .u8 _))) => true
  | _ => false
def convV (s t : Option TI) : SV → Option SV
  | .p false [.c (.int _ n)] => match s, t with | some (.atom _), some (.atom (.c (.int k _))) => some (.p false [.c (.int k (k.wrap n))]) | _, _ => none
  | _ => none
def isSlice : Option TI → Bool
  | some (.slice _ _ _ _) => true
  | _ => false
def isStr : Option TI → Bool
  | some (.atom (.c (.str _))) => true
  | _ => false
def lenV (st : St) (t : Option TI) : SV → Option SV
  | .p false [.c (.sl _ _ xs)] => if isSlice t = true then some (.p false [.c (.int .i64 xs.length)]) else none
  | .p false [.n (.sl _ _ xs)] => if isSlice t = true then some (.p false [.c (.int .i64 xs.length)]) else none
  | .p false [.c (.str s)] => if isStr t = true then some (.p false [.c (.int .i64 s.size)]) else none
  | .p false [.nil _ _] => if isSlice t = true then some (.p false [.c (.int .i64 0)]) else none
  | .p false [.row k] => match st.ob k with | .row _ _ xs _ => if isSlice t = true then some (.p false [.c (.int .i64 xs.length)]) else none | _ => none
  | _ => none
def idxAddr (st : St) (m : Nat) : SV → SV → Option SV
  | .p false [.c (.sl _ m' xs)], .p false [.c (.int _ i)] => if 0 ≤ i ∧ m = m' then (xs[i.toNat]?).map fun e => .ep e 0 else none
  | .p false [.row k], .p false [.c (.int _ i)] => match st.ob k with
    | .row _ m' xs _ => if 0 ≤ i ∧ i < xs.length ∧ m = m' then some (.rp k m i.toNat 0) else none
    | _ => none
  | _, _ => none
def idxStr (t : Option TI) : SV → SV → Option SV
  | .p false [.c (.str s)], .p false [.c (.int _ i)] => if 0 ≤ i ∧ isStr t = true then (s[i.toNat]?).map fun b => .p false [.c (.int .u8 b.toNat)] else none
  | _, _ => none
/-- so many of the cells from one on, as a value of the type -/
def cut (t : Option TI) (cs : List AV) (off : Nat) : Option SV :=
  match t with
  | some (.strct _ n _) => if off + n ≤ cs.length then some (.p true ((cs.drop off).take n)) else none
  | some (.eqs _) => none
  | some _ => (cs[off]?).map fun x => .p false [x]
  | none => none
def loadV (st : St) (t : Option TI) : SV → Option SV
  | .bp k off => match st.ob k with | .box _ cs => cut t cs off | _ => none
  | .rp k m i off => match st.ob k with | .row _ m' xs _ => (xs[i]?).bind fun e => if m = m' then cut t (e.map .c) off else none | _ => none
  | .ep e off => cut t (e.map .c) off
  | .p false [.c (.pt e)] => cut t (e.map .c) 0
  | _ => none
def splice {α : Type} (cs : List α) (off : Nat) (vs : List α) : List α := cs.take off ++ (vs ++ cs.drop (off + vs.length))
def flatC : AV → Option CT
  | .c (.int k n) => some (.int k n)
  | .c (.bool b) => some (.bool b)
  | .c (.str s) => some (.str s)
  | _ => none
def flatCs : List AV → Option (List CT)
  | [] => some []
  | x :: r => (flatC x).bind fun a => (flatCs r).map fun b => a :: b
def sizeTI : Option TI → Nat
  | some (.strct _ n _) => n
  | some (.atom _) => 1
  | some (.slice _ _ _ _) => 1
  | _ => 0
def storeV (st : St) (t : Option TI) : SV → SV → Option (List (Nat × Ob))
  | .bp k off, .p _ vs => match st.ob k with
    | .box tb cs => if vs.length = sizeTI t ∧ 0 < vs.length ∧ off + vs.length ≤ cs.length then some [(k, .box tb (splice cs off vs))] else none
    | _ => none
  | .rp k m i off, .p _ vs => match st.ob k with
    | .row e m' xs d => (xs[i]?).bind fun x => (flatCs vs).bind fun ys => if m = m' ∧ vs.length = sizeTI t ∧ 0 < vs.length ∧ off + vs.length ≤ m ∧ 0 < d then some [(k, .row e m (xs.set i (splice x off ys)) d)] else none
    | _ => none
  | _, _ => none
def ptrAdd (d : Nat) : SV → Option SV
  | .bp k off => some (.bp k (off + d))
  | .rp k m i off => some (.rp k m i (off + d))
  | .ep e off => some (.ep e (off + d))
  | .p false [.c (.pt e)] => some (.ep e d)
  | _ => none
def fieldV (fs : List FI) (f : Nat) : SV → Option SV
  | .p true cs => (fs[f]?).bind fun i => if i.agg then (if i.off + i.size ≤ cs.length then some (.p true ((cs.drop i.off).take i.size)) else none) else (cs[i.off]?).map fun x => .p false [x]
  | _ => none
def fillS (fs : List FI) (cs : List AV) : List (Nat × SV) → Option (List AV)
  | [] => some cs
  | (i, .p _ vs) :: r => (fs[i]?).bind fun f => if vs.length = f.size ∧ f.off + vs.length ≤ cs.length then fillS fs (splice cs f.off vs) r else none
  | _ :: _ => none
/-- the constant nil at a field reads as the field's zero value -/
def partS (st : St) (fs : List FI) (z : List AV) (p : Nat × Operand) : Nat × SV :=
  match p.2 with
  | .const (.slice none 0 0) => (p.1, match (fs[p.1]?).bind fun f => z[f.off]? with | some (.nil e m) => .p false [.nil e m] | _ => .any)
  | x => (p.1, st.ev tt 0 x)
/-- a cell as a tree: the rows that are used up, and whether all that it leads to is the call's own -/
def avT (st : St) : AV → Option (CT × List Nat × Nat)
  | .c (.int k n) => some (.int k n, [], 2)
  | .c (.bool b) => some (.bool b, [], 2)
  | .c (.str s) => some (.str s, [], 2)
  | .c x => some (x, [], 1)
  | .nil e m => if 0 < m then some (.sl e m [], [], 2) else none
  | .row k => match st.ob k with | .row e m xs d => (if d = 0 then some (.sl e m xs, [], 1) else some (.sl e m xs, [k], d)) | _ => none
  | .n _ => none
  | .dead => none
def avTs (st : St) : List AV → Option (List CT × List Nat × Nat)
  | [] => some ([], [], 2)
  | x :: r => (avT st x).bind fun a => (avTs st r).map fun b => (a.1 :: b.1, a.2.1 ++ b.2.1, dmin a.2.2 b.2.2)
def elemsS (st : St) (m : Nat) : List SV → Option (List (List CT) × List Nat × Nat)
  | [] => some ([], [], 2)
  | .p _ cs :: r => if cs.length = m then (avTs st cs).bind fun a => (elemsS st m r).map fun b => (a.1 :: b.1, a.2.1 ++ b.2.1, dmin a.2.2 b.2.2) else none
  | _ :: _ => none
/-- a cell that is no slice -/
def avFlat : AV → Bool
  | .c _ => true
  | _ => false
def frzOb : Ob → Ob
  | .row e m xs _ => .row e m xs 0
  | o => o
def frzAll (st : St) : List Nat → List (Nat × Ob)
  | [] => []
  | k :: r => (k, frzOb (st.ob k)) :: frzAll st r
def goneAll (ks : List Nat) : List (Nat × Ob) := ks.map fun k => (k, Ob.gone)
def CT.flat : CT → Bool
  | .int _ _ => true
  | .bool _ => true
  | .str _ => true
  | _ => false
def flatEs (xs : List (List CT)) : Bool := xs.all fun e => e.all CT.flat
def flatD (fl : Bool) (xs : List (List CT)) : Nat := if (fl && flatEs xs) = true then 2 else 1
def appSrc (st : St) (fl : Bool) : SV → Option (List (List CT) × List Nat × Nat)
  | .p false [.c (.sl _ _ ys)] => some (ys, [], flatD fl ys)
  | .p false [.nil _ _] => some ([], [], 2)
  | .p false [.row j] => match st.ob j with | .row _ _ ys d => (if d = 0 then some (ys, [], flatD fl ys) else some (ys, [j], d)) | _ => none
  | _ => none
def appDst (st : St) : SV → Option (List (List CT) × List Nat × Nat)
  | .p false [.nil _ _] => some ([], [], 2)
  | .p false [.row k] => match st.ob k with | .row _ _ xs d => (if d = 0 then none else some (xs, [k], d)) | _ => none
  | _ => none
def dstOk (st : St) (e m : Nat) : SV → Bool
  | .p false [.row k] => match st.ob k with | .row e' m' _ _ => e == e' && m == m' | _ => false
  | .p false [.nil _ _] => true
  | _ => false
def srcOk (st : St) (m : Nat) : SV → Bool
  | .p false [.row k] => match st.ob k with | .row _ m' _ _ => m == m' | _ => false
  | .p false [.c (.sl _ m' _)] => m == m'
  | .p false [.nil _ _] => true
  | _ => false
def appV (st : St) (key : Nat) (t : Option TI) (s x : SV) : Option (SV × List (Nat × Ob)) :=
  match t with
  | some (.slice e m _ z) =>
    (appDst st s).bind fun a => (appSrc st (z.all avFlat) x).bind fun b =>
      if dstOk st e m s = true ∧ srcOk st m x = true ∧ (a.2.1 ++ b.2.1).Nodup ∧ a.1.length + b.1.length ≤ 1073741824 then
        some (.p false [.row key], goneAll (a.2.1 ++ b.2.1) ++ [(key, .row e m (a.1 ++ b.1) (dmin a.2.2 b.2.2))]) else none
  | _ => none
def maxV (lo : Bool) : SV → SV → Option SV
  | .p false [.c (.int k x)], .p false [.c (.int _ y)] => some (.p false [.c (.int k (if lo then (if y < x then y else x) else (if x < y then y else x)))])
  | _, _ => none
def sizeSl : Option TI → Nat
  | some (.slice _ m _ _) => m
  | _ => 0
def hiB (n : Nat) : Option SV → Option Nat
  | none => some n
  | some (.p false [.c (.int _ h)]) => if 0 ≤ h ∧ h ≤ n then some h.toNat else none
  | _ => none
def loB (n : Nat) : Option SV → Option Nat
  | none => some 0
  | some (.p false [.c (.int _ l)]) => if 0 ≤ l ∧ l ≤ n then some l.toNat else none
  | _ => none
def sliceV (t : Option TI) (lo hi : Option SV) : SV → Option SV
  | .p false [.c (.str s)] => if isStr t = true then (hiB s.size hi).bind fun h => (loB h lo).map fun l => .p false [.c (.str (s.extract l h))] else none
  | .p false [.c (.sl e m xs)] => if sizeSl t = m then (hiB xs.length hi).bind fun h => (loB h lo).map fun l => .p false [.c (.sl e m ((xs.take h).drop l))] else none
  | _ => none
/-- what is left of a row from a place on takes the row's place -/
def mvS (d : Nat) : Option SV → Option SV → Bool
  | some _, none => if d = 0 then false else true
  | _, _ => false
/-- a part of a row that the call has made: the row is only read from then on -/
def sliceU (st : St) (key : Nat) (t : Option TI) (lo hi : Option SV) : SV → Option (SV × List (Nat × Ob))
  | .p false [.row k] => if isSlice t = true then (match st.ob k with
    | .row e m xs d => if sizeSl t = m then if mvS d lo hi = true then (loB xs.length lo).map fun l => (.p false [.row key], [(k, .gone), (key, .row e m (xs.drop l) d)]) else (hiB xs.length hi).bind fun h => (loB h lo).map fun l => (.p false [.c (.sl e m ((xs.take h).drop l))], [(k, .row e m xs 0)]) else none
    | _ => none) else none
  | .p false [.c x] => (sliceV t lo hi (.p false [.c x])).map fun v => (v, [])
  | _ => none
/-- maps: keys and values are plain -/
def vEq : Value → Value → Bool
  | .int k a, .int k' b => k == k' && a == b
  | .string a, .string b => sEq a b
  | .bool a, .bool b => a == b
  | _, _ => false
def mget : List (Value × Value) → Value → Option Value
  | [], _ => none
  | p :: r, k => if vEq k p.1 = true then some p.2 else mget r k
def mput : List (Value × Value) → Value → Value → List (Value × Value)
  | [], k, v => [(k, v)]
  | p :: r, k, v => if vEq k p.1 = true then (k, v) :: r else p :: mput r k v
def avV : Value → AV
  | .int k n => .c (.int k n)
  | .bool b => .c (.bool b)
  | .string s => .c (.str s)
  | _ => .dead
def lookAV (kv : List (Value × Value)) (k : Value) (z : AV) : AV := match mget kv k with | some v => avV v | none => z
def hasKey (kv : List (Value × Value)) (k : Value) : Bool := (mget kv k).isSome
def zeroPK : PK → AV
  | .int k => .c (.int k 0)
  | .bool => .c (.bool false)
  | .str => .c (.str ⟨#[]⟩)
/-- a plain cell of a kind, as a value -/
def keyV : PK → SV → Option Value
  | .int k, .p false [.c (.int k' n)] => if k = k' then some (.int k' n) else none
  | .str, .p false [.c (.str s)] => some (.string s)
  | .bool, .p false [.c (.bool b)] => some (.bool b)
  | _, _ => none
def lookS (kk vk : PK) (kv : List (Value × Value)) (i : SV) (ok : Bool) : Option SV :=
  (keyV kk i).map fun k => match ok with
    | true => .tup [(false, [lookAV kv k (zeroPK vk)]), (false, [.c (.bool (hasKey kv k))])]
    | false => .p false [lookAV kv k (zeroPK vk)]
instance pkDec : DecidableEq PK := fun a b => match a, b with
  | .int k, .int k' => if h : k = k' then isTrue (h ▸ rfl) else isFalse (fun e => h (PK.int.inj e))
  | .bool, .bool => isTrue rfl
  | .str, .str => isTrue rfl
  | .int _, .bool => isFalse (fun e => by cases e)
  | .int _, .str => isFalse (fun e => by cases e)
  | .bool, .int _ => isFalse (fun e => by cases e)
  | .bool, .str => isFalse (fun e => by cases e)
  | .str, .int _ => isFalse (fun e => by cases e)
  | .str, .bool => isFalse (fun e => by cases e)
def isMapOf (kk vk : PK) : Option TI → Bool
  | some (.map a b) => decide (a = kk) && decide (b = vk)
  | _ => false
def lookV (st : St) (t : Option TI) (x i : SV) (ok : Bool) : Option SV :=
  match x with
  | .p false [.row k] => match st.ob k with | .map kk vk kv => if isMapOf kk vk t = true then lookS kk vk kv i ok else none | _ => none
  | .p false [.c (.mp kk vk kv)] => if isMapOf kk vk t = true then lookS kk vk kv i ok else none
  | _ => none
def mupV (st : St) (t : Option TI) (x i v : SV) : Option (List (Nat × Ob)) :=
  match x with
  | .p false [.row k] => match st.ob k with | .map kk vk kv => if isMapOf kk vk t = true then (keyV kk i).bind fun a => (keyV vk v).map fun b => [(k, .map kk vk (mput kv a b))] else none | _ => none
  | _ => none
def mkMap (key : Nat) : Option TI → Option (SV × List (Nat × Ob))
  | some (.map kk vk) => some (.p false [.row key], [(key, .map kk vk [])])
  | _ => none
/-- what a function value captures: a box that the call has made is only read from then on, and by nobody else -/
def capV (st : St) : SV → Option (CT × List (Nat × Ob))
  | .bp k 0 => match st.ob k with | .box _ cs => (zBox cs).map fun l => (.pt l, [(k, .gone)]) | _ => none
  | .p false [.c (.pt e)] => some (.pt e, [])
  | _ => none
where zBox : List AV → Option (List CT)
  | [] => some []
  | .c x :: r => (zBox r).map fun b => x :: b
  | _ :: _ => none
def capsV (st : St) : List SV → Option (List CT × List (Nat × Ob))
  | [] => some ([], [])
  | x :: r => (capV st x).bind fun a => (capsV st r).map fun b => (a.1 :: b.1, a.2 ++ b.2)
def zCTs : List AV → Option (List CT)
  | [] => some []
  | .c x :: r => (zCTs r).map fun b => x :: b
  | .nil e m :: r => if 0 < m then (zCTs r).map fun b => .sl e m [] :: b else none
  | _ :: _ => none
def makeV (key : Nat) (t : Option TI) : SV → SV → Option (SV × List (Nat × Ob))
  | .p false [.c (.int .i64 n)], .p false [.c (.int .i64 c)] =>
    match t with
    | some (.slice e m _ z) => (zCTs z).bind fun ze => if 0 ≤ n ∧ n = c ∧ n ≤ 1073741824 then some (.p false [.row key], [(key, .row e m (List.replicate n.toNat ze) 2)]) else none
    | _ => none
  | _, _ => none
def extV (i : Nat) : SV → Option SV
  | .tup xs => (xs[i]?).map fun x => .p x.1 x.2
  | _ => none
def pure1 (v : Option SV) : Option (SV × List (Nat × Ob)) := v.map fun v => (v, [])
/-- a text of bytes -/
def strOf (st : St) : SV → Option SV
  | .p false [.row k] => match st.ob k with | .row _ _ xs _ => (intsOf xs).map fun l => .p false [.c (.str (bytesS l))] | _ => none
  | .p false [.c (.sl _ _ xs)] => (intsOf xs).map fun l => .p false [.c (.str (bytesS l))]
  | _ => none
def elemTI (tt : Nat → Option TI) : Option TI → Option TI
  | some (.slice e _ _ _) => tt e
  | _ => none
def convO (tt : Nat → Option TI) (st : St) (s t : Nat) (x : SV) : Option SV :=
  if (isStr (tt t) && byteTI (elemTI tt (tt s))) = true then strOf st x else convV (tt s) (tt t) x
def zipT : List TypeId → List Operand → List (TypeId × Operand)
  | t :: ts, x :: xs => (t, x) :: zipT ts xs
  | [], x :: xs => (0, x) :: zipT [] xs
  | _, [] => []
def evs (st : St) (ts : List TypeId) (xs : List Operand) : List SV := (zipT ts xs).map fun p => st.ev tt p.1 p.2
def bltV (st : St) (key : Nat) (b : Builtin) (ts : List TypeId) (vs : List SV) : Option (SV × List (Nat × Ob)) :=
  match b, ts, vs with
  | .len, t :: _, [x] => pure1 (lenV st (tt t) x)
  | .append, [t, u], [s, x] => if t = u then appV st key (tt t) s x else none
  | .max, _, [x, y] => pure1 (maxV false x y)
  | .min, _, [x, y] => pure1 (maxV true x y)
  | _, _, _ => none
def opE (key : Nat) (o : Oper) (st : St) : Option (SV × List (Nat × Ob)) :=
  match o.op with
  | .move x => some (st.ev tt o.type x, [])
  | .assign x => some (st.ev tt o.type x, [])
  | .pick c a b => match st.ev tt 0 c with | .p false [.c (.bool t)] => some (if t = true then st.ev tt o.type a else st.ev tt o.type b, []) | _ => none
  | .alloc t => (zeroOf (tt t)).map fun z => (.bp key 0, [(key, .box t z)])
  | .box t x => match st.ev tt t x with | .p _ cs => some (.bp key 0, [(key, .box t cs)]) | _ => none
  | .build t parts => match tt t with | some (.strct fs _ z) => (fillS fs z (parts.toList.map (partS tt st fs z))).map fun cs => (.p true cs, []) | _ => none
  | .buildSlice t len parts => match tt t with
    | some (.slice e m _ z) => (elemsS st m (parts.toList.map fun p => st.ev tt e p.2)).bind fun a =>
      if parts.toList.map (·.1) = List.range len ∧ len * m ≤ 16777216 ∧ a.2.1.Nodup ∧ (!z.all avFlat || a.2.1.isEmpty) = true then some (.p false [.row key], frzAll st a.2.1 ++ [(key, .row e m a.1 a.2.2)]) else none
    | _ => none
  | .load t x => pure1 (loadV st (tt t) (st.ev tt 0 x))
  | .store t x v => (storeV st (tt t) (st.ev tt 0 x) (st.ev tt t v)).map fun u => (.und, u)
  | .nilCheck x => match st.ev tt 0 x with | .bp k i => some (.bp k i, []) | .rp k m i j => some (.rp k m i j, []) | .ep e i => some (.ep e i, []) | .p false [.c (.pt e)] => some (.p false [.c (.pt e)], []) | _ => none
  | .makeFunc (.func f) first caps => if first.size = 0 then (capsV st (caps.toList.map (st.ev tt 0))).bind fun r => if (r.2.map (·.1)).Nodup then some (.p false [.c (.fn f r.1)], r.2) else none else none
  | .makeMap t none => mkMap key (tt t)
  | .lookup t x i ok => pure1 (lookV st (tt t) (st.ev tt 0 x) (st.ev tt 0 i) ok)
  | .mapUpdate t x i v => (mupV st (tt t) (st.ev tt 0 x) (st.ev tt 0 i) (st.ev tt 0 v)).map fun u => (.und, u)
  | .binOp op t x y _ => pure1 (binO tt t (isNilC y) op (st.ev tt t x) (st.ev tt t y))
  | .unOp op _ x => pure1 (unV op (st.ev tt 0 x))
  | .convert s t x => pure1 (convO tt st s t (st.ev tt 0 x))
  | .makeSlice t n c => makeV key (tt t) (st.ev tt 0 n) (st.ev tt 0 c)
  | .slice t x lo hi none => sliceU st key (tt t) (lo.map (st.ev tt 0)) (hi.map (st.ev tt 0)) (st.ev tt 0 x)
  | .fieldAddr t x f => match tt t with | some (.strct fs _ _) => pure1 ((fs[f]?).bind fun i => ptrAdd i.off (st.ev tt 0 x)) | _ => none
  | .field t x f => match tt t with | some (.strct fs _ _) => pure1 (fieldV fs f (st.ev tt 0 x)) | _ => none
  | .indexAddr t x i => match tt t with | some (.slice _ m _ _) => pure1 (idxAddr st m (st.ev tt 0 x) (st.ev tt 0 i)) | _ => none
  | .index t x i => pure1 (idxStr (tt t) (st.ev tt 0 x) (st.ev tt 0 i))
  | .extract x i => pure1 (extV i (st.ev tt 0 x))
  | .call c => match c.callee with
    | .builtin b => bltV tt st key b c.argTypes.toList (evs tt st c.argTypes.toList c.args.toList)
    | _ => none
  | _ => none
end
/-- an argument as a tree -/
def avArg (st : St) : AV → Option CT
  | .c x => some x
  | .nil e m => if 0 < m then some (.sl e m []) else none
  | .row k => match st.ob k with | .row e m xs _ => some (.sl e m xs) | _ => none
  | .n x => some x
  | .dead => none
def avArgs (st : St) : List AV → Option (List CT)
  | [] => some []
  | x :: r => (avArg st x).bind fun a => (avArgs st r).map fun b => a :: b
def svArg (st : St) : SV → Option (Bool × List CT)
  | .p a cs => (avArgs st cs).map fun l => (a, l)
  | _ => none
def svArgs (st : St) : List SV → Option (List (Bool × List CT))
  | [] => some []
  | x :: r => (svArg st x).bind fun a => (svArgs st r).map fun b => a :: b
/-- a result: is it a struct; its cells, each with the mark whether what it leads to is only lent (to be read) -/
abbrev RT := Bool × List (Bool × CT)
def ownR (l : List CT) : List (Bool × CT) := l.map fun x => (false, x)
def lentR (l : List CT) : List (Bool × CT) := l.map fun x => (true, x)
/-- results as cells: the slices that are given get keys -/
def bindCs (key : Nat) : List (Bool × CT) → List AV × List (Nat × Ob) × Nat
  | [] => ([], [], key)
  | (false, .sl e m xs) :: r => let b := bindCs (key + 1) r; (.row key :: b.1, (key, .row e m xs 2) :: b.2.1, b.2.2)
  | (false, .int k n) :: r => let b := bindCs key r; (.c (.int k n) :: b.1, b.2.1, b.2.2)
  | (false, .bool k) :: r => let b := bindCs key r; (.c (.bool k) :: b.1, b.2.1, b.2.2)
  | (false, .str s) :: r => let b := bindCs key r; (.c (.str s) :: b.1, b.2.1, b.2.2)
  | (false, .ifc x) :: r => let b := bindCs key r; (.c (.ifc x) :: b.1, b.2.1, b.2.2)
  | (false, .pt x) :: r => let b := bindCs key r; (.c (.pt x) :: b.1, b.2.1, b.2.2)
  | (false, .fn f x) :: r => let b := bindCs key r; (.c (.fn f x) :: b.1, b.2.1, b.2.2)
  | (false, .mp k v x) :: r => let b := bindCs key r; (.c (.mp k v x) :: b.1, b.2.1, b.2.2)
  | (true, x) :: r => let b := bindCs key r; (.c x :: b.1, b.2.1, b.2.2)
def bindRs (key : Nat) : List RT → List (Bool × List AV) × List (Nat × Ob) × Nat
  | [] => ([], [], key)
  | x :: r => let a := bindCs key x.2; let b := bindRs a.2.2 r; ((x.1, a.1) :: b.1, a.2.1 ++ b.2.1, b.2.2)
def resSV : List (Bool × List AV) → SV
  | [x] => .p x.1 x.2
  | xs => .tup xs
/-- what is handed in to be changed -/
inductive Hand where
  | row (e m : Nat) (xs : List (List CT))
  | box (t : Nat) (cs : List CT)
/-- what a call makes new and gives: a box or a map -/
inductive NB where
  | box (t : Nat) (cs : List CT)
  | map (kk vk : PK) (kv : List (Value × Value))
def nbSV (key : Nat) : NB → SV
  | .box _ _ => .bp key 0
  | .map _ _ _ => .p false [.row key]
def nbOb : NB → Ob
  | .box t cs => .box t (cs.map .c)
  | .map kk vk kv => .map kk vk kv
/-- what a call is taken by: for these arguments it gives these results; what is handed in and how it comes back; the kind of a function's calls -/
structure Ctx where
  r : FuncId → List (Bool × List CT) → List RT → Prop
  h : FuncId → Hand → List (Bool × List CT) → List RT → Hand → Prop
  hd : FuncId → Nat
  b : FuncId → List (Bool × List CT) → NB → Prop
def avNoRow : AV → Bool
  | .row _ => false
  | .dead => false
  | _ => true
def svNoRow : SV → Bool
  | .p _ cs => cs.all avNoRow
  | _ => true
def lendsC : List (Bool × CT) → Bool
  | [] => false
  | p :: r => p.1 || lendsC r
def lends : List RT → Bool
  | [] => false
  | x :: r => lendsC x.2 || lends r
def rowsAV : List AV → List Nat
  | [] => []
  | .row k :: r => k :: rowsAV r
  | _ :: r => rowsAV r
def rowsSV : List SV → List Nat
  | [] => []
  | .p _ cs :: r => rowsAV cs ++ rowsSV r
  | _ :: r => rowsSV r
def handOf (st : St) : SV → Option (Nat × Hand)
  | .bp k 0 => match st.ob k with | .box t cs => (if cs.all avNoRow = true then (avArgs st cs).map fun l => (k, .box t l) else none) | _ => none
  | .p false [.row k] => match st.ob k with | .row e m xs d => (if d = 2 ∧ flatEs xs = true then some (k, .row e m xs) else none) | _ => none
  | _ => none
def handOb : Hand → Ob
  | .row e m xs => .row e m xs 2
  | .box t cs => .box t (cs.map .c)
inductive Ex where
  | normal
  | exit (id : Nat)
  | ret
section
variable (tt : Nat → Option TI) (S : Ctx)
/-- go on with a value, if there is one -/
def optK {α : Type} (r : Option α) (K : α → Prop) : Prop := match r with | some v => K v | none => False
def putK (dst : Option Nat) (K : St → Prop) (st : St) (v : SV) : Prop := K (st.put dst v)
def putU (dst : Option Nat) (K : St → Prop) (st : St) (r : SV × List (Nat × Ob)) : Prop := K ((st.put dst r.1).app r.2)
def callK (f : FuncId) (key : Nat) (dst : Option Nat) (K : St → Prop) (st : St) (vs : List SV) (l : List (Bool × List CT)) : Prop :=
  ∃ res, S.r f l res ∧ (!lends res || vs.all svNoRow) = true ∧ (bindRs key res).2.2 ≤ key + 16 ∧ K ((st.put dst (resSV (bindRs key res).1)).app (bindRs key res).2.1)
def frzK (f : FuncId) (key : Nat) (dst : Option Nat) (K : St → Prop) (st : St) (vs : List SV) (l : List (Bool × List CT)) : Prop :=
  ∃ res, S.r f l res ∧ (bindRs key res).2.2 ≤ key + 16 ∧ K ((st.put dst (resSV (bindRs key res).1)).app (frzAll st (rowsSV vs) ++ (bindRs key res).2.1))
def handK (f : FuncId) (key : Nat) (dst : Option Nat) (K : St → Prop) (st : St) (vs : List SV) (kh : Nat × Hand) (l : List (Bool × List CT)) : Prop :=
  ∃ res h', S.h f kh.2 l res h' ∧ (rowsSV vs).all (fun j => j != kh.1) = true ∧ (bindRs key res).2.2 ≤ key + 16 ∧ K ((st.put dst (resSV (bindRs key res).1)).app (frzAll st (rowsSV vs) ++ ((kh.1, handOb h') :: (bindRs key res).2.1)))
/-- the call gives a new box; what was handed over is only read from then on -/
def newK (f : FuncId) (key : Nat) (dst : Option Nat) (K : St → Prop) (st : St) (vs : List SV) (l : List (Bool × List CT)) : Prop :=
  ∃ nb, S.b f l nb ∧ K ((st.put dst (nbSV key nb)).app (frzAll st (rowsSV vs) ++ [(key, nbOb nb)]))
def hands (f : FuncId) (key : Nat) (dst : Option Nat) (K : St → Prop) (st : St) : List SV → Prop
  | [] => False
  | v :: r => optK (handOf st v) fun kh => optK (svArgs st r) (handK S f key dst K st r kh)
def spK (f : FuncId) (n key : Nat) (dst : Option Nat) (K : St → Prop) (st : St) (vs : List SV) : Prop :=
  match n with
  | 0 => optK (svArgs st vs) (callK S f key dst K st vs)
  | 1 => hands S f key dst K st vs
  | 3 => optK (svArgs st vs) (newK S f key dst K st vs)
  | _ => optK (svArgs st vs) (frzK S f key dst K st vs)
def goCall : Op → Option (FuncId × List TypeId × List Operand)
  | .call ⟨.value (.func f), args, ts⟩ => some (f, ts.toList, args.toList)
  | _ => none
/-- a call of a function value -/
def dynCall : Op → Option (Nat × List TypeId × List Operand)
  | .call ⟨.value (.tmp s), args, ts⟩ => some (s, ts.toList, args.toList)
  | _ => none
def cloOf : SV → Option (FuncId × List CT)
  | .p false [.c (.fn f es)] => some (f, es)
  | .fn f => some (f, [])
  | _ => none
def capSV (c : CT) : SV := .p false [.c c]
def dynK (key : Nat) (dst : Option Nat) (K : St → Prop) (st : St) (vs : List SV) (fc : FuncId × List CT) : Prop := S.hd fc.1 = 0 ∧ spK S fc.1 0 key dst K st (vs ++ fc.2.map capSV)
def opS (key : Nat) (o : Oper) (K : St → Prop) (st : St) : Prop :=
  match goCall o.op with
  | some c => spK S c.1 (S.hd c.1) key o.dst K st (evs tt st c.2.1 c.2.2)
  | none => match dynCall o.op with
    | some c => optK (cloOf (st.sl c.1)) (dynK S key o.dst K st (evs tt st c.2.1 c.2.2))
    | none => optK (opE tt key o st) (putU o.dst K st)
/-- the slot that a guard looks at -/
def gslot (all : List Oper) (o : Oper) : Option (Option Nat × Bool) :=
  match o.guard with
  | none => none
  | some g => some ((all[g.1]?).bind (·.dst), g.2)
def isBool : SV → Bool
  | .p false [.c (.bool _)] => true
  | _ => false
def getBool : SV → Bool
  | .p false [.c (.bool b)] => b
  | _ => false
def isUnd : SV → Bool
  | .und => true
  | _ => false
def gK (v : SV) (want : Bool) (A B : Prop) : Prop := if isBool v = true then (if (getBool v == want) = true then A else B) else (if isUnd v = true then B else False)
def opG (all : List Oper) (key : Nat) (o : Oper) (K : St → Prop) (st : St) : Prop :=
  match gslot all o with
  | none => opS tt S key o K st
  | some (none, _) => K (st.put o.dst .und)
  | some (some t, want) => gK (st.sl t) want (opS tt S key o K st) (K (st.put o.dst .und))
def opsS (all : List Oper) (key : Nat) : List Oper → (St → Prop) → St → Prop
  | [], K, st => K st
  | o :: r, K, st => opG tt S all key o (opsS all (key + 16) r K) st
def endK (n : Nat) (K : St → Prop) (st : St) : Prop := K { st with n := n }
def regS (ops : List Oper) (K : St → Prop) (st : St) : Prop := opsS tt S ops st.n ops (endK (st.n + 16 * ops.length) K) st
def thenK (k : St → Prop) (Q : Ex → St → Prop) : Ex → St → Prop
  | .normal, st => k st
  | e, st => Q e st
def blockK (id : Nat) (Q : Ex → St → Prop) : Ex → St → Prop
  | .exit j, st => if j = id then Q .normal st else Q (.exit j) st
  | e, st => Q e st
def condK (v : SV) (a b : Prop) : Prop := if isBool v = true then (if getBool v = true then a else b) else False
def kidx : List Nat → Nat → Nat → Option Nat
  | [], _, _ => none
  | x :: r, k, i => if x = k then some i else kidx r k (i + 1)
/-- keys anew: the key j stands for what stood at the key ρ[j]; what has no new key is forgotten -/
def rAV (ρ : List Nat) : AV → AV
  | .row k => match kidx ρ k 0 with | some j => .row j | none => .dead
  | x => x
def rSV (ρ : List Nat) : SV → SV
  | .p a cs => .p a (cs.map (rAV ρ))
  | .tup xs => .tup (xs.map fun x => (x.1, x.2.map (rAV ρ)))
  | .bp k off => match kidx ρ k 0 with | some j => .bp j off | none => .any
  | .rp k m i off => match kidx ρ k 0 with | some j => .rp j m i off | none => .any
  | x => x
def rOb (ρ : List Nat) : Ob → Ob
  | .box t cs => .box t (cs.map (rAV ρ))
  | x => x
def St.ren (st : St) (ρ : List Nat) : St := ⟨fun t => rSV ρ (st.sl t), fun j => match ρ[j]? with | some k => rOb ρ (st.ob k) | none => .gone, ρ.length⟩
/-- a cell, in a slot or in a box, taken for something else: a nil slice for a new row without elements; a row for a tree that is only read from then on. Or a row is taken for less than it is. -/
def St.mat (st : St) (m : Bool × Nat × Nat) : St :=
  match m.1 with
  | false => match st.sl m.2.1 with
    | .p ag cs => match cs[m.2.2]? with
      | some (.nil e q) => if 0 < q then ⟨upd st.sl m.2.1 (.p ag (cs.set m.2.2 (.row st.n))), upd st.ob st.n (.row e q [] 2), st.n + 1⟩ else st
      | some (.row k) => match st.ob k with
        | .row e q xs _ => ⟨upd st.sl m.2.1 (.p ag (cs.set m.2.2 (.c (.sl e q xs)))), upd st.ob k (.row e q xs 0), st.n⟩
        | _ => st
      | _ => st
    | _ => st
  | true => match st.ob m.2.1 with
    | .box ty cs => match cs[m.2.2]? with
      | some (.nil e q) => if 0 < q then ⟨st.sl, upd (upd st.ob m.2.1 (.box ty (cs.set m.2.2 (.row st.n)))) st.n (.row e q [] 2), st.n + 1⟩ else st
      | some (.row k) => match st.ob k with
        | .row e q xs _ => ⟨st.sl, upd (upd st.ob k (.row e q xs 0)) m.2.1 (.box ty (cs.set m.2.2 (.c (.sl e q xs)))), st.n⟩
        | _ => st
      | _ => st
    | .row e q xs d => if m.2.2 < d then ⟨st.sl, upd st.ob m.2.1 (.row e q xs m.2.2), st.n⟩ else st
    | _ => st
/-- a row of the call's own, with all that it leads to, that is only read from then on -/
def St.matN (st : St) (m : Bool × Nat × Nat) : St :=
  match st.sl m.2.1 with
  | .p ag cs => match cs[m.2.2 - 4096]? with
    | some (.row k) => match st.ob k with
      | .row e q xs d => if d = 2 then ⟨upd st.sl m.2.1 (.p ag (cs.set (m.2.2 - 4096) (.n (.sl e q xs)))), upd st.ob k (.row e q xs 0), st.n⟩ else st
      | _ => st
    | _ => st
  | _ => st
def St.mats (st : St) : List (Bool × Nat × Nat) → St
  | [] => st
  | m :: r => (if m.1 = false ∧ 4096 ≤ m.2.2 then st.matN m else st.mat m).mats r
/- no slice and no text is longer than Go allows, at any depth -/
mutual
def ctD : CT → Prop
  | .sl _ _ xs => xs.length ≤ 9223372036854775807 ∧ essD xs
  | .pt es => ctsD es
  | .fn _ es => ctsD es
  | .str s => s.size ≤ 9223372036854775807
  | _ => True
def ctsD : List CT → Prop
  | [] => True
  | x :: r => ctD x ∧ ctsD r
def essD : List (List CT) → Prop
  | [] => True
  | e :: r => ctsD e ∧ essD r
end
def avD : AV → Prop
  | .c x => ctD x
  | .n x => ctD x
  | _ => True
def avsD : List AV → Prop
  | [] => True
  | x :: r => avD x ∧ avsD r
structure WF (st : St) : Prop where
  sl : ∀ t a cs, st.sl t = .p a cs → avsD cs
  box : ∀ k t cs, st.ob k = .box t cs → avsD cs
  row : ∀ k e m xs d, st.ob k = .row e m xs d → xs.length ≤ 9223372036854775807 ∧ essD xs
theorem essD_at {α : Type} {g : α → List CT} : ∀ {l : List α} {i : Nat} {x : α}, essD (l.map g) → l[i]? = some x → ctsD (g x)
  | [], _, _, _, h => by simp at h
  | _ :: _, 0, _, h, e => by simp at e; subst e; exact h.1
  | _ :: _, i + 1, _, h, e => essD_at h.2 (by simpa using e)
def loopN (F : (Ex → St → Prop) → St → Prop) (Q : Ex → St → Prop) : Nat → St → Prop
  | 0, _ => False
  | n + 1, st => ∃ (ms : List (Bool × Nat × Nat)) (ρ : List Nat), ρ.Nodup ∧ (WF ((st.mats ms).ren ρ) → F (thenK (loopN F Q n) Q) ((st.mats ms).ren ρ))
def swp : Code → (Ex → St → Prop) → St → Prop
  | .skip, Q, st => Q .normal st
  | .region _ ops _, Q, st => regS tt S ops.toList (Q .normal) st
  | .seq a b, Q, st => swp a (thenK (swp b Q) Q) st
  | .cond c a b, Q, st => condK (st.ev tt 0 c) (swp a Q st) (swp b Q st)
  | .block id b, Q, st => swp b (blockK id Q) st
  | .loop b, Q, st => ∃ n, loopN (swp b) Q n st
  | .exit id, Q, st => Q (.exit id) st
  | .ret, Q, st => Q .ret st
  | _, _, _ => False
end
/-- the results: a slice that is a row which the call has made whole is given, any other is lent -/
def resAV (st : St) : AV → Option ((Bool × CT) × List Nat)
  | .c (.sl e m xs) => some ((true, .sl e m xs), [])
  | .c (.int k n) => some ((false, .int k n), [])
  | .c (.bool b) => some ((false, .bool b), [])
  | .c (.str s) => some ((false, .str s), [])
  | .nil e m => if 0 < m then some ((false, .sl e m []), []) else none
  | .c (.ifc x) => some ((false, .ifc x), [])
  | .c x => some ((true, x), [])
  | .row k => match st.ob k with | .row e m xs d => (if d = 2 then some ((false, .sl e m xs), [k]) else some ((true, .sl e m xs), [])) | .map kk vk kv => some ((true, .mp kk vk kv), []) | _ => none
  | .n x => some ((true, x), [])
  | .dead => none
def resAVs (st : St) : List AV → Option (List (Bool × CT) × List Nat)
  | [] => some ([], [])
  | x :: r => (resAV st x).bind fun a => (resAVs st r).map fun b => (a.1 :: b.1, a.2 ++ b.2)
def resOf (tt : Nat → Option TI) (st : St) : List ResultVar → Option (List RT × List Nat)
  | [] => some ([], [])
  | .tmp t :: r => match st.sl t with
    | .p a cs => (resAVs st cs).bind fun x => (resOf tt st r).map fun b => ((a, x.1) :: b.1, x.2 ++ b.2)
    | _ => none
  | .cell t ty :: r => match loadV st (tt ty) (st.sl t) with
    | some (.p a cs) => (resAVs st cs).bind fun x => (resOf tt st r).map fun b => ((a, x.1) :: b.1, x.2 ++ b.2)
    | _ => none
/-- what is given may be said to be lent -/
def wkC : List (Bool × CT) → List (Bool × CT) → Prop
  | [], [] => True
  | x :: r, y :: q => x.2 = y.2 ∧ (x.1 = y.1 ∨ y.1 = true) ∧ wkC r q
  | _, _ => False
def wkR : List RT → List RT → Prop
  | [], [] => True
  | x :: r, y :: q => x.1 = y.1 ∧ wkC x.2 y.2 ∧ wkR r q
  | _, _ => False
def argSt (args : List (Bool × List CT)) : St := ⟨fun t => match args[t]? with | some x => .p x.1 (x.2.map .c) | none => .und, fun _ => .gone, 0⟩
def retK (tt : Nat → Option TI) (rs : List ResultVar) (R : St → List RT → List Nat → Prop) : Ex → St → Prop
  | .exit _, _ => False
  | _, st => match resOf tt st rs with | some x => x.2.Nodup ∧ R st x.1 x.2 | none => False
def fnS (tt : Nat → Option TI) (S : Ctx) (rs : List ResultVar) (body : Code) (args : List (Bool × List CT)) (res : List RT) : Prop := swp tt S body (retK tt rs fun _ r _ => wkR r res) (argSt args)
/-- what was handed in is still what the first slot names, and no result -/
def handBack (st : St) (ks : List Nat) (h' : Hand) : Prop :=
  match h' with
  | .row e m xs => ∃ k, st.sl 0 = .p false [.row k] ∧ st.ob k = .row e m xs 2 ∧ flatEs xs = true ∧ k ∉ ks
  | .box t cs => ∃ k ds, st.sl 0 = .bp k 0 ∧ st.ob k = .box t ds ∧ ds.all avNoRow = true ∧ avArgs st ds = some cs
/-- the result is a box or a map that the call has made -/
def newBack (st : St) (rs : List ResultVar) (nb : NB) : Prop :=
  match rs with
  | [.tmp s] => (match nb with
    | .box t cs => ∃ k ds, st.sl s = .bp k 0 ∧ st.ob k = .box t ds ∧ ds.all avNoRow = true ∧ avArgs st ds = some cs
    | .map kk vk kv => ∃ k, st.sl s = .p false [.row k] ∧ st.ob k = .map kk vk kv)
  | _ => False
def retB (rs : List ResultVar) (nb : NB) : Ex → St → Prop
  | .exit _, _ => False
  | _, st => newBack st rs nb
def hbO (st : St) (t : Nat) (cs : List CT) : Ob → Prop
  | .box t' ds => t' = t ∧ ds.all avNoRow = true ∧ avArgs st ds = some cs
  | _ => False
def hbS (st : St) (t : Nat) (cs : List CT) : SV → Prop
  | .bp k 0 => hbO st t cs (st.ob k)
  | _ => False
theorem hbS_iff {st : St} {t : Nat} {cs : List CT} {v : SV} : hbS st t cs v ↔ ∃ k ds, v = .bp k 0 ∧ st.ob k = .box t ds ∧ ds.all avNoRow = true ∧ avArgs st ds = some cs := by
  constructor
  · intro h
    unfold hbS at h
    split at h
    · rename_i k
      unfold hbO at h
      split at h
      · rename_i t' ds hk
        obtain ⟨rfl, h2, h3⟩ := h
        exact ⟨k, ds, rfl, hk, h2, h3⟩
      · exact h.elim
    · exact h.elim
  · rintro ⟨k, ds, rfl, h1, h2, h3⟩
    show hbO st t cs (st.ob k)
    rw [h1]
    exact ⟨rfl, h2, h3⟩
theorem handBack_box {st : St} {ks : List Nat} {t : Nat} {cs : List CT} : handBack st ks (.box t cs) = hbS st t cs (st.sl 0) := propext hbS_iff.symm
theorem newBack_tmp {st : St} {s t : Nat} {cs : List CT} : newBack st [.tmp s] (.box t cs) = hbS st t cs (st.sl s) := propext hbS_iff.symm
def mbO (kk vk : PK) (kv : List (Value × Value)) : Ob → Prop
  | .map kk' vk' kv' => kk' = kk ∧ vk' = vk ∧ kv' = kv
  | _ => False
def mbS (st : St) (kk vk : PK) (kv : List (Value × Value)) : SV → Prop
  | .p false [.row k] => mbO kk vk kv (st.ob k)
  | _ => False
theorem mbS_iff {st : St} {kk vk : PK} {kv : List (Value × Value)} {v : SV} : mbS st kk vk kv v ↔ ∃ k, v = .p false [.row k] ∧ st.ob k = .map kk vk kv := by
  constructor
  · intro h
    unfold mbS at h
    split at h
    · rename_i k
      unfold mbO at h
      split at h
      · rename_i a b c hk
        obtain ⟨rfl, rfl, rfl⟩ := h
        exact ⟨k, rfl, hk⟩
      · exact h.elim
    · exact h.elim
  · rintro ⟨k, rfl, h1⟩
    show mbO kk vk kv (st.ob k)
    rw [h1]
    exact ⟨rfl, rfl, rfl⟩
theorem newBack_map {st : St} {s : Nat} {kk vk : PK} {kv : List (Value × Value)} : newBack st [.tmp s] (.map kk vk kv) = mbS st kk vk kv (st.sl s) := propext mbS_iff.symm
theorem mbS_row {st : St} {k : Nat} {kk vk : PK} {kv : List (Value × Value)} : mbS st kk vk kv (.p false [.row k]) = mbO kk vk kv (st.ob k) := _root_.id rfl
theorem mbO_map {kk vk kk' vk' : PK} {kv kv' : List (Value × Value)} : mbO kk vk kv (.map kk' vk' kv') = (kk' = kk ∧ vk' = vk ∧ kv' = kv) := _root_.id rfl
theorem hbS_bp {st : St} {t k : Nat} {cs : List CT} : hbS st t cs (.bp k 0) = hbO st t cs (st.ob k) := _root_.id rfl
theorem hbO_box {st : St} {t t' : Nat} {cs : List CT} {ds : List AV} : hbO st t cs (.box t' ds) = (t' = t ∧ ds.all avNoRow = true ∧ avArgs st ds = some cs) := _root_.id rfl
theorem retB_ret {rs : List ResultVar} {nb : NB} {st : St} : retB rs nb .ret st = newBack st rs nb := _root_.id rfl
theorem retB_norm {rs : List ResultVar} {nb : NB} {st : St} : retB rs nb .normal st = newBack st rs nb := _root_.id rfl
def fnB (tt : Nat → Option TI) (S : Ctx) (rs : List ResultVar) (body : Code) (args : List (Bool × List CT)) (nb : NB) : Prop := swp tt S body (retB rs nb) (argSt args)
/-- at the call's end what has been only read since is given after all: nothing else stays -/
def keepS : SV → SV
  | .p false [.c (.int k n)] => .p false [.c (.int k n)]
  | .p false [.c (.bool b)] => .p false [.c (.bool b)]
  | .p false [.c (.str s)] => .p false [.c (.str s)]
  | _ => .any
def thawV (st : St) (t : Nat) : SV → St
  | .p false [.n (.sl e m xs)] => ⟨fun s => if s = t then .p false [.row 0] else keepS (st.sl s), fun k => if k = 0 then .row e m xs 2 else .gone, 1⟩
  | _ => st
def St.thaw (st : St) (t : Nat) : St := thawV st t (st.sl t)
def retN (t : Nat) (Q : Ex → St → Prop) : Ex → St → Prop
  | e, st => Q e (st.thaw t)
def fnN (tt : Nat → Option TI) (S : Ctx) (rs : List ResultVar) (t : Nat) (body : Code) (args : List (Bool × List CT)) (res : List RT) : Prop := swp tt S body (retN t (retK tt rs fun _ r _ => wkR r res)) (argSt args)
theorem thaw_eq (sl : Nat → SV) (ob : Nat → Ob) (n t : Nat) : St.thaw ⟨sl, ob, n⟩ t = thawV ⟨sl, ob, n⟩ t (sl t) := _root_.id rfl
theorem retN_eq (t : Nat) (Q : Ex → St → Prop) (e : Ex) (st : St) : retN t Q e st = Q e (st.thaw t) := _root_.id rfl
end Go.Proofs.YtlkgkkacnoaeaaaGreatDoor

namespace Go.Proofs.YtlkgkkacnoaeaaaGreatDoor
section
variable {tt : Nat → Option TI} {S : Ctx} {all : List Oper} {key : Nat} {d : Option Nat} {ty : TypeId} {pos : String} {af : Array Edge} {r : List Oper} {K : St → Prop} {st : St}
theorem oS_nil : opsS tt S all key [] K st = K st := _root_.id rfl
theorem oS_move (x : Operand) : opsS tt S all key (⟨d, .move x, ty, pos, af, none⟩ :: r) K st = opsS tt S all (key + 16) r K (st.put d (st.ev tt ty x)) := _root_.id rfl
theorem oS_assign (x : Operand) : opsS tt S all key (⟨d, .assign x, ty, pos, af, none⟩ :: r) K st = opsS tt S all (key + 16) r K (st.put d (st.ev tt ty x)) := _root_.id rfl
def pickK (v a b : SV) (K : SV → Prop) : Prop := if isBool v = true then (if getBool v = true then K a else K b) else False
theorem pk_t (a b : SV) (K : SV → Prop) : pickK (.p false [.c (.bool true)]) a b K = K a := by simp [pickK, isBool, getBool]
theorem pk_f (a b : SV) (K : SV → Prop) : pickK (.p false [.c (.bool false)]) a b K = K b := by simp [pickK, isBool, getBool]
theorem oS_pick (c a b : Operand) : opsS tt S all key (⟨d, .pick c a b, ty, pos, af, none⟩ :: r) K st = pickK (st.ev tt 0 c) (st.ev tt ty a) (st.ev tt ty b) (putK d (opsS tt S all (key + 16) r K) st) := by
  simp only [opsS, opG, gslot, opS, goCall, dynCall, opE, pickK]
  generalize st.ev tt 0 c = v
  unfold isBool
  split
  · simp only [getBool, optK, if_true]
    split <;> simp [putU, putK, St.app, updAll, *]
  · simp [optK]
theorem oS_alloc (t : TypeId) : opsS tt S all key (⟨d, .alloc t, ty, pos, af, none⟩ :: r) K st = optK ((zeroOf (tt t)).map fun z => (SV.bp key 0, [(key, Ob.box t z)])) (putU d (opsS tt S all (key + 16) r K) st) := _root_.id rfl
def boxV (key : Nat) (t : TypeId) : SV → Option (SV × List (Nat × Ob))
  | .p _ cs => some (.bp key 0, [(key, .box t cs)])
  | _ => none
theorem oS_box (t : TypeId) (x : Operand) : opsS tt S all key (⟨d, .box t x, ty, pos, af, none⟩ :: r) K st = optK (boxV key t (st.ev tt t x)) (putU d (opsS tt S all (key + 16) r K) st) := _root_.id rfl
def buildV (tt : Nat → Option TI) (st : St) (parts : List (Nat × Operand)) : Option TI → Option SV
  | some (.strct fs _ z) => (fillS fs z (parts.map (partS tt st fs z))).map (.p true)
  | _ => none
theorem pure1_K (v : Option SV) : optK (pure1 v) (putU d K st) = optK v (putK d K st) := by cases v <;> rfl
theorem oS_build (t : TypeId) (parts : Array (Nat × Operand)) : opsS tt S all key (⟨d, .build t parts, ty, pos, af, none⟩ :: r) K st = optK (buildV tt st parts.toList (tt t)) (putK d (opsS tt S all (key + 16) r K) st) := by
  rw [← pure1_K]
  simp only [opsS, opG, gslot, opS, goCall, dynCall, opE, buildV]
  cases tt t with
  | none => rfl
  | some ti => cases ti <;> first | rfl | (simp [pure1, Option.map_map]; rfl)
def bslV (st : St) (key len : Nat) (is : List Nat) (xs : List SV) (e : Nat) : Option TI → Option (SV × List (Nat × Ob))
  | some (.slice _ m _ z) => (elemsS st m xs).bind fun a => if is = List.range len ∧ len * m ≤ 16777216 ∧ a.2.1.Nodup ∧ (!z.all avFlat || a.2.1.isEmpty) = true then some (.p false [.row key], frzAll st a.2.1 ++ [(key, .row e m a.1 a.2.2)]) else none
  | _ => none
def elemId : Option TI → Nat
  | some (.slice e _ _ _) => e
  | _ => 0
theorem oS_bsl (t : TypeId) (len : Nat) (parts : Array (Nat × Operand)) : opsS tt S all key (⟨d, .buildSlice t len parts, ty, pos, af, none⟩ :: r) K st = optK (bslV st key len (parts.toList.map (·.1)) (parts.toList.map fun p => st.ev tt (elemId (tt t)) p.2) (elemId (tt t)) (tt t)) (putU d (opsS tt S all (key + 16) r K) st) := by
  simp only [opsS, opG, gslot, opS, goCall, dynCall, opE, bslV, elemId]
  cases tt t with
  | none => rfl
  | some ti => cases ti <;> rfl
theorem oS_load (t : TypeId) (x : Operand) : opsS tt S all key (⟨d, .load t x, ty, pos, af, none⟩ :: r) K st = optK (loadV st (tt t) (st.ev tt 0 x)) (putK d (opsS tt S all (key + 16) r K) st) := pure1_K _
def stoK (d : Option Nat) (K : St → Prop) (st : St) (u : List (Nat × Ob)) : Prop := K ((st.put d .und).app u)
theorem oS_store (t : TypeId) (x v : Operand) : opsS tt S all key (⟨d, .store t x v, ty, pos, af, none⟩ :: r) K st = optK (storeV st (tt t) (st.ev tt 0 x) (st.ev tt t v)) (stoK d (opsS tt S all (key + 16) r K) st) := by
  simp only [opsS, opG, gslot, opS, goCall, dynCall, opE]
  cases storeV st (tt t) (st.ev tt 0 x) (st.ev tt t v) <;> rfl
def nckV : SV → Option SV
  | .bp k i => some (.bp k i)
  | .rp k m i j => some (.rp k m i j)
  | .ep e i => some (.ep e i)
  | .p false [.c (.pt e)] => some (.p false [.c (.pt e)])
  | _ => none
theorem oS_nck (x : Operand) : opsS tt S all key (⟨d, .nilCheck x, ty, pos, af, none⟩ :: r) K st = optK (nckV (st.ev tt 0 x)) (putK d (opsS tt S all (key + 16) r K) st) := by
  simp only [opsS, opG, gslot, opS, goCall, dynCall, opE, ← pure1_K, nckV]
  generalize st.ev tt 0 x = v
  cases v with
  | p ag cs => cases ag with
    | true => rfl
    | false => cases cs with
      | nil => rfl
      | cons y r => cases r <;> cases y <;> first | rfl | (rename_i z; cases z <;> rfl) | (rename_i z _ _; cases z <;> rfl)
  | _ => rfl
theorem oS_bin (op : BinOp) (t u : TypeId) (x y : Operand) : opsS tt S all key (⟨d, .binOp op t x y u, ty, pos, af, none⟩ :: r) K st = optK (binO tt t (isNilC y) op (st.ev tt t x) (st.ev tt t y)) (putK d (opsS tt S all (key + 16) r K) st) := pure1_K _
theorem oS_un (op : UnOp) (t : TypeId) (x : Operand) : opsS tt S all key (⟨d, .unOp op t x, ty, pos, af, none⟩ :: r) K st = optK (unV op (st.ev tt 0 x)) (putK d (opsS tt S all (key + 16) r K) st) := pure1_K _
theorem oS_conv (s t : TypeId) (x : Operand) : opsS tt S all key (⟨d, .convert s t x, ty, pos, af, none⟩ :: r) K st = optK (convO tt st s t (st.ev tt 0 x)) (putK d (opsS tt S all (key + 16) r K) st) := pure1_K _
theorem oS_make (t : TypeId) (n c : Operand) : opsS tt S all key (⟨d, .makeSlice t n c, ty, pos, af, none⟩ :: r) K st = optK (makeV key (tt t) (st.ev tt 0 n) (st.ev tt 0 c)) (putU d (opsS tt S all (key + 16) r K) st) := _root_.id rfl
theorem oS_slice (t : TypeId) (x : Operand) (lo hi : Option Operand) : opsS tt S all key (⟨d, .slice t x lo hi none, ty, pos, af, none⟩ :: r) K st = optK (sliceU st key (tt t) (lo.map (st.ev tt 0)) (hi.map (st.ev tt 0)) (st.ev tt 0 x)) (putU d (opsS tt S all (key + 16) r K) st) := _root_.id rfl
def fldK (fs : Option TI) (f : Nat) : Option Nat := match fs with | some (.strct fs _ _) => (fs[f]?).map FI.off | _ => none
def fadV (fs : Option TI) (f : Nat) (v : SV) : Option SV := (fldK fs f).bind fun o => ptrAdd o v
theorem oS_fad (t : TypeId) (x : Operand) (f : Nat) : opsS tt S all key (⟨d, .fieldAddr t x f, ty, pos, af, none⟩ :: r) K st = optK (fadV (tt t) f (st.ev tt 0 x)) (putK d (opsS tt S all (key + 16) r K) st) := by
  rw [← pure1_K]
  simp only [opsS, opG, gslot, opS, goCall, dynCall, opE, fadV, fldK]
  cases tt t with
  | none => rfl
  | some ti => cases ti <;> first | rfl | (simp only [Option.bind_map]; rfl)
def fieV (fs : Option TI) (f : Nat) (v : SV) : Option SV := match fs with | some (.strct fs _ _) => fieldV fs f v | _ => none
theorem oS_fie (t : TypeId) (x : Operand) (f : Nat) : opsS tt S all key (⟨d, .field t x f, ty, pos, af, none⟩ :: r) K st = optK (fieV (tt t) f (st.ev tt 0 x)) (putK d (opsS tt S all (key + 16) r K) st) := by
  rw [← pure1_K]
  simp only [opsS, opG, gslot, opS, goCall, dynCall, opE, fieV]
  cases tt t with
  | none => rfl
  | some ti => cases ti <;> rfl
def iadV (st : St) (t : Option TI) (x i : SV) : Option SV := match t with | some (.slice _ m _ _) => idxAddr st m x i | _ => none
theorem oS_iad (t : TypeId) (x i : Operand) : opsS tt S all key (⟨d, .indexAddr t x i, ty, pos, af, none⟩ :: r) K st = optK (iadV st (tt t) (st.ev tt 0 x) (st.ev tt 0 i)) (putK d (opsS tt S all (key + 16) r K) st) := by
  rw [← pure1_K]
  simp only [opsS, opG, gslot, opS, goCall, dynCall, opE, iadV]
  cases tt t with
  | none => rfl
  | some ti => cases ti <;> rfl
theorem oS_idx (t : TypeId) (x i : Operand) : opsS tt S all key (⟨d, .index t x i, ty, pos, af, none⟩ :: r) K st = optK (idxStr (tt t) (st.ev tt 0 x) (st.ev tt 0 i)) (putK d (opsS tt S all (key + 16) r K) st) := pure1_K _
theorem oS_ext (x : Operand) (i : Nat) : opsS tt S all key (⟨d, .extract x i, ty, pos, af, none⟩ :: r) K st = optK (extV i (st.ev tt 0 x)) (putK d (opsS tt S all (key + 16) r K) st) := pure1_K _
theorem oS_blt (b : Builtin) (args : Array Operand) (ts : Array TypeId) : opsS tt S all key (⟨d, .call ⟨.builtin b, args, ts⟩, ty, pos, af, none⟩ :: r) K st = optK (bltV tt st key b ts.toList (evs tt st ts.toList args.toList)) (putU d (opsS tt S all (key + 16) r K) st) := _root_.id rfl
def mkfV (f : FuncId) (n : Nat) (st : St) (vs : List SV) : Option (SV × List (Nat × Ob)) := if n = 0 then (capsV st vs).bind fun r => if (r.2.map (·.1)).Nodup then some (.p false [.c (.fn f r.1)], r.2) else none else none
theorem oS_mkf (f : FuncId) (first caps : Array Operand) : opsS tt S all key (⟨d, .makeFunc (.func f) first caps, ty, pos, af, none⟩ :: r) K st = optK (mkfV f first.size st (caps.toList.map (st.ev tt 0))) (putU d (opsS tt S all (key + 16) r K) st) := _root_.id rfl
theorem oS_mkm (t : TypeId) : opsS tt S all key (⟨d, .makeMap t none, ty, pos, af, none⟩ :: r) K st = optK (mkMap key (tt t)) (putU d (opsS tt S all (key + 16) r K) st) := _root_.id rfl
theorem oS_look (t : TypeId) (x i : Operand) (ok : Bool) : opsS tt S all key (⟨d, .lookup t x i ok, ty, pos, af, none⟩ :: r) K st = optK (lookV st (tt t) (st.ev tt 0 x) (st.ev tt 0 i) ok) (putK d (opsS tt S all (key + 16) r K) st) := pure1_K _
theorem oS_mup (t : TypeId) (x i v : Operand) : opsS tt S all key (⟨d, .mapUpdate t x i v, ty, pos, af, none⟩ :: r) K st = optK (mupV st (tt t) (st.ev tt 0 x) (st.ev tt 0 i) (st.ev tt 0 v)) (stoK d (opsS tt S all (key + 16) r K) st) := by
  simp only [opsS, opG, gslot, opS, goCall, dynCall, opE]
  cases mupV st (tt t) (st.ev tt 0 x) (st.ev tt 0 i) (st.ev tt 0 v) <;> rfl
theorem oS_dyn (s : Nat) (args : Array Operand) (ts : Array TypeId) : opsS tt S all key (⟨d, .call ⟨.value (.tmp s), args, ts⟩, ty, pos, af, none⟩ :: r) K st = optK (cloOf (st.sl s)) (dynK S key d (opsS tt S all (key + 16) r K) st (evs tt st ts.toList args.toList)) := _root_.id rfl
theorem dynK_eq (vs : List SV) (f : FuncId) (es : List CT) : dynK S key d K st vs (f, es) = (S.hd f = 0 ∧ spK S f 0 key d K st (vs ++ es.map capSV)) := _root_.id rfl
theorem oS_call (f : FuncId) (args : Array Operand) (ts : Array TypeId) : opsS tt S all key (⟨d, .call ⟨.value (.func f), args, ts⟩, ty, pos, af, none⟩ :: r) K st = spK S f (S.hd f) key d (opsS tt S all (key + 16) r K) st (evs tt st ts.toList args.toList) := _root_.id rfl
theorem sp_0 (f : FuncId) (vs : List SV) : spK S f 0 key d K st vs = optK (svArgs st vs) (callK S f key d K st vs) := _root_.id rfl
theorem sp_1 (f : FuncId) (v : SV) (vs : List SV) : spK S f 1 key d K st (v :: vs) = optK (handOf st v) fun kh => optK (svArgs st vs) (handK S f key d K st vs kh) := _root_.id rfl
theorem sp_3 (f : FuncId) (vs : List SV) : spK S f 3 key d K st vs = optK (svArgs st vs) (newK S f key d K st vs) := _root_.id rfl
theorem sp_2 (f : FuncId) (vs : List SV) : spK S f 2 key d K st vs = optK (svArgs st vs) (frzK S f key d K st vs) := _root_.id rfl
def gOf (all : List Oper) (j : Nat) : Option Nat := (all[j]?).bind (·.dst)
/-- an operation under a guard, whose test is looked at first -/
def gL (tt : Nat → Option TI) (S : Ctx) (all : List Oper) (key : Nat) (v : SV) (w : Bool) (o : Oper) (r : List Oper) (K : St → Prop) (st : St) : Prop := gK v w (opsS tt S all key (o :: r) K st) (opsS tt S all (key + 16) r K (st.put o.dst .und))
def slotV (st : St) : Option Nat → SV
  | some t => st.sl t
  | none => .und
theorem slotV_some (sl : Nat → SV) (ob : Nat → Ob) (n t : Nat) : slotV ⟨sl, ob, n⟩ (some t) = sl t := _root_.id rfl
theorem slotV_none : slotV st none = .und := _root_.id rfl
theorem oS_guard (op : Op) (j : Nat) (w : Bool) : opsS tt S all key (⟨d, op, ty, pos, af, some (j, w)⟩ :: r) K st = gL tt S all key (slotV st (gOf all j)) w ⟨d, op, ty, pos, af, none⟩ r K st := by
  cases hg : gOf all j with
  | none =>
    have h : gslot all ⟨d, op, ty, pos, af, some (j, w)⟩ = some (none, w) := by simp only [gslot]; rw [show (all[j]?).bind (·.dst) = none from hg]
    simp only [opsS, opG, h, gL, slotV]
    simp [gK, isBool, isUnd]
  | some t =>
    have h : gslot all ⟨d, op, ty, pos, af, some (j, w)⟩ = some (some t, w) := by simp only [gslot]; rw [show (all[j]?).bind (·.dst) = some t from hg]
    simp only [opsS, opG, h, gL, slotV]
    rfl
theorem gL_tt (o : Oper) : gL tt S all key (.p false [.c (.bool true)]) true o r K st = opsS tt S all key (o :: r) K st := by simp [gL, gK, isBool, getBool]
theorem gL_ff (o : Oper) : gL tt S all key (.p false [.c (.bool false)]) false o r K st = opsS tt S all key (o :: r) K st := by simp [gL, gK, isBool, getBool]
theorem gL_tf (o : Oper) : gL tt S all key (.p false [.c (.bool true)]) false o r K st = opsS tt S all (key + 16) r K (st.put o.dst .und) := by simp [gL, gK, isBool, getBool]
theorem gL_ft (o : Oper) : gL tt S all key (.p false [.c (.bool false)]) true o r K st = opsS tt S all (key + 16) r K (st.put o.dst .und) := by simp [gL, gK, isBool, getBool]
theorem gL_und (o : Oper) (w : Bool) : gL tt S all key .und w o r K st = opsS tt S all (key + 16) r K (st.put o.dst .und) := by simp [gL, gK, isBool, isUnd]
theorem putK_eq (v : SV) : putK d K st v = K (st.put d v) := _root_.id rfl
theorem putU_eq (v : SV) (u : List (Nat × Ob)) : putU d K st (v, u) = K ((st.put d v).app u) := _root_.id rfl
theorem stoK_eq (u : List (Nat × Ob)) : stoK d K st u = K ((st.put d .und).app u) := _root_.id rfl
theorem optK_some {α : Type} (v : α) (K : α → Prop) : optK (some v) K = K v := _root_.id rfl
theorem optK_none {α : Type} (K : α → Prop) : optK none K = False := _root_.id rfl
theorem endK_eq (n m : Nat) (sl : Nat → SV) (ob : Nat → Ob) : endK n K ⟨sl, ob, m⟩ = K ⟨sl, ob, n⟩ := _root_.id rfl
theorem regS_eq (ops : List Oper) (sl : Nat → SV) (ob : Nat → Ob) (n : Nat) : regS tt S ops K ⟨sl, ob, n⟩ = opsS tt S ops n ops (endK (n + 16 * ops.length) K) ⟨sl, ob, n⟩ := _root_.id rfl
theorem put_some (sl : Nat → SV) (ob : Nat → Ob) (n t : Nat) (v : SV) : St.put ⟨sl, ob, n⟩ (some t) v = ⟨upd sl t v, ob, n⟩ := _root_.id rfl
theorem put_none (v : SV) : St.put st none v = st := _root_.id rfl
theorem app_nil (sl : Nat → SV) (ob : Nat → Ob) (n : Nat) : St.app ⟨sl, ob, n⟩ [] = ⟨sl, ob, n⟩ := _root_.id rfl
theorem app_cons (sl : Nat → SV) (ob : Nat → Ob) (n : Nat) (p : Nat × Ob) (u : List (Nat × Ob)) : St.app ⟨sl, ob, n⟩ (p :: u) = St.app ⟨sl, upd ob p.1 p.2, n⟩ u := _root_.id rfl
theorem upd_at {α : Type} (f : Nat → α) (k j : Nat) (v : α) : upd f k v j = if j = k then v else f j := _root_.id rfl
end
section
variable {tt : Nat → Option TI} {S : Ctx} {Q : Ex → St → Prop} {st : St}
theorem sw_skip : swp tt S .skip Q st = Q .normal st := _root_.id rfl
theorem sw_region (id : Nat) (ops : Array Oper) (dr : Bool) : swp tt S (.region id ops dr) Q st = regS tt S ops.toList (Q .normal) st := _root_.id rfl
theorem sw_seq (a b : Code) : swp tt S (.seq a b) Q st = swp tt S a (thenK (swp tt S b Q) Q) st := _root_.id rfl
/-- a test, before its branches are looked at -/
def condC (tt : Nat → Option TI) (S : Ctx) (v : SV) (a b : Code) (Q : Ex → St → Prop) (st : St) : Prop := condK v (swp tt S a Q st) (swp tt S b Q st)
theorem sw_cond (c : Operand) (a b : Code) : swp tt S (.cond c a b) Q st = condC tt S (st.ev tt 0 c) a b Q st := _root_.id rfl
theorem cc_t (a b : Code) : condC tt S (.p false [.c (.bool true)]) a b Q st = swp tt S a Q st := by simp [condC, condK, isBool, getBool]
theorem cc_f (a b : Code) : condC tt S (.p false [.c (.bool false)]) a b Q st = swp tt S b Q st := by simp [condC, condK, isBool, getBool]
theorem sw_block (id : Nat) (b : Code) : swp tt S (.block id b) Q st = swp tt S b (blockK id Q) st := _root_.id rfl
theorem sw_exit (id : Nat) : swp tt S (.exit id) Q st = Q (.exit id) st := _root_.id rfl
theorem sw_ret : swp tt S .ret Q st = Q .ret st := _root_.id rfl
theorem th_n (k : St → Prop) : thenK k Q .normal st = k st := _root_.id rfl
theorem th_e (k : St → Prop) (i : Nat) : thenK k Q (.exit i) st = Q (.exit i) st := _root_.id rfl
theorem th_r (k : St → Prop) : thenK k Q .ret st = Q .ret st := _root_.id rfl
theorem bl_n (i : Nat) : blockK i Q .normal st = Q .normal st := _root_.id rfl
theorem bl_r (i : Nat) : blockK i Q .ret st = Q .ret st := _root_.id rfl
theorem bl_e (i j : Nat) : blockK i Q (.exit j) st = if j = i then Q .normal st else Q (.exit j) st := _root_.id rfl
theorem ev_tmp (sl : Nat → SV) (ob : Nat → Ob) (n t s : Nat) : St.ev tt ⟨sl, ob, n⟩ t (.tmp s) = sl s := _root_.id rfl
theorem ev_const (t : Nat) (v : Value) : St.ev tt st t (.const v) = cvT (tt t) v := _root_.id rfl
theorem ev_func (t f : Nat) : St.ev tt st t (.func f) = .fn f := _root_.id rfl
theorem rk_r (rs : List ResultVar) (R : St → List RT → List Nat → Prop) : retK tt rs R .ret st = match resOf tt st rs with | some x => x.2.Nodup ∧ R st x.1 x.2 | none => False := _root_.id rfl
theorem rk_n (rs : List ResultVar) (R : St → List RT → List Nat → Prop) : retK tt rs R .normal st = match resOf tt st rs with | some x => x.2.Nodup ∧ R st x.1 x.2 | none => False := _root_.id rfl
end
attribute [go_sem] oS_nil oS_move oS_assign oS_pick oS_alloc oS_box oS_build oS_bsl oS_load oS_store oS_nck oS_bin oS_un oS_conv oS_make oS_slice oS_fad oS_fie oS_iad oS_idx oS_ext oS_blt oS_call oS_mkf oS_mkm oS_look oS_mup oS_dyn dynK_eq mkfV mkMap lookV lookS mupV keyV isMapOf zeroPK capsV capV capV.zBox cloOf capSV eqC eqCs aggV eqsTI eqRes isNilV isNilC nilV isAggV isIfc binO intsOf byteTI strOf elemTI convO oS_guard putK_eq putU_eq stoK_eq optK_some optK_none endK_eq regS_eq put_some put_none app_nil app_cons upd_at sw_skip sw_region sw_seq sw_cond sw_block sw_exit sw_ret th_n th_e th_r bl_n bl_r bl_e ev_tmp ev_const ev_func rk_r rk_n pk_t pk_f cc_t cc_f gL_tt gL_ff gL_tf gL_ft gL_und slotV_some slotV_none boxV buildV bslV elemId avFlat List.all_cons List.all_nil List.isEmpty_nil Bool.true_or Bool.false_or Bool.or_true Bool.or_false Bool.false_and nckV fldK fadV fieV iadV gOf cvT zeroOf binV intV strV unV convV lenV idxAddr idxStr cut loadV splice sizeTI storeV ptrAdd fieldV fillS partS avT dmin flatD avTs elemsS goneAll appSrc appDst dstOk srcOk appV maxV sliceV sliceU mvS hiB loB sizeSl isSlice isStr makeV extV pure1 bltV evs avArg avArgs svArg svArgs zipT sp_0 sp_1 sp_2 handOf handOb avNoRow svNoRow lends lendsC rowsAV rowsSV frzOb frzAll ownR lentR wkC wkR handBack_box newBack_tmp newBack_map mbS_row mbO_map hbS_bp hbO_box retB_ret retB_norm sp_3 retN_eq thaw_eq thawV keepS resAV resAVs resOf bindRs bindCs resSV List.length_cons List.length_nil List.length_map List.length_replicate List.getElem?_cons_zero List.getElem?_cons_succ List.getElem?_nil List.map_cons List.map_nil Option.bind_some Option.bind_none Option.map_some Option.map_none List.cons_append List.nil_append List.append_nil List.nodup_nil List.drop_zero List.drop_succ_cons List.drop_nil List.take_succ_cons List.take_zero List.take_nil List.set_cons_zero List.set_cons_succ List.range_zero Bool.and_true Bool.true_and Bool.and_self and_true true_and and_self Nat.zero_le Nat.le_refl beq_self_eq_true Option.getD_some ite_true ite_false Nat.zero_add Nat.lt_add_one Nat.zero_lt_succ eq_self or_false false_or and_false false_and or_self Nat.lt_irrefl true_or or_true List.not_mem_nil List.nodup_cons List.mem_cons Bool.false_eq_true if_true if_false decide_true decide_false Bool.not_true Bool.not_false Int.toNat_natCast ne_eq not_true_eq_false not_false_eq_true
end Go.Proofs.YtlkgkkacnoaeaaaGreatDoor

namespace Go.Proofs.YtlkgkkacnoaeaaaGreatDoor
open Go.RowKit
section
variable {tt : Nat → Option TI} {S : Ctx}
theorem optK_mono {α : Type} {r : Option α} {K K' : α → Prop} (h : ∀ x, K x → K' x) (hh : optK r K) : optK r K' := by
  cases r with
  | none => exact hh
  | some v => exact h v hh
theorem opS_mono {key : Nat} {o : Oper} {K K' : St → Prop} {st : St} (h : ∀ st, K st → K' st) (hh : opS tt S key o K st) : opS tt S key o K' st := by
  unfold opS at hh ⊢
  split
  · rename_i c hc
    rw [hc] at hh
    simp only [spK] at hh ⊢
    split
    · rename_i e
      rw [e] at hh
      exact optK_mono (fun l ⟨res, h1, h2, h3, h4⟩ => ⟨res, h1, h2, h3, h _ h4⟩) hh
    · rename_i e
      rw [e] at hh
      simp only [hands] at hh ⊢
      split
      · rename_i e2; rw [e2] at hh; exact hh
      · rename_i e2
        rw [e2] at hh
        exact optK_mono (fun kh => optK_mono fun l ⟨res, h', h1, h2, h3, h4⟩ => ⟨res, h', h1, h2, h3, h _ h4⟩) hh
    · rename_i e
      rw [e] at hh
      exact optK_mono (fun l ⟨nb, h1, h4⟩ => ⟨nb, h1, h _ h4⟩) hh
    · rename_i n0 n1 n3
      have hh' : optK (svArgs st (evs tt st c.2.1 c.2.2)) (frzK S c.1 key o.dst K st (evs tt st c.2.1 c.2.2)) := by
        revert hh
        split
        · rename_i e; exact absurd e n0
        · rename_i e; exact absurd e n1
        · rename_i e; exact absurd e n3
        · exact id
      exact optK_mono (fun l ⟨res, h1, h2, h3⟩ => ⟨res, h1, h2, h _ h3⟩) hh'
  · rename_i hc
    rw [hc] at hh
    simp only at hh
    split
    · rename_i c hd
      rw [hd] at hh
      simp only at hh
      exact optK_mono (fun fc ⟨h0, h1⟩ => ⟨h0, optK_mono (fun l ⟨res, a, b, c, d⟩ => ⟨res, a, b, c, h _ d⟩) h1⟩) hh
    · rename_i hd
      rw [hd] at hh
      simp only at hh
      exact optK_mono (fun r hr => h _ hr) hh
theorem opG_mono {all : List Oper} {key : Nat} {o : Oper} {K K' : St → Prop} {st : St} (h : ∀ st, K st → K' st) (hh : opG tt S all key o K st) : opG tt S all key o K' st := by
  unfold opG at hh ⊢
  split
  · rename_i hg; rw [hg] at hh; exact opS_mono h hh
  · rename_i hg; rw [hg] at hh; exact h _ hh
  · rename_i hg
    rw [hg] at hh
    simp only [gK] at hh ⊢
    split
    · rename_i h1
      rw [if_pos h1] at hh
      split
      · rename_i h2; rw [if_pos h2] at hh; exact opS_mono h hh
      · rename_i h2; rw [if_neg h2] at hh; exact h _ hh
    · rename_i h1
      rw [if_neg h1] at hh
      split
      · rename_i h2; rw [if_pos h2] at hh; exact h _ hh
      · rename_i h2; rw [if_neg h2] at hh; exact hh
theorem opsS_mono {all : List Oper} {K K' : St → Prop} (h : ∀ st, K st → K' st) : ∀ (r : List Oper) (key : Nat) (st : St), opsS tt S all key r K st → opsS tt S all key r K' st
  | [], _, st, hh => h st hh
  | o :: r, key, st, hh => opG_mono (fun st' h' => opsS_mono h r (key + 16) st' h') hh
theorem loopN_mono {F : (Ex → St → Prop) → St → Prop} (hF : ∀ Q Q' st, (∀ e st, Q e st → Q' e st) → F Q st → F Q' st) {Q Q' : Ex → St → Prop} (h : ∀ e st, Q e st → Q' e st) : ∀ (n : Nat) (st : St), loopN F Q n st → loopN F Q' n st
  | 0, _, hh => hh
  | n + 1, st, ⟨ms, ρ, h1, h2⟩ => ⟨ms, ρ, h1, fun hw => hF _ _ _ (fun e st' h' => by cases e <;> first | exact loopN_mono hF h n st' h' | exact h _ _ h') (h2 hw)⟩
theorem swp_mono : ∀ (c : Code) (Q Q' : Ex → St → Prop) (st : St), (∀ e st, Q e st → Q' e st) → swp tt S c Q st → swp tt S c Q' st
  | .skip, Q, Q', st, h, hh => h _ _ hh
  | .exit _, Q, Q', st, h, hh => h _ _ hh
  | .ret, Q, Q', st, h, hh => h _ _ hh
  | .region _ ops _, Q, Q', st, h, hh => opsS_mono (fun st' h' => h _ _ h') ops.toList st.n st hh
  | .seq a b, Q, Q', st, h, hh => swp_mono a _ _ st (fun e st' h' => by cases e <;> first | exact swp_mono b Q Q' st' h h' | exact h _ _ h') hh
  | .cond c a b, Q, Q', st, h, hh => by
    simp only [swp, condK] at hh ⊢
    split
    · rename_i h1
      rw [if_pos h1] at hh
      split
      · rename_i h2; rw [if_pos h2] at hh; exact swp_mono a Q Q' st h hh
      · rename_i h2; rw [if_neg h2] at hh; exact swp_mono b Q Q' st h hh
    · rename_i h1; rw [if_neg h1] at hh; exact hh
  | .block id b, Q, Q', st, h, hh => swp_mono b _ _ st (fun e st' h' => by
      cases e with
      | normal => exact h _ _ h'
      | ret => exact h _ _ h'
      | exit j =>
        simp only [blockK] at h' ⊢
        split
        · rename_i e; rw [if_pos e] at h'; exact h _ _ h'
        · rename_i e; rw [if_neg e] at h'; exact h _ _ h') hh
  | .loop b, Q, Q', st, h, ⟨n, hh⟩ => ⟨n, loopN_mono (fun Q Q' st hq hs => swp_mono b Q Q' st hq hs) h n st hh⟩
  | .rangeFunc _ _ _ _, _, _, _, _, hh => hh.elim
  | .scope _, _, _, _, _, hh => hh.elim
  | .label _, _, _, _, _, hh => hh.elim
  | .goto _, _, _, _, _, hh => hh.elim
  | .refuse _, _, _, _, _, hh => hh.elim
end
theorem wrap_ok {x : Int} (h0 : -9223372036854775808 ≤ x) (h1 : x ≤ 9223372036854775807) : IntKind.i64.wrap x = x := IntWalk.i64_in _ ⟨h0, h1⟩
theorem ren_sl (sl : Nat → SV) (ob : Nat → Ob) (n : Nat) (ρ : List Nat) (t : Nat) : (St.ren ⟨sl, ob, n⟩ ρ).sl t = rSV ρ (sl t) := _root_.id rfl
theorem ren_ob (sl : Nat → SV) (ob : Nat → Ob) (n : Nat) (ρ : List Nat) (j : Nat) : (St.ren ⟨sl, ob, n⟩ ρ).ob j = match ρ[j]? with | some k => rOb ρ (ob k) | none => .gone := _root_.id rfl
theorem ren_n (st : St) (ρ : List Nat) : (st.ren ρ).n = ρ.length := _root_.id rfl
theorem mats_nil (st : St) : st.mats [] = st := _root_.id rfl
theorem mats_slot (sl : Nat → SV) (ob : Nat → Ob) (n t j : Nat) (r : List (Bool × Nat × Nat)) : St.mats ⟨sl, ob, n⟩ ((false, t, j) :: r) = if 4096 ≤ j then St.mats (match sl t with
    | .p ag cs => (match cs[j - 4096]? with
      | some (.row k) => (match ob k with
        | .row e q xs d => if d = 2 then ⟨upd sl t (.p ag (cs.set (j - 4096) (.n (.sl e q xs)))), upd ob k (.row e q xs 0), n⟩ else ⟨sl, ob, n⟩
        | _ => ⟨sl, ob, n⟩)
      | _ => ⟨sl, ob, n⟩)
    | _ => ⟨sl, ob, n⟩) r else St.mats (match sl t with
    | .p ag cs => (match cs[j]? with
      | some (.nil e q) => if 0 < q then ⟨upd sl t (.p ag (cs.set j (.row n))), upd ob n (.row e q [] 2), n + 1⟩ else ⟨sl, ob, n⟩
      | some (.row k) => (match ob k with
        | .row e q xs _ => ⟨upd sl t (.p ag (cs.set j (.c (.sl e q xs)))), upd ob k (.row e q xs 0), n⟩
        | _ => ⟨sl, ob, n⟩)
      | _ => ⟨sl, ob, n⟩)
    | _ => ⟨sl, ob, n⟩) r := by
  by_cases h : 4096 ≤ j
  · rw [if_pos h, St.mats, if_pos ⟨rfl, h⟩]; rfl
  · rw [if_neg h, St.mats, if_neg (fun e => h e.2)]; rfl
theorem mats_box (sl : Nat → SV) (ob : Nat → Ob) (n k i : Nat) (r : List (Bool × Nat × Nat)) : St.mats ⟨sl, ob, n⟩ ((true, k, i) :: r) = St.mats (match ob k with
    | .box ty cs => (match cs[i]? with
      | some (.nil e q) => if 0 < q then ⟨sl, upd (upd ob k (.box ty (cs.set i (.row n)))) n (.row e q [] 2), n + 1⟩ else ⟨sl, ob, n⟩
      | some (.row j) => (match ob j with
        | .row e q xs _ => ⟨sl, upd (upd ob j (.row e q xs 0)) k (.box ty (cs.set i (.c (.sl e q xs)))), n⟩
        | _ => ⟨sl, ob, n⟩)
      | _ => ⟨sl, ob, n⟩)
    | .row e q xs d => (if i < d then ⟨sl, upd ob k (.row e q xs i), n⟩ else ⟨sl, ob, n⟩)
    | _ => ⟨sl, ob, n⟩) r := _root_.id rfl
theorem nn (k : Nat) : (0 ≤ (k : Int)) = True := by simp
theorem bb_tt : (true == true) = true := _root_.id rfl
theorem bb_ft : (false == true) = false := _root_.id rfl
theorem bb_tf : (true == false) = false := _root_.id rfl
theorem bb_ff : (false == false) = true := _root_.id rfl
attribute [go_sem] flatC flatCs zCTs mats_nil mats_slot mats_box nn bb_tt bb_ft bb_tf bb_ff ren_sl ren_ob ren_n rSV rAV rOb kidx
end Go.Proofs.YtlkgkkacnoaeaaaGreatDoor

namespace Go.Proofs.YtlkgkkacnoaeaaaGreatDoor
open Go.RowKit
/-- go on only if a bound holds -/
def chk {α : Type} (c : Prop) [Decidable c] (x : Option α) : Option α := if c then x else none
def atI {α : Type} (l : List α) (i : Int) : Option α := if 0 ≤ i then l[i.toNat]? else none
/-- a walk over a list: the step tells the next state, or the end -/
def forL {α σ ρ : Type} (body : Nat → α → σ → Option (σ ⊕ ρ)) (fin : σ → Option ρ) : List α → Nat → σ → Option ρ
  | [], _, s => fin s
  | x :: l, i, s => match body i x s with
    | none => none
    | some (.inl s') => forL body fin l (i + 1) s'
    | some (.inr r) => some r
def iterN {σ ρ : Type} (body : σ → Option (σ ⊕ ρ)) : Nat → σ → Option ρ
  | 0, _ => none
  | n + 1, s => match body s with
    | none => none
    | some (.inl s') => iterN body n s'
    | some (.inr r) => some r
open Classical in
/-- a loop: what it ends with, if it ends -/
noncomputable def iter {σ ρ : Type} (body : σ → Option (σ ⊕ ρ)) (s : σ) : Option ρ := if h : ∃ n, (iterN body n s).isSome = true then iterN body (Classical.choose h) s else none
section
variable {α β σ ρ : Type} {r : ρ}
theorem iterN_more {body : σ → Option (σ ⊕ ρ)} : ∀ {n : Nat} (m : Nat) {s : σ} {r : ρ}, iterN body n s = some r → iterN body (n + m) s = some r
  | 0, _, _, _, h => by simp [iterN] at h
  | n + 1, m, s, r, h => by
    rw [show n + 1 + m = n + m + 1 by omega]
    simp only [iterN] at h ⊢
    cases e : body s with
    | none => rw [e] at h; simp at h
    | some y =>
      rw [e] at h
      cases y with
      | inl s' => exact iterN_more m h
      | inr r' => exact h
theorem iter_iff {body : σ → Option (σ ⊕ ρ)} {s : σ} {r : ρ} : iter body s = some r ↔ ∃ n, iterN body n s = some r := by
  constructor
  · intro h
    unfold iter at h
    split at h
    · exact ⟨_, h⟩
    · simp at h
  · rintro ⟨n, hn⟩
    have hex : ∃ n, (iterN body n s).isSome = true := ⟨n, by simp [hn]⟩
    unfold iter
    rw [dif_pos hex]
    have h2 := Classical.choose_spec hex
    obtain ⟨r', hr'⟩ := Option.isSome_iff_exists.1 h2
    rw [hr']
    have a1 := iterN_more n hr'
    have a2 := iterN_more (Classical.choose hex) hn
    rw [Nat.add_comm] at a2
    rw [a1] at a2
    exact a2
theorem iter_eq (body : σ → Option (σ ⊕ ρ)) (s : σ) : iter body s = match body s with
    | none => none
    | some (.inl s') => iter body s'
    | some (.inr r) => some r := by
  apply Option.ext
  intro r
  rw [iter_iff]
  constructor
  · rintro ⟨n, hn⟩
    cases n with
    | zero => simp [iterN] at hn
    | succ n =>
      simp only [iterN] at hn
      cases e : body s with
      | none => rw [e] at hn; simp at hn
      | some y =>
        rw [e] at hn
        cases y with
        | inl s' => exact iter_iff.2 ⟨n, hn⟩
        | inr r' => exact hn
  · intro h
    cases e : body s with
    | none => rw [e] at h; simp at h
    | some y =>
      rw [e] at h
      cases y with
      | inl s' =>
        obtain ⟨n, hn⟩ := iter_iff.1 h
        exact ⟨n + 1, by simp only [iterN, e]; exact hn⟩
      | inr r' => exact ⟨1, by simp only [iterN, e]; exact h⟩
theorem chk_K {c : Prop} [Decidable c] {x : Option α} {r : α} (h : chk c x = some r) : c ∧ x = some r := by
  unfold chk at h
  split at h
  · rename_i hc; exact ⟨hc, h⟩
  · simp at h
theorem chk_pos {c : Prop} [Decidable c] (x : Option α) (h : c) : chk c x = x := if_pos h
theorem bind_K {o : Option α} {f : α → Option β} {r : β} (h : o.bind f = some r) : ∃ x, o = some x ∧ f x = some r := by
  cases o with
  | none => simp at h
  | some x => exact ⟨x, rfl, h⟩
theorem at_K {l : List α} {i : Int} {f : α → Option β} {r : β} (h : (atI l i).bind f = some r) : ∃ x, 0 ≤ i ∧ i < (l.length : Int) ∧ l[i.toNat]? = some x ∧ f x = some r := by
  unfold atI at h
  split at h
  · rename_i hi
    obtain ⟨x, h1, h2⟩ := bind_K h
    obtain ⟨h3, _⟩ := List.getElem?_eq_some_iff.1 h1
    exact ⟨x, hi, by omega, h1, h2⟩
  · simp at h
theorem ite_K {G : Prop} {b : Bool} {x y : Option α} {r : α} (h : (if b = true then x else y) = some r) (h1 : b = true → x = some r → G) (h2 : b = false → y = some r → G) : G := by
  cases b with
  | true => exact h1 rfl (by simpa using h)
  | false => exact h2 rfl (by simpa using h)
theorem inr_K {y : σ ⊕ ρ} {v r : ρ} (h : some (.inr v) = some y) (hy : y = .inr r ∨ ∃ s, y = .inl s) : some v = some r := by
  obtain rfl := Option.some.inj h
  rcases hy with h | ⟨_, h⟩
  · rw [Sum.inr.inj h]
  · cases h
end
section
variable {tt : Nat → Option TI} {S : Ctx}
/-- back at the head of a loop -/
def backS {σ ρ : Type} (I : σ → St → Prop) (y : σ ⊕ ρ) (st : St) : Prop := ∃ s' ms ρk, y = .inl s' ∧ ρk.Nodup ∧ I s' ((st.mats ms).ren ρk)
theorem swp_iter {σ ρ : Type} {b : Code} {Q : Ex → St → Prop} {st : St} {body : σ → Option (σ ⊕ ρ)} {s0 : σ} {r : ρ} (h : iter body s0 = some r) (I : σ → St → Prop) (ms : List (Bool × Nat × Nat)) (ρk : List Nat) (hρ : ρk.Nodup) (h0 : I s0 ((st.mats ms).ren ρk))
    (step : ∀ s st y, I s st → WF st → body s = some y → (y = .inr r ∨ ∃ s', y = .inl s') → swp tt S b (thenK (backS I y) Q) st) : swp tt S (.loop b) Q st := by
  obtain ⟨n, hn⟩ := iter_iff.1 h
  have key : ∀ n s st, iterN body n s = some r → (∃ ms ρk, ρk.Nodup ∧ I s ((st.mats ms).ren ρk)) → loopN (swp tt S b) Q n st := by
    intro n
    induction n with
    | zero => intro s st h; simp [iterN] at h
    | succ n ih =>
      rintro s st hn ⟨ms, ρk, h1, h2⟩
      refine ⟨ms, ρk, h1, fun hw => ?_⟩
      simp only [iterN] at hn
      split at hn
      · simp at hn
      · rename_i s' e
        refine swp_mono b _ _ _ (fun ex st' h' => ?_) (step s _ _ h2 hw e (.inr ⟨_, rfl⟩))
        cases ex with
        | normal =>
          obtain ⟨s2, ms', ρ', h3, h4, h5⟩ := h'
          obtain rfl := Sum.inl.inj h3
          exact ih _ st' hn ⟨ms', ρ', h4, h5⟩
        | exit _ => exact h'
        | ret => exact h'
      · rename_i r' e
        obtain rfl := Option.some.inj hn
        refine swp_mono b _ _ _ (fun ex st' h' => ?_) (step s _ _ h2 hw e (.inl rfl))
        cases ex with
        | normal =>
          obtain ⟨s2, ms', ρ', h3, h4, h5⟩ := h'
          cases h3
        | exit _ => exact h'
        | ret => exact h'
  exact ⟨n, key n s0 st hn ⟨ms, ρk, hρ, h0⟩⟩
theorem swp_for {α σ ρ : Type} {b : Code} {Q : Ex → St → Prop} {st : St} {body : Nat → α → σ → Option (σ ⊕ ρ)} {fin : σ → Option ρ} {l : List α} {s0 : σ} {r : ρ} (h : forL body fin l 0 s0 = some r) (I : Nat → σ → St → Prop) (ms : List (Bool × Nat × Nat)) (ρk : List Nat) (hρ : ρk.Nodup) (h0 : I 0 s0 ((st.mats ms).ren ρk))
    (step : ∀ i x s st y, l[i]? = some x → I i s st → WF st → body i x s = some y → (y = .inr r ∨ ∃ s', y = .inl s') → swp tt S b (thenK (backS (I (i + 1)) y) Q) st)
    (last : ∀ s st, I l.length s st → WF st → fin s = some r → swp tt S b (thenK (fun _ => False) Q) st) : swp tt S (.loop b) Q st := by
  have key : ∀ n i s st, l.length - i < n → i ≤ l.length → forL body fin (l.drop i) i s = some r → (∃ ms ρk, ρk.Nodup ∧ I i s ((st.mats ms).ren ρk)) → loopN (swp tt S b) Q n st := by
    intro n
    induction n with
    | zero => intro i s st h; omega
    | succ n ih =>
      rintro i s st hn hi hf ⟨ms, ρk, h1, h2⟩
      refine ⟨ms, ρk, h1, fun hw => ?_⟩
      by_cases hil : i < l.length
      · have hx : l[i]? = some l[i] := List.getElem?_eq_getElem hil
        rw [List.drop_eq_getElem_cons hil] at hf
        simp only [forL] at hf
        split at hf
        · simp at hf
        · rename_i s' e
          refine swp_mono b _ _ _ (fun ex st' h' => ?_) (step i _ s _ _ hx h2 hw e (.inr ⟨_, rfl⟩))
          cases ex with
          | normal =>
            obtain ⟨s2, ms', ρ', h3, h4, h5⟩ := h'
            obtain rfl := Sum.inl.inj h3
            exact ih (i + 1) _ st' (by omega) (by omega) hf ⟨ms', ρ', h4, h5⟩
          | exit _ => exact h'
          | ret => exact h'
        · rename_i r' e
          obtain rfl := Option.some.inj hf
          refine swp_mono b _ _ _ (fun ex st' h' => ?_) (step i _ s _ _ hx h2 hw e (.inl rfl))
          cases ex with
          | normal =>
            obtain ⟨s2, ms', ρ', h3, h4, h5⟩ := h'
            cases h3
          | exit _ => exact h'
          | ret => exact h'
      · obtain rfl : i = l.length := by omega
        rw [List.drop_length] at hf
        refine swp_mono b _ _ _ (fun ex st' h' => ?_) (last s _ h2 hw hf)
        cases ex with
        | normal => exact h'.elim
        | exit _ => exact h'
        | ret => exact h'
  exact ⟨l.length + 1, key _ 0 s0 st (by omega) (by omega) (by simpa using h) ⟨ms, ρk, hρ, h0⟩⟩
theorem call_K {f : FuncId} {key : Nat} {d : Option Nat} {K : St → Prop} {st : St} {vs : List SV} {l : List (Bool × List CT)} {res : List RT} (hs : S.r f l res) (hk : (!lends res || vs.all svNoRow) = true ∧ (bindRs key res).2.2 ≤ key + 16 ∧ K ((st.put d (resSV (bindRs key res).1)).app (bindRs key res).2.1)) : callK S f key d K st vs l := ⟨res, hs, hk.1, hk.2.1, hk.2.2⟩
theorem frz_K {f : FuncId} {key : Nat} {d : Option Nat} {K : St → Prop} {st : St} {vs : List SV} {l : List (Bool × List CT)} {res : List RT} (hs : S.r f l res) (hk : (bindRs key res).2.2 ≤ key + 16 ∧ K ((st.put d (resSV (bindRs key res).1)).app (frzAll st (rowsSV vs) ++ (bindRs key res).2.1))) : frzK S f key d K st vs l := ⟨res, hs, hk.1, hk.2⟩
theorem new_KM {f : FuncId} {key : Nat} {d : Option Nat} {K : St → Prop} {st : St} {vs : List SV} {l : List (Bool × List CT)} {kk vk : PK} {kv : List (Value × Value)} (hs : S.b f l (.map kk vk kv)) (hk : K ((st.put d (.p false [.row key])).app (frzAll st (rowsSV vs) ++ [(key, .map kk vk kv)]))) : newK S f key d K st vs l := ⟨_, hs, hk⟩
theorem hand_K {f : FuncId} {key : Nat} {d : Option Nat} {K : St → Prop} {st : St} {vs : List SV} {kh : Nat × Hand} {l : List (Bool × List CT)} {res : List RT} {h' : Hand} (hs : S.h f kh.2 l res h') (hk : (rowsSV vs).all (fun j => j != kh.1) = true ∧ (bindRs key res).2.2 ≤ key + 16 ∧ K ((st.put d (resSV (bindRs key res).1)).app (frzAll st (rowsSV vs) ++ ((kh.1, handOb h') :: (bindRs key res).2.1)))) : handK S f key d K st vs kh l := ⟨res, h', hs, hk.1, hk.2.1, hk.2.2⟩
end
/-- slots and objects of a state -/
def sts : List (Nat × SV) → St → Prop
  | [], _ => True
  | p :: r, st => st.sl p.1 = p.2 ∧ sts r st
def obs : List Ob → Nat → St → Prop
  | [], k, st => st.n = k
  | o :: r, k, st => st.ob k = o ∧ obs r (k + 1) st
def IV (s : List (Nat × SV)) (o : List Ob) (st : St) : Prop := sts s st ∧ obs o 0 st
theorem sts_nil (st : St) : sts [] st = True := _root_.id rfl
theorem sts_cons (st : St) (t : Nat) (v : SV) (r : List (Nat × SV)) : sts ((t, v) :: r) st = (st.sl t = v ∧ sts r st) := _root_.id rfl
theorem obs_nil (st : St) (k : Nat) : obs [] k st = (st.n = k) := _root_.id rfl
theorem obs_cons (st : St) (o : Ob) (k : Nat) (r : List Ob) : obs (o :: r) k st = (st.ob k = o ∧ obs r (k + 1) st) := _root_.id rfl
attribute [go_sem] IV sts_cons sts_nil obs_cons obs_nil
theorem flatEs_map {α : Type} {g : α → List CT} (h : ∀ x, (g x).all CT.flat = true) (l : List α) : flatEs (l.map g) = true := by
  simp only [flatEs, List.all_map, List.all_eq_true]
  exact fun x _ => h x
def eStr (s : ByteArray) : List CT := [.str s]
def eInt (n : Int) : List CT := [.int .i64 n]
def eBool (b : Bool) : List CT := [.bool b]
def eByte (n : Int) : List CT := [.int .u8 n]
theorem eStr_eq (s : ByteArray) : eStr s = [.str s] := _root_.id rfl
theorem eInt_eq (n : Int) : eInt n = [.int .i64 n] := _root_.id rfl
theorem eBool_eq (b : Bool) : eBool b = [.bool b] := _root_.id rfl
theorem eByte_eq (n : Int) : eByte n = [.int .u8 n] := _root_.id rfl
theorem eStr_flat (l : List ByteArray) : flatEs (l.map eStr) = true := flatEs_map (fun _ => rfl) l
theorem eInt_flat (l : List Int) : flatEs (l.map eInt) = true := flatEs_map (fun _ => rfl) l
theorem eBool_flat (l : List Bool) : flatEs (l.map eBool) = true := flatEs_map (fun _ => rfl) l
theorem eByte_flat (l : List Int) : flatEs (l.map eByte) = true := flatEs_map (fun _ => rfl) l
theorem str_at {s : ByteArray} {i : Nat} {x : UInt8} (h : s.data.toList[i]? = some x) : s[i]? = some x := by
  obtain ⟨h1, h2⟩ := List.getElem?_eq_some_iff.1 h
  have hs : i < s.size := by rw [ByteArray.size]; simpa using h1
  rw [getElem?_pos s i hs, ← h2]
  rfl
theorem str_len (s : ByteArray) : s.data.toList.length = s.size := by rw [ByteArray.size, Array.length_toList]
theorem nat_in {i n : Nat} (h : i < n) (hn : n ≤ 9223372036854775807) : IntKind.i64.wrap ((i : Int) + 1) = ((i + 1 : Nat) : Int) := by
  rw [wrap_ok (by omega) (by omega)]; omega
theorem lt_t {α : Type} {l : List α} {i : Nat} {x : α} (h : l[i]? = some x) : decide ((i : Int) < (l.length : Int)) = true := by
  obtain ⟨h1, _⟩ := List.getElem?_eq_some_iff.1 h
  exact decide_eq_true (by omega)
theorem lt_p {α : Type} {l : List α} {i : Nat} {x : α} (h : l[i]? = some x) : (i : Int) < (l.length : Int) := of_decide_eq_true (lt_t h)
theorem lt_n {α : Type} {l : List α} {i : Nat} {x : α} (h : l[i]? = some x) : i < l.length := (List.getElem?_eq_some_iff.1 h).1
theorem lt_f (n : Nat) : decide ((n : Int) < (n : Int)) = false := decide_eq_false (by omega)
def sAt (s : ByteArray) (i : Int) : Option UInt8 := if 0 ≤ i then s[i.toNat]? else none
theorem sat_K {β : Type} {s : ByteArray} {i : Int} {f : UInt8 → Option β} {r : β} (h : (sAt s i).bind f = some r) : ∃ x, 0 ≤ i ∧ s[i.toNat]? = some x ∧ f x = some r := by
  unfold sAt at h
  split at h
  · rename_i hi
    obtain ⟨x, h1, h2⟩ := bind_K h
    exact ⟨x, hi, h1, h2⟩
  · simp at h
theorem slt_n {s : ByteArray} {i : Nat} {x : UInt8} (h : s.data.toList[i]? = some x) : i < s.size := by
  have := lt_n h
  rwa [str_len] at this
theorem slt_t {s : ByteArray} {i : Nat} {x : UInt8} (h : s.data.toList[i]? = some x) : decide ((i : Int) < (s.size : Int)) = true := by
  have := slt_n h
  exact decide_eq_true (by omega)
theorem avsD_at : ∀ {cs : List AV} {j : Nat} {x : AV}, avsD cs → cs[j]? = some x → avD x
  | [], _, _, _, h => by simp at h
  | _ :: _, 0, _, h, e => by simp at e; subst e; exact h.1
  | _ :: _, j + 1, _, h, e => avsD_at h.2 (by simpa using e)
theorem ctsD_at : ∀ {cs : List CT} {j : Nat} {x : CT}, ctsD cs → cs[j]? = some x → ctD x
  | [], _, _, _, h => by simp at h
  | _ :: _, 0, _, h, e => by simp at e; subst e; exact h.1
  | _ :: _, j + 1, _, h, e => ctsD_at h.2 (by simpa using e)
section
variable {α : Type} {st : St} {t k j e m : Nat} {a : Bool} {d : Nat} {cs : List AV} {g : α → List CT} {l : List α} {s : ByteArray}
theorem WF.slotL (hW : WF st) (h : st.sl t = .p a cs) (hc : cs[j]? = some (.c (.sl e m (List.map g l)))) : l.length ≤ 9223372036854775807 := by
  have := (avsD_at (hW.sl _ _ _ h) hc).1
  simpa only [List.length_map] using this
theorem WF.slotD (hW : WF st) (h : st.sl t = .p a cs) (hc : cs[j]? = some (.c (.sl e m (List.map g l)))) : essD (List.map g l) := (avsD_at (hW.sl _ _ _ h) hc).2
theorem WF.slotS (hW : WF st) (h : st.sl t = .p a cs) (hc : cs[j]? = some (.c (.str s))) : s.size ≤ 9223372036854775807 := avsD_at (hW.sl _ _ _ h) hc
theorem WF.boxL (hW : WF st) (h : st.ob k = .box t cs) (hc : cs[j]? = some (.c (.sl e m (List.map g l)))) : l.length ≤ 9223372036854775807 := by
  have := (avsD_at (hW.box _ _ _ h) hc).1
  simpa only [List.length_map] using this
theorem WF.rowL (hW : WF st) (h : st.ob k = .row e m (List.map g l) d) : l.length ≤ 9223372036854775807 := by
  have := (hW.row _ _ _ _ _ h).1
  simpa only [List.length_map] using this
theorem WF.elL {β : Type} {g' : β → List CT} {l' : List β} {i : Nat} {x : α} (h : essD (List.map g l)) (hx : l[i]? = some x) (hc : (g x)[j]? = some (.sl e m (List.map g' l'))) : l'.length ≤ 9223372036854775807 := by
  have := (ctsD_at (essD_at h hx) hc).1
  simpa only [List.length_map] using this
end
/- maps of plain keys, as lists of pairs -/
def eSB (p : ByteArray × Bool) : Value × Value := (.string p.1, .bool p.2)
def eSS (p : ByteArray × ByteArray) : Value × Value := (.string p.1, .string p.2)
def eIB (p : Int × Bool) : Value × Value := (.int .i64 p.1, .bool p.2)
def mGet {α β : Type} [DecidableEq α] : List (α × β) → α → Option β
  | [], _ => none
  | p :: r, k => if k = p.1 then some p.2 else mGet r k
def mPut {α β : Type} [DecidableEq α] : List (α × β) → α → β → List (α × β)
  | [], k, v => [(k, v)]
  | p :: r, k, v => if k = p.1 then (k, v) :: r else p :: mPut r k v
def mGetD {α β : Type} [DecidableEq α] (l : List (α × β)) (k : α) (z : β) : β := (mGet l k).getD z
def mHas {α β : Type} [DecidableEq α] (l : List (α × β)) (k : α) : Bool := (mGet l k).isSome
section
variable {α β : Type} [DecidableEq α] {e : α × β → Value × Value} {fk : α → Value} {fv : β → Value}
theorem mget_map (he : ∀ p, e p = (fk p.1, fv p.2)) (hk : ∀ a b, vEq (fk a) (fk b) = decide (a = b)) : ∀ (l : List (α × β)) (k : α), mget (l.map e) (fk k) = (mGet l k).map fv
  | [], _ => rfl
  | p :: r, k => by
    simp only [List.map_cons, mget, mGet, he, hk, decide_eq_true_eq]
    split
    · rfl
    · exact mget_map he hk r k
theorem mput_map (he : ∀ p, e p = (fk p.1, fv p.2)) (hk : ∀ a b, vEq (fk a) (fk b) = decide (a = b)) (v : β) : ∀ (l : List (α × β)) (k : α), mput (l.map e) (fk k) (fv v) = (mPut l k v).map e
  | [], k => by simp [mput, mPut, he]
  | p :: r, k => by
    simp only [List.map_cons, mput, mPut, he, hk, decide_eq_true_eq]
    split
    · simp [he]
    · rw [mput_map he hk v r k]; simp [he]
end
theorem vEq_s (a b : ByteArray) : vEq (.string a) (.string b) = decide (a = b) := rfl
theorem vEq_i (a b : Int) : vEq (.int .i64 a) (.int .i64 b) = decide (a = b) := by simp [vEq, BEq.beq]
theorem look_SB (l : List (ByteArray × Bool)) (k : ByteArray) : lookAV (l.map eSB) (.string k) (.c (.bool false)) = .c (.bool (mGetD l k false)) := by
  simp only [lookAV, mget_map (e := eSB) (fk := .string) (fv := .bool) (fun _ => rfl) vEq_s, mGetD]
  cases mGet l k <;> rfl
theorem look_SS (l : List (ByteArray × ByteArray)) (k : ByteArray) : lookAV (l.map eSS) (.string k) (.c (.str ⟨#[]⟩)) = .c (.str (mGetD l k ⟨#[]⟩)) := by
  simp only [lookAV, mget_map (e := eSS) (fk := .string) (fv := .string) (fun _ => rfl) vEq_s, mGetD]
  cases mGet l k <;> rfl
theorem look_IB (l : List (Int × Bool)) (k : Int) : lookAV (l.map eIB) (.int .i64 k) (.c (.bool false)) = .c (.bool (mGetD l k false)) := by
  simp only [lookAV, mget_map (e := eIB) (fk := .int .i64) (fv := .bool) (fun _ => rfl) vEq_i, mGetD]
  cases mGet l k <;> rfl
theorem has_SB (l : List (ByteArray × Bool)) (k : ByteArray) : hasKey (l.map eSB) (.string k) = mHas l k := by
  simp only [hasKey, mget_map (e := eSB) (fk := .string) (fv := .bool) (fun _ => rfl) vEq_s, mHas]
  cases mGet l k <;> rfl
theorem has_SS (l : List (ByteArray × ByteArray)) (k : ByteArray) : hasKey (l.map eSS) (.string k) = mHas l k := by
  simp only [hasKey, mget_map (e := eSS) (fk := .string) (fv := .string) (fun _ => rfl) vEq_s, mHas]
  cases mGet l k <;> rfl
theorem has_IB (l : List (Int × Bool)) (k : Int) : hasKey (l.map eIB) (.int .i64 k) = mHas l k := by
  simp only [hasKey, mget_map (e := eIB) (fk := .int .i64) (fv := .bool) (fun _ => rfl) vEq_i, mHas]
  cases mGet l k <;> rfl
theorem put_SB (l : List (ByteArray × Bool)) (k : ByteArray) (v : Bool) : mput (l.map eSB) (.string k) (.bool v) = (mPut l k v).map eSB := mput_map (fk := .string) (fv := .bool) (fun _ => rfl) vEq_s v l k
theorem put_SS (l : List (ByteArray × ByteArray)) (k v : ByteArray) : mput (l.map eSS) (.string k) (.string v) = (mPut l k v).map eSS := mput_map (fk := .string) (fv := .string) (fun _ => rfl) vEq_s v l k
theorem put_IB (l : List (Int × Bool)) (k : Int) (v : Bool) : mput (l.map eIB) (.int .i64 k) (.bool v) = (mPut l k v).map eIB := mput_map (fk := .int .i64) (fv := .bool) (fun _ => rfl) vEq_i v l k
theorem intsOf_map : ∀ l : List Int, intsOf (l.map eByte) = some l
  | [] => rfl
  | n :: r => by simp only [List.map_cons, eByte_eq, intsOf, intsOf_map r, Option.map_some]
theorem svArgs_caps (st : St) : ∀ l : List CT, svArgs st (l.map capSV) = some (l.map fun c => (false, [c]))
  | [] => rfl
  | c :: r => by
    have h := svArgs_caps st r
    simp only [List.map_cons, svArgs, h, capSV, svArg, avArgs, avArg, Option.bind_some, Option.map_some]
theorem cast0 : ((0 : Nat) : Int) = 0 := _root_.id rfl
attribute [go_sem] svArgs_caps look_SB look_SS look_IB has_SB has_SS has_IB put_SB put_SS put_IB intsOf_map cast0 bitV List.map_replicate eStr_eq eInt_eq eBool_eq eByte_eq eStr_flat eInt_flat eBool_flat eByte_flat List.map_append List.getElem?_map List.map_set List.map_take List.map_drop List.length_append List.length_set Int.toNat_natCast
end Go.Proofs.YtlkgkkacnoaeaaaGreatDoor

namespace Go.Proofs.YtlkgkkacnoaeaaaGreatDoor
def toL (s : ByteArray) : List UInt8 := s.data.toList
def ofL (l : List UInt8) : ByteArray := ⟨l.toArray⟩
theorem ofL_toL (s : ByteArray) : ofL (toL s) = s := by cases s; simp [ofL, toL]
theorem toL_ofL (l : List UInt8) : toL (ofL l) = l := by simp [ofL, toL]
def sortB (l : List ByteArray) : List ByteArray := ((l.map toL).mergeSort fun x y => decide (x ≤ y)).map ofL
def x_sortStrings (l : List ByteArray) : Option (List ByteArray) := chk (l.length ≤ 4611686018427387903) (some (sortB l))
end Go.Proofs.YtlkgkkacnoaeaaaGreatDoor

namespace Go.Proofs.YtlkgkkacnoaeaaaGreatDoor
noncomputable def x_Itoa (n : Int) : Option ByteArray := chk (-9223372036854775808 ≤ n ∧ n ≤ 9223372036854775807) (some (ofL (Lib.itoa n)))
def x_Compare (a b : ByteArray) : Option Int := some (Lib.compareBytes (toL a) (toL b))
/-- the number, or 0; whether there is no error -/
def x_Atoi (s : ByteArray) : Option (Int × Bool) := chk (s.size ≤ 18) (some (match Lib.atoi (toL s) with | some n => (n, true) | none => (0, false)))
end Go.Proofs.YtlkgkkacnoaeaaaGreatDoor

namespace Go.Proofs.YtlkgkkacnoaeaaaGreatDoor
set_option linter.unusedVariables false
noncomputable def s_FindRule (l_0 : (List RuleD)) (name_1 : ByteArray) : Option Int :=
  forL (σ := Unit)
    (fun (i4 : Nat) (x5 : RuleD) _ =>
      if (sEq x5.name name_1) = true then
        some (.inr ((i4 : Nat) : Int))
      else
        some (.inl ()))
    (fun _ =>
      some (-1))
    l_0 0 ()
noncomputable def s_l1In (x_0 : Int) (least_1 : Int) (most_2 : Int) : Option Bool :=
  if (decide (least_1 ≤ x_0)) = true then
    some (decide (x_0 ≤ most_2))
  else
    some false
noncomputable def s_IsAtom (s_0 : ByteArray) : Option Bool :=
  forL (σ := Unit)
    (fun (i9 : Nat) (x10 : UInt8) _ =>
      (s_l1In (IntKind.i64.wrap ((x10.toNat : Nat) : Int)) 97 122).bind fun v11 =>
      if v11 = true then
        some (.inl ())
      else
        (s_l1In (IntKind.i64.wrap ((x10.toNat : Nat) : Int)) 48 57).bind fun v12 =>
        if v12 = true then
          some (.inl ())
        else
          some (.inr false))
    (fun _ =>
      (s_l1In ((s_0.size : Nat) : Int) 1 8).bind fun v13 =>
      some v13)
    s_0.data.toList 0 ()
noncomputable def s_IsName (s_0 : ByteArray) : Option Bool :=
  (s_IsAtom s_0).bind fun v1 =>
  if v1 = true then
    (sAt s_0 0).bind fun b2 =>
    (s_l1In (IntKind.i64.wrap ((b2.toNat : Nat) : Int)) 97 122).bind fun v3 =>
    some v3
  else
    some false
noncomputable def s_IsVar (s_0 : ByteArray) : Option Bool :=
  if (decide (1 < ((s_0.size : Nat) : Int))) = true then
    (sAt s_0 0).bind fun b1 =>
    if (((b1.toNat : Nat) : Int) == 63) = true then
      chk (0 ≤ 1 ∧ 1 ≤ ((s_0.size : Nat) : Int)) <|
      (s_IsAtom (s_0.extract (Int.toNat 1) s_0.size)).bind fun v2 =>
      some v2
    else
      some false
  else
    some false
noncomputable def s_l1Put (l_0 : (List ByteArray)) (s_1 : ByteArray) : Option (List ByteArray) :=
  forL (σ := (List ByteArray) × Bool)
    (fun (i8 : Nat) (x9 : ByteArray) s =>
      match s with
      | (row_2, done_5) =>
      if done_5 = true then
        chk (row_2.length + 1 ≤ 1073741824) <|
        some (.inl ((row_2 ++ [x9]), true))
      else
        if (sLt x9 s_1) = true then
          chk (row_2.length + 1 ≤ 1073741824) <|
          some (.inl ((row_2 ++ [x9]), false))
        else
          if (sEq x9 s_1) = true then
            chk (row_2.length + 1 ≤ 1073741824) <|
            some (.inl ((row_2 ++ [x9]), true))
          else
            chk (row_2.length + 1 ≤ 1073741824) <|
            chk (row_2.length + 1 + 1 ≤ 1073741824) <|
            some (.inl (((row_2 ++ [s_1]) ++ [x9]), true)))
    (fun s =>
      match s with
      | (row_2, done_5) =>
      if done_5 = true then
        some row_2
      else
        chk (row_2.length + 1 ≤ 1073741824) <|
        some (row_2 ++ [s_1]))
    l_0 0 ([], false)
noncomputable def s_VarsOf (p_0 : PatternD) : Option (List ByteArray) :=
  forL (σ := (List ByteArray))
    (fun (i9 : Nat) (x10 : ByteArray) row_4 =>
      (s_IsVar x10).bind fun v11 =>
      if v11 = true then
        (s_l1Put row_4 x10).bind fun v12 =>
        some (.inl v12)
      else
        some (.inl row_4))
    (fun row_4 =>
      some row_4)
    p_0.args 0 []
noncomputable def s_BoundVars (r_0 : RuleD) (n_1 : Int) : Option (List ByteArray) :=
  forL (σ := (List ByteArray))
    (fun (i25 : Nat) (x26 : CondD) row_12 =>
      if (decide (((i25 : Nat) : Int) < n_1)) = true then
        if (x26.kind == 1) = true then
          (s_VarsOf x26.pattern).bind fun v27 =>
          forL (σ := (List ByteArray))
            (fun (i34 : Nat) (x35 : ByteArray) row_30 =>
              (s_l1Put row_30 x35).bind fun v36 =>
              some (.inl v36))
            (fun row_30 =>
              some (.inl row_30))
            v27 0 row_12
        else
          some (.inl row_12)
      else
        some (.inr row_12))
    (fun row_12 =>
      some row_12)
    r_0.cond 0 []
noncomputable def s_IsTerm (s_0 : ByteArray) : Option Bool :=
  (s_IsAtom s_0).bind fun v1 =>
  if v1 = true then
    some true
  else
    (s_IsVar s_0).bind fun v2 =>
    some v2
noncomputable def s_IsPattern (p_0 : PatternD) : Option Bool :=
  forL (σ := Unit)
    (fun (i7 : Nat) (x8 : ByteArray) _ =>
      (s_IsTerm x8).bind fun v9 =>
      if v9 = true then
        some (.inl ())
      else
        some (.inr false))
    (fun _ =>
      (s_IsName p_0.rel).bind fun v10 =>
      if v10 = true then
        some (decide (((p_0.args.length : Nat) : Int) ≤ 3))
      else
        some false)
    p_0.args 0 ()
noncomputable def s_IsCond (x_0 : CondD) : Option Bool :=
  if (x_0.kind == 1) = true then
    (s_IsPattern x_0.pattern).bind fun v1 =>
    if v1 = true then
      if (sEq x_0.left ⟨#[]⟩) = true then
        some (sEq x_0.right ⟨#[]⟩)
      else
        some false
    else
      some false
  else
    if (x_0.kind == 2) = true then
      (s_IsPattern x_0.pattern).bind fun v2 =>
      if v2 = true then
        if (sEq x_0.left ⟨#[]⟩) = true then
          some (sEq x_0.right ⟨#[]⟩)
        else
          some false
      else
        some false
    else
      if (x_0.kind == 3) = true then
        if (sEq x_0.pattern.rel ⟨#[]⟩) = true then
          if (((x_0.pattern.args.length : Nat) : Int) == 0) = true then
            (s_IsTerm x_0.left).bind fun v3 =>
            if v3 = true then
              (s_IsTerm x_0.right).bind fun v4 =>
              some v4
            else
              some false
          else
            some false
        else
          some false
      else
        if (x_0.kind == 4) = true then
          if (sEq x_0.pattern.rel ⟨#[]⟩) = true then
            if (((x_0.pattern.args.length : Nat) : Int) == 0) = true then
              (s_IsTerm x_0.left).bind fun v5 =>
              if v5 = true then
                (s_IsTerm x_0.right).bind fun v6 =>
                some v6
              else
                some false
            else
              some false
          else
            some false
        else
          if (x_0.kind == 5) = true then
            if (sEq x_0.pattern.rel ⟨#[]⟩) = true then
              if (((x_0.pattern.args.length : Nat) : Int) == 0) = true then
                (s_IsTerm x_0.left).bind fun v7 =>
                if v7 = true then
                  (s_IsTerm x_0.right).bind fun v8 =>
                  some v8
                else
                  some false
              else
                some false
            else
              some false
          else
            some false
noncomputable def s_CondVars (x_0 : CondD) : Option (List ByteArray) :=
  (s_VarsOf x_0.pattern).bind fun v1 =>
  (s_IsVar x_0.left).bind fun v2 =>
  if v2 = true then
    (s_l1Put v1 x_0.left).bind fun v3 =>
    (s_IsVar x_0.right).bind fun v4 =>
    if v4 = true then
      (s_l1Put v3 x_0.right).bind fun v5 =>
      some v5
    else
      some v3
  else
    (s_IsVar x_0.right).bind fun v6 =>
    if v6 = true then
      (s_l1Put v1 x_0.right).bind fun v7 =>
      some v7
    else
      some v1
noncomputable def s_l1HasText (l_0 : (List ByteArray)) (s_1 : ByteArray) : Option Bool :=
  forL (σ := Unit)
    (fun (i4 : Nat) (x5 : ByteArray) _ =>
      if (sEq x5 s_1) = true then
        some (.inr true)
      else
        some (.inl ()))
    (fun _ =>
      some false)
    l_0 0 ()
noncomputable def s_IsTest (x_0 : CondD) : Option Bool :=
  (s_IsCond x_0).bind fun v1 =>
  if v1 = true then
    some (decide (3 ≤ x_0.kind))
  else
    some false
noncomputable def s_l5Elsewhere (r_0 : RuleD) (i_1 : Int) (v_2 : ByteArray) : Option Bool :=
  forL (σ := Unit)
    (fun (i19 : Nat) (x20 : CondD) _ =>
      if (((i19 : Nat) : Int) != i_1) = true then
        (s_CondVars x20).bind fun v21 =>
        (s_l1HasText v21 v_2).bind fun v22 =>
        if v22 = true then
          some (.inr true)
        else
          some (.inl ())
      else
        some (.inl ()))
    (fun _ =>
      forL (σ := Unit)
        (fun (i30 : Nat) (x31 : ActionD) _ =>
          (s_VarsOf x31.pattern).bind fun v32 =>
          (s_l1HasText v32 v_2).bind fun v33 =>
          if v33 = true then
            some (.inr true)
          else
            some (.inl ()))
        (fun _ =>
          some false)
        r_0.thn 0 ())
    r_0.cond 0 ()
noncomputable def s_IsAction (a_0 : ActionD) : Option Bool :=
  if (a_0.kind == 1) = true then
    (s_IsPattern a_0.pattern).bind fun v1 =>
    some v1
  else
    if (a_0.kind == 2) = true then
      (s_IsPattern a_0.pattern).bind fun v2 =>
      some v2
    else
      if (a_0.kind == 3) = true then
        if (sEq a_0.pattern.rel ⟨#[]⟩) = true then
          some (((a_0.pattern.args.length : Nat) : Int) == 0)
        else
          some false
      else
        some false
noncomputable def s_RuleVars (r_0 : RuleD) : Option (List ByteArray) :=
  forL (σ := (List ByteArray))
    (fun (i61 : Nat) (x62 : CondD) row_12 =>
      (s_CondVars x62).bind fun v63 =>
      forL (σ := (List ByteArray))
        (fun (i70 : Nat) (x71 : ByteArray) row_66 =>
          (s_l1Put row_66 x71).bind fun v72 =>
          some (.inl v72))
        (fun row_66 =>
          some (.inl row_66))
        v63 0 row_12)
    (fun row_12 =>
      forL (σ := (List ByteArray))
        (fun (i97 : Nat) (x98 : ActionD) row_84 =>
          (s_VarsOf x98.pattern).bind fun v99 =>
          forL (σ := (List ByteArray))
            (fun (i106 : Nat) (x107 : ByteArray) row_102 =>
              (s_l1Put row_102 x107).bind fun v108 =>
              some (.inl v108))
            (fun row_102 =>
              some (.inl row_102))
            v99 0 row_84)
        (fun row_84 =>
          some row_84)
        r_0.thn 0 row_12)
    r_0.cond 0 []
noncomputable def s_IsRule (append_0 : RuleD) : Option Bool :=
  (s_IsName append_0.name).bind fun v1 =>
  if v1 = true then
    (s_l1In append_0.priority 0 9).bind fun v2 =>
    if v2 = true then
      (s_l1In ((append_0.cond.length : Nat) : Int) 1 4).bind fun v3 =>
      if v3 = true then
        (s_l1In ((append_0.thn.length : Nat) : Int) 1 2).bind fun v4 =>
        if v4 = true then
          (s_BoundVars append_0 ((append_0.cond.length : Nat) : Int)).bind fun v5 =>
          forL (σ := Unit)
            (fun (i96 : Nat) (x97 : CondD) _ =>
              (s_IsCond x97).bind fun v98 =>
              if v98 = true then
                if (((i96 : Nat) : Int) == 0) = true then
                  if (x97.kind != 1) = true then
                    some (.inr false)
                  else
                    (s_BoundVars append_0 ((i96 : Nat) : Int)).bind fun v99 =>
                    (s_CondVars x97).bind fun v100 =>
                    forL (σ := Unit)
                      (fun (i110 : Nat) (x111 : ByteArray) _ =>
                        (s_l1HasText v99 x111).bind fun v112 =>
                        (s_IsTest x97).bind fun v113 =>
                        if v113 = true then
                          if v112 = true then
                            if (x97.kind == 2) = true then
                              some (.inl ())
                            else
                              some (.inl ())
                          else
                            some (.inr (.inr false))
                        else
                          if (x97.kind == 2) = true then
                            if v112 = true then
                              some (.inl ())
                            else
                              (s_l5Elsewhere append_0 ((i96 : Nat) : Int) x111).bind fun v114 =>
                              if v114 = true then
                                some (.inr (.inr false))
                              else
                                some (.inl ())
                          else
                            some (.inl ()))
                      (fun _ =>
                        some (.inl ()))
                      v100 0 ()
                else
                  (s_BoundVars append_0 ((i96 : Nat) : Int)).bind fun v115 =>
                  (s_CondVars x97).bind fun v116 =>
                  forL (σ := Unit)
                    (fun (i126 : Nat) (x127 : ByteArray) _ =>
                      (s_l1HasText v115 x127).bind fun v128 =>
                      (s_IsTest x97).bind fun v129 =>
                      if v129 = true then
                        if v128 = true then
                          if (x97.kind == 2) = true then
                            some (.inl ())
                          else
                            some (.inl ())
                        else
                          some (.inr (.inr false))
                      else
                        if (x97.kind == 2) = true then
                          if v128 = true then
                            some (.inl ())
                          else
                            (s_l5Elsewhere append_0 ((i96 : Nat) : Int) x127).bind fun v130 =>
                            if v130 = true then
                              some (.inr (.inr false))
                            else
                              some (.inl ())
                        else
                          some (.inl ()))
                    (fun _ =>
                      some (.inl ()))
                    v116 0 ()
              else
                some (.inr false))
            (fun _ =>
              forL (σ := Unit)
                (fun (i155 : Nat) (x156 : ActionD) _ =>
                  (s_IsAction x156).bind fun v157 =>
                  if v157 = true then
                    (s_VarsOf x156.pattern).bind fun v158 =>
                    forL (σ := Unit)
                      (fun (i164 : Nat) (x165 : ByteArray) _ =>
                        (s_l1HasText v5 x165).bind fun v166 =>
                        if v166 = true then
                          some (.inl ())
                        else
                          some (.inr (.inr false)))
                      (fun _ =>
                        some (.inl ()))
                      v158 0 ()
                  else
                    some (.inr false))
                (fun _ =>
                  (s_RuleVars append_0).bind fun v167 =>
                  some (decide (((v167.length : Nat) : Int) ≤ 6)))
                append_0.thn 0 ())
            append_0.cond 0 ()
        else
          some false
      else
        some false
    else
      some false
  else
    some false
noncomputable def s_AreRules (l_0 : (List RuleD)) : Option Bool :=
  forL (σ := Unit)
    (fun (i8 : Nat) (x9 : RuleD) _ =>
      (s_IsRule x9).bind fun v10 =>
      if v10 = true then
        (s_FindRule l_0 x9.name).bind fun v11 =>
        if (v11 != ((i8 : Nat) : Int)) = true then
          some (.inr false)
        else
          some (.inl ())
      else
        some (.inr false))
    (fun _ =>
      some (decide (((l_0.length : Nat) : Int) ≤ 6)))
    l_0 0 ()
noncomputable def s_IsFact (f_0 : FactD) : Option Bool :=
  forL (σ := Unit)
    (fun (i7 : Nat) (x8 : ByteArray) _ =>
      (s_IsAtom x8).bind fun v9 =>
      if v9 = true then
        some (.inl ())
      else
        some (.inr false))
    (fun _ =>
      (s_IsName f_0.rel).bind fun v10 =>
      if v10 = true then
        some (decide (((f_0.args.length : Nat) : Int) ≤ 3))
      else
        some false)
    f_0.args 0 ()
noncomputable def s_l1Cmp (a_0 : ByteArray) (b_1 : ByteArray) : Option Int :=
  if (sLt a_0 b_1) = true then
    some (-1)
  else
    if (sLt a_0 b_1 || sEq a_0 b_1) = true then
      some 0
    else
      some 1
noncomputable def s_FormatInt_0 (n_0 : Int) : Option ByteArray :=
  if (n_0 == (-9223372036854775808)) = true then
    some (⟨#[45, 57, 50, 50, 51, 51, 55, 50, 48, 51, 54, 56, 53, 52, 55, 55, 53, 56, 48, 56]⟩)
  else
    if (decide (n_0 < 0)) = true then
      none
    else
      iter (σ := Int × ByteArray)
        (fun s =>
          match s with
          | (n_1, s_2) =>
          chk ((bytesS [(IntKind.u8.wrap (IntKind.i64.wrap (48 + (Int.tmod n_1 10))))]).size + s_2.size ≤ 9223372036854775807) <|
          if ((IntKind.i64.wrap (Int.tdiv n_1 10)) == 0) = true then
            some (.inr ((bytesS [(IntKind.u8.wrap (IntKind.i64.wrap (48 + (Int.tmod n_1 10))))]) ++ s_2))
          else
            some (.inl ((IntKind.i64.wrap (Int.tdiv n_1 10)), ((bytesS [(IntKind.u8.wrap (IntKind.i64.wrap (48 + (Int.tmod n_1 10))))]) ++ s_2))))
        (n_0, ⟨#[]⟩)
noncomputable def s_FormatInt (n_0 : Int) : Option ByteArray :=
  if (n_0 == (-9223372036854775808)) = true then
    some (⟨#[45, 57, 50, 50, 51, 51, 55, 50, 48, 51, 54, 56, 53, 52, 55, 55, 53, 56, 48, 56]⟩)
  else
    if (decide (n_0 < 0)) = true then
      (s_FormatInt_0 (IntKind.i64.wrap (0 - n_0))).bind fun v1 =>
      chk ((⟨#[45]⟩ : ByteArray).size + v1.size ≤ 9223372036854775807) <|
      some ((⟨#[45]⟩ : ByteArray) ++ v1)
    else
      iter (σ := Int × ByteArray)
        (fun s =>
          match s with
          | (n_2, s_3) =>
          chk ((bytesS [(IntKind.u8.wrap (IntKind.i64.wrap (48 + (Int.tmod n_2 10))))]).size + s_3.size ≤ 9223372036854775807) <|
          if ((IntKind.i64.wrap (Int.tdiv n_2 10)) == 0) = true then
            some (.inr ((bytesS [(IntKind.u8.wrap (IntKind.i64.wrap (48 + (Int.tmod n_2 10))))]) ++ s_3))
          else
            some (.inl ((IntKind.i64.wrap (Int.tdiv n_2 10)), ((bytesS [(IntKind.u8.wrap (IntKind.i64.wrap (48 + (Int.tmod n_2 10))))]) ++ s_3))))
        (n_0, ⟨#[]⟩)
noncomputable def s_ParseInt (s_0 : ByteArray) : Option (Int × Bool) :=
  (s_l1In ((s_0.size : Nat) : Int) 1 4).bind fun v1 =>
  if v1 = true then
    forL (σ := Int)
      (fun (i7 : Nat) (x8 : UInt8) n_3 =>
        if (decide (((x8.toNat : Nat) : Int) < 48)) = true then
          some (.inr (0, false))
        else
          if (decide (57 < ((x8.toNat : Nat) : Int))) = true then
            some (.inr (0, false))
          else
            some (.inl (IntKind.i64.wrap ((IntKind.i64.wrap (10 * n_3)) + IntKind.i64.wrap (IntKind.u8.wrap (((x8.toNat : Nat) : Int) - 48))))))
      (fun n_3 =>
        (s_FormatInt n_3).bind fun v9 =>
        if (sEq v9 s_0) = true then
          some (n_3, true)
        else
          some (0, false))
      s_0.data.toList 0 0
  else
    some (0, false)
noncomputable def s_CompareAtoms (a_0 : ByteArray) (b_1 : ByteArray) : Option Int :=
  (s_ParseInt a_0).bind fun v1 =>
  (s_ParseInt b_1).bind fun v2 =>
  if v1.2 = true then
    if v2.2 = true then
      if (decide (v1.1 < v2.1)) = true then
        some (-1)
      else
        if (decide (v2.1 < v1.1)) = true then
          some 1
        else
          some 0
    else
      some (-1)
  else
    if v2.2 = true then
      some 1
    else
      (s_l1Cmp a_0 b_1).bind fun v3 =>
      some v3
noncomputable def s_CompareFacts (a_0 : FactD) (b_1 : FactD) : Option Int :=
  if (sEq a_0.rel b_1.rel) = true then
    forL (σ := Unit)
      (fun (i8 : Nat) (x9 : ByteArray) _ =>
        if (decide (((i8 : Nat) : Int) < ((b_1.args.length : Nat) : Int))) = true then
          (atI b_1.args ((i8 : Nat) : Int)).bind fun x10 =>
          (s_CompareAtoms x9 x10).bind fun v11 =>
          if (v11 != 0) = true then
            some (.inr v11)
          else
            some (.inl ())
        else
          if (decide (((a_0.args.length : Nat) : Int) < ((b_1.args.length : Nat) : Int))) = true then
            some (.inr (-1))
          else
            if (decide (((b_1.args.length : Nat) : Int) < ((a_0.args.length : Nat) : Int))) = true then
              some (.inr 1)
            else
              some (.inr 0))
      (fun _ =>
        if (decide (((a_0.args.length : Nat) : Int) < ((b_1.args.length : Nat) : Int))) = true then
          some (-1)
        else
          if (decide (((b_1.args.length : Nat) : Int) < ((a_0.args.length : Nat) : Int))) = true then
            some 1
          else
            some 0)
      a_0.args 0 ()
  else
    (s_l1Cmp a_0.rel b_1.rel).bind fun v12 =>
    some v12
noncomputable def s_AreFacts (l_0 : (List FactD)) : Option Bool :=
  forL (σ := Unit)
    (fun (i8 : Nat) (x9 : FactD) _ =>
      (s_IsFact x9).bind fun v10 =>
      if v10 = true then
        if (decide (0 < ((i8 : Nat) : Int))) = true then
          (atI l_0 (IntKind.i64.wrap (((i8 : Nat) : Int) - 1))).bind fun x11 =>
          (s_CompareFacts x11 x9).bind fun v12 =>
          if (decide (0 ≤ v12)) = true then
            some (.inr false)
          else
            some (.inl ())
        else
          some (.inl ())
      else
        some (.inr false))
    (fun _ =>
      some (decide (((l_0.length : Nat) : Int) ≤ 24)))
    l_0 0 ()
noncomputable def s_l1Texts (l_0 : (List ByteArray)) : Option (List ByteArray) :=
  chk (l_0.length ≤ 1073741824) <|
  some l_0
noncomputable def s_l2Copy (f_0 : FactD) : Option FactD :=
  (s_l1Texts f_0.args).bind fun v1 =>
  some ({ rel := f_0.rel, args := v1 } : FactD)
noncomputable def s_l2Copies (l_0 : (List FactD)) : Option (List FactD) :=
  forL (σ := (List FactD))
    (fun (i7 : Nat) (x8 : FactD) row_3 =>
      (s_l2Copy x8).bind fun v9 =>
      chk (row_3.length + 1 ≤ 1073741824) <|
      some (.inl (row_3 ++ [v9])))
    (fun row_3 =>
      some row_3)
    l_0 0 []
noncomputable def s_IsBinding (b_0 : (List PairD)) : Option Bool :=
  forL (σ := Unit)
    (fun (i9 : Nat) (x10 : PairD) _ =>
      (s_IsVar x10.var).bind fun v11 =>
      if v11 = true then
        (s_IsAtom x10.value).bind fun v12 =>
        if v12 = true then
          if (decide (0 < ((i9 : Nat) : Int))) = true then
            (atI b_0 (IntKind.i64.wrap (((i9 : Nat) : Int) - 1))).bind fun x13 =>
            if (sLt x13.var x10.var) = true then
              some (.inl ())
            else
              some (.inr false)
          else
            some (.inl ())
        else
          some (.inr false)
      else
        some (.inr false))
    (fun _ =>
      some (decide (((b_0.length : Nat) : Int) ≤ 6)))
    b_0 0 ()
noncomputable def s_l3Copy (b_0 : (List PairD)) : Option (List PairD) :=
  chk (b_0.length ≤ 1073741824) <|
  some b_0
noncomputable def s_ValueOf (b_0 : (List PairD)) (term_1 : ByteArray) : Option (ByteArray × Bool) :=
  (s_IsAtom term_1).bind fun v1 =>
  if v1 = true then
    some (term_1, true)
  else
    forL (σ := Unit)
      (fun (i7 : Nat) (x8 : PairD) _ =>
        if (sEq x8.var term_1) = true then
          (s_IsVar term_1).bind fun v9 =>
          if v9 = true then
            some (.inr (x8.value, true))
          else
            some (.inl ())
        else
          some (.inl ()))
      (fun _ =>
        some ((⟨#[]⟩), false))
      b_0 0 ()
noncomputable def s_l3Set (b_0 : (List PairD)) (v_1 : ByteArray) (value_2 : ByteArray) : Option (List PairD) :=
  forL (σ := (List PairD) × Bool)
    (fun (i8 : Nat) (x9 : PairD) s =>
      match s with
      | (row_2, done_5) =>
      if done_5 = true then
        chk (row_2.length + 1 ≤ 1073741824) <|
        some (.inl ((row_2 ++ [x9]), true))
      else
        if (sLt x9.var v_1 || sEq x9.var v_1) = true then
          chk (row_2.length + 1 ≤ 1073741824) <|
          some (.inl ((row_2 ++ [x9]), false))
        else
          chk (row_2.length + 1 ≤ 1073741824) <|
          chk (row_2.length + 1 + 1 ≤ 1073741824) <|
          some (.inl (((row_2 ++ [({ var := v_1, value := value_2 } : PairD)]) ++ [x9]), true)))
    (fun s =>
      match s with
      | (row_2, done_5) =>
      if done_5 = true then
        some row_2
      else
        chk (row_2.length + 1 ≤ 1073741824) <|
        some (row_2 ++ [({ var := v_1, value := value_2 } : PairD)]))
    b_0 0 ([], false)
noncomputable def s_Extend (b_0 : (List PairD)) (v_1 : ByteArray) (value_2 : ByteArray) : Option ((List PairD) × Bool) :=
  (s_IsBinding b_0).bind fun v1 =>
  if v1 = true then
    (s_IsVar v_1).bind fun v2 =>
    if v2 = true then
      (s_IsAtom value_2).bind fun v3 =>
      if v3 = true then
        (s_ValueOf b_0 v_1).bind fun v4 =>
        if v4.2 = true then
          if (sEq v4.1 value_2) = true then
            (s_l3Copy b_0).bind fun v5 =>
            some (v5, true)
          else
            some ([], false)
        else
          if (((b_0.length : Nat) : Int) == 6) = true then
            some ([], false)
          else
            (s_l3Set b_0 v_1 value_2).bind fun v6 =>
            some (v6, true)
      else
        some ([], false)
    else
      some ([], false)
  else
    some ([], false)
noncomputable def s_MatchFact (append_0 : PatternD) (String_1 : FactD) (a_2 : (List PairD)) : Option ((List PairD) × Bool) :=
  (s_IsPattern append_0).bind fun v1 =>
  if v1 = true then
    (s_IsFact String_1).bind fun v2 =>
    if v2 = true then
      (s_IsBinding a_2).bind fun v3 =>
      if v3 = true then
        if (sEq append_0.rel String_1.rel) = true then
          if (((append_0.args.length : Nat) : Int) != ((String_1.args.length : Nat) : Int)) = true then
            some ([], false)
          else
            (s_l3Copy a_2).bind fun v4 =>
            forL (σ := (List PairD))
              (fun (i22 : Nat) (x23 : ByteArray) row_16 =>
                (s_IsAtom x23).bind fun v24 =>
                if v24 = true then
                  (atI String_1.args ((i22 : Nat) : Int)).bind fun x25 =>
                  if (sEq x23 x25) = true then
                    some (.inl row_16)
                  else
                    some (.inr ([], false))
                else
                  (atI String_1.args ((i22 : Nat) : Int)).bind fun x26 =>
                  (s_Extend row_16 x23 x26).bind fun v27 =>
                  if v27.2 = true then
                    some (.inl v27.1)
                  else
                    some (.inr ([], false)))
              (fun row_16 =>
                some (row_16, true))
              append_0.args 0 v4
        else
          some ([], false)
      else
        some ([], false)
    else
      some ([], false)
  else
    some ([], false)
noncomputable def s_MatchingFacts (p_0 : PatternD) (b_1 : (List PairD)) (facts_2 : (List FactD)) : Option (List FactD) :=
  forL (σ := (List FactD))
    (fun (i9 : Nat) (x10 : FactD) row_4 =>
      (s_MatchFact p_0 x10 b_1).bind fun v11 =>
      if v11.2 = true then
        (s_l2Copy x10).bind fun v12 =>
        chk (row_4.length + 1 ≤ 1073741824) <|
        some (.inl (row_4 ++ [v12]))
      else
        some (.inl row_4))
    (fun row_4 =>
      some row_4)
    facts_2 0 []
noncomputable def s_IsNumber (s_0 : ByteArray) : Option Bool :=
  (s_ParseInt s_0).bind fun v1 =>
  some v1.2
noncomputable def s_HoldsTest (x_0 : CondD) (b_1 : (List PairD)) : Option Bool :=
  (s_IsTest x_0).bind fun v1 =>
  if v1 = true then
    (s_IsBinding b_1).bind fun v2 =>
    if v2 = true then
      (s_ValueOf b_1 x_0.left).bind fun v3 =>
      (s_ValueOf b_1 x_0.right).bind fun v4 =>
      if v3.2 = true then
        if v4.2 = true then
          if (x_0.kind == 3) = true then
            some (sEq v3.1 v4.1)
          else
            if (x_0.kind == 4) = true then
              some (!(sEq v3.1 v4.1))
            else
              (s_IsNumber v3.1).bind fun v5 =>
              if v5 = true then
                (s_IsNumber v4.1).bind fun v6 =>
                if v6 = true then
                  (s_CompareAtoms v3.1 v4.1).bind fun v7 =>
                  some (decide (v7 < 0))
                else
                  some false
              else
                some false
        else
          some false
      else
        some false
    else
      some false
  else
    some false
noncomputable def s_HoldsCond (x_0 : CondD) (b_1 : (List PairD)) (facts_2 : (List FactD)) : Option Bool :=
  (s_IsCond x_0).bind fun v1 =>
  if v1 = true then
    (s_IsBinding b_1).bind fun v2 =>
    if v2 = true then
      if (x_0.kind == 1) = true then
        (s_MatchingFacts x_0.pattern b_1 facts_2).bind fun v3 =>
        some (decide (0 < ((v3.length : Nat) : Int)))
      else
        if (x_0.kind == 2) = true then
          (s_MatchingFacts x_0.pattern b_1 facts_2).bind fun v4 =>
          some (((v4.length : Nat) : Int) == 0)
        else
          (s_HoldsTest x_0 b_1).bind fun v5 =>
          some v5
    else
      some false
  else
    some false
noncomputable def s_l6Copy (t_0 : TokenD) : Option TokenD :=
  (s_l2Copies t_0.facts).bind fun v1 =>
  (s_l3Copy t_0.binding).bind fun v2 =>
  some ({ facts := v1, binding := v2 } : TokenD)
noncomputable def s_l6Next (append_0 : (List TokenD)) (String_1 : CondD) (a_2 : (List FactD)) : Option (List TokenD) :=
  forL (σ := (List TokenD))
    (fun (i45 : Nat) (x46 : TokenD) row_22 =>
      if (String_1.kind != 1) = true then
        (s_HoldsCond String_1 x46.binding a_2).bind fun v47 =>
        if v47 = true then
          (s_l6Copy x46).bind fun v48 =>
          chk (row_22.length + 1 ≤ 1073741824) <|
          some (.inl (row_22 ++ [v48]))
        else
          some (.inl row_22)
      else
        forL (σ := (List TokenD))
          (fun (i59 : Nat) (x60 : FactD) row_53 =>
            (s_MatchFact String_1.pattern x60 x46.binding).bind fun v61 =>
            if v61.2 = true then
              (s_l2Copies x46.facts).bind fun v62 =>
              (s_l2Copy x60).bind fun v63 =>
              chk (v62.length + 1 ≤ 1073741824) <|
              chk (row_53.length + 1 ≤ 1073741824) <|
              some (.inl (row_53 ++ [({ facts := (v62 ++ [v63]), binding := v61.1 } : TokenD)]))
            else
              some (.inl row_53))
          (fun row_53 =>
            some (.inl row_53))
          a_2 0 row_22)
    (fun row_22 =>
      some row_22)
    append_0 0 []
noncomputable def s_l6Tokens (l_0 : (List CondD)) (facts_1 : (List FactD)) : Option (List TokenD) :=
  forL (σ := (List TokenD))
    (fun (i7 : Nat) (x8 : CondD) row_3 =>
      (s_l6Next row_3 x8 facts_1).bind fun v9 =>
      some (.inl v9))
    (fun row_3 =>
      some row_3)
    l_0 0 ([({ facts := [], binding := [] } : TokenD)])
noncomputable def s_Instance (p_0 : PatternD) (b_1 : (List PairD)) : Option (FactD × Bool) :=
  (s_IsPattern p_0).bind fun v1 =>
  if v1 = true then
    (s_IsBinding b_1).bind fun v2 =>
    if v2 = true then
      forL (σ := (List ByteArray))
        (fun (i11 : Nat) (x12 : ByteArray) row_7 =>
          (s_ValueOf b_1 x12).bind fun v13 =>
          if v13.2 = true then
            chk (row_7.length + 1 ≤ 1073741824) <|
            some (.inl (row_7 ++ [v13.1]))
          else
            some (.inr (({ rel := (⟨#[]⟩), args := [] } : FactD), false)))
        (fun row_7 =>
          some (({ rel := p_0.rel, args := row_7 } : FactD), true))
        p_0.args 0 []
    else
      some (({ rel := (⟨#[]⟩), args := [] } : FactD), false)
  else
    some (({ rel := (⟨#[]⟩), args := [] } : FactD), false)
noncomputable def i_IsAtom (s_0 : ByteArray) : Option Bool :=
  if (decide (((s_0.size : Nat) : Int) < 1)) = true then
    some false
  else
    if (decide (8 < ((s_0.size : Nat) : Int))) = true then
      some false
    else
      forL (σ := Unit)
        (fun (i4 : Nat) (x5 : UInt8) _ =>
          if (decide (((x5.toNat : Nat) : Int) < 97)) = true then
            if (decide (((x5.toNat : Nat) : Int) < 48)) = true then
              some (.inr false)
            else
              if (decide (57 < ((x5.toNat : Nat) : Int))) = true then
                some (.inr false)
              else
                some (.inl ())
          else
            if (decide (122 < ((x5.toNat : Nat) : Int))) = true then
              if (decide (((x5.toNat : Nat) : Int) < 48)) = true then
                some (.inr false)
              else
                if (decide (57 < ((x5.toNat : Nat) : Int))) = true then
                  some (.inr false)
                else
                  some (.inl ())
            else
              some (.inl ()))
        (fun _ =>
          some true)
        s_0.data.toList 0 ()
noncomputable def i_IsName (s_0 : ByteArray) : Option Bool :=
  (i_IsAtom s_0).bind fun v1 =>
  if v1 = true then
    (sAt s_0 0).bind fun b2 =>
    some (decide (97 ≤ ((b2.toNat : Nat) : Int)))
  else
    some false
noncomputable def i_IsVar (s_0 : ByteArray) : Option Bool :=
  if (decide (1 < ((s_0.size : Nat) : Int))) = true then
    (sAt s_0 0).bind fun b1 =>
    if (((b1.toNat : Nat) : Int) == 63) = true then
      chk (0 ≤ 1 ∧ 1 ≤ ((s_0.size : Nat) : Int)) <|
      (i_IsAtom (s_0.extract (Int.toNat 1) s_0.size)).bind fun v2 =>
      some v2
    else
      some false
  else
    some false
noncomputable def i_IsTerm (s_0 : ByteArray) : Option Bool :=
  (i_IsAtom s_0).bind fun v1 =>
  if v1 = true then
    some true
  else
    (i_IsVar s_0).bind fun v2 =>
    some v2
noncomputable def i_IsPattern (p_0 : PatternD) : Option Bool :=
  (i_IsName p_0.rel).bind fun v1 =>
  if v1 = true then
    if (decide (3 < ((p_0.args.length : Nat) : Int))) = true then
      some false
    else
      forL (σ := Unit)
        (fun (i7 : Nat) (x8 : ByteArray) _ =>
          (i_IsTerm x8).bind fun v9 =>
          if v9 = true then
            some (.inl ())
          else
            some (.inr false))
        (fun _ =>
          some true)
        p_0.args 0 ()
  else
    some false
noncomputable def i_zeroPattern (p_0 : PatternD) : Option Bool :=
  if (sEq p_0.rel ⟨#[]⟩) = true then
    some (((p_0.args.length : Nat) : Int) == 0)
  else
    some false
noncomputable def i_IsCond (x_0 : CondD) : Option Bool :=
  if (x_0.kind == 1) = true then
    (i_IsPattern x_0.pattern).bind fun v1 =>
    if v1 = true then
      if (sEq x_0.left ⟨#[]⟩) = true then
        some (sEq x_0.right ⟨#[]⟩)
      else
        some false
    else
      some false
  else
    if (x_0.kind == 2) = true then
      (i_IsPattern x_0.pattern).bind fun v2 =>
      if v2 = true then
        if (sEq x_0.left ⟨#[]⟩) = true then
          some (sEq x_0.right ⟨#[]⟩)
        else
          some false
      else
        some false
    else
      if (x_0.kind == 3) = true then
        (i_IsTerm x_0.left).bind fun v3 =>
        if v3 = true then
          (i_IsTerm x_0.right).bind fun v4 =>
          if v4 = true then
            (i_zeroPattern x_0.pattern).bind fun v5 =>
            some v5
          else
            some false
        else
          some false
      else
        if (x_0.kind == 4) = true then
          (i_IsTerm x_0.left).bind fun v6 =>
          if v6 = true then
            (i_IsTerm x_0.right).bind fun v7 =>
            if v7 = true then
              (i_zeroPattern x_0.pattern).bind fun v8 =>
              some v8
            else
              some false
          else
            some false
        else
          if (x_0.kind == 5) = true then
            (i_IsTerm x_0.left).bind fun v9 =>
            if v9 = true then
              (i_IsTerm x_0.right).bind fun v10 =>
              if v10 = true then
                (i_zeroPattern x_0.pattern).bind fun v11 =>
                some v11
              else
                some false
            else
              some false
          else
            some false
noncomputable def i_varsAmong (l_0 : (List ByteArray)) : Option (List ByteArray) :=
  forL (σ := (List ByteArray))
    (fun (i9 : Nat) (x10 : ByteArray) row_5 =>
      (i_IsVar x10).bind fun v11 =>
      if v11 = true then
        chk (row_5.length + 1 ≤ 1073741824) <|
        some (.inl (row_5 ++ [x10]))
      else
        some (.inl row_5))
    (fun row_5 =>
      some row_5)
    l_0 0 []
noncomputable def i_SortedTexts (l_0 : (List ByteArray)) : Option (List ByteArray) :=
  chk (l_0.length ≤ 1073741824) <|
  (x_sortStrings l_0).bind fun v1 =>
  forL (σ := (List ByteArray))
    (fun (i8 : Nat) (x9 : ByteArray) row_4 =>
      if (((i8 : Nat) : Int) == 0) = true then
        chk (row_4.length + 1 ≤ 1073741824) <|
        some (.inl (row_4 ++ [x9]))
      else
        chk (0 ≤ (IntKind.i64.wrap (((i8 : Nat) : Int) - 1)) ∧ (IntKind.i64.wrap (((i8 : Nat) : Int) - 1)) < ((v1.length : Nat) : Int)) <|
        (v1[(Int.toNat (IntKind.i64.wrap (((i8 : Nat) : Int) - 1)))]?).bind fun x10 =>
        if (sEq x10 x9) = true then
          some (.inl row_4)
        else
          chk (row_4.length + 1 ≤ 1073741824) <|
          some (.inl (row_4 ++ [x9])))
    (fun row_4 =>
      some row_4)
    v1 0 []
noncomputable def i_BoundVars (r_0 : RuleD) (n_1 : Int) : Option (List ByteArray) :=
  forL (σ := (List ByteArray))
    (fun (i10 : Nat) (x11 : CondD) row_5 =>
      if (decide (((i10 : Nat) : Int) < n_1)) = true then
        if (x11.kind == 1) = true then
          (i_varsAmong x11.pattern.args).bind fun v12 =>
          chk (row_5.length + v12.length ≤ 1073741824) <|
          some (.inl (row_5 ++ v12))
        else
          some (.inl row_5)
      else
        some (.inl row_5))
    (fun row_5 =>
      (i_SortedTexts row_5).bind fun v13 =>
      some v13)
    r_0.cond 0 []
noncomputable def i_hasText (l_0 : (List ByteArray)) (s_1 : ByteArray) : Option Bool :=
  forL (σ := Unit)
    (fun (i4 : Nat) (x5 : ByteArray) _ =>
      if (sEq x5 s_1) = true then
        some (.inr true)
      else
        some (.inl ()))
    (fun _ =>
      some false)
    l_0 0 ()
noncomputable def i_copyTexts (l_0 : (List ByteArray)) : Option (List ByteArray) :=
  chk (l_0.length ≤ 1073741824) <|
  some l_0
noncomputable def i_termsOf (x_0 : CondD) : Option (List ByteArray) :=
  (i_copyTexts x_0.pattern.args).bind fun v1 =>
  chk (v1.length + 2 ≤ 1073741824) <|
  some (v1 ++ [x_0.left, x_0.right])
noncomputable def i_CondVars (x_0 : CondD) : Option (List ByteArray) :=
  (i_termsOf x_0).bind fun v1 =>
  (i_varsAmong v1).bind fun v2 =>
  (i_SortedTexts v2).bind fun v3 =>
  some v3
noncomputable def i_occursElsewhere (r_0 : RuleD) (k_1 : Int) (v_2 : ByteArray) : Option Bool :=
  forL (σ := Unit)
    (fun (i16 : Nat) (x17 : CondD) _ =>
      if (((i16 : Nat) : Int) != k_1) = true then
        (i_CondVars x17).bind fun v18 =>
        (i_hasText v18 v_2).bind fun v19 =>
        if v19 = true then
          some (.inr true)
        else
          some (.inl ())
      else
        some (.inl ()))
    (fun _ =>
      forL (σ := Unit)
        (fun (i25 : Nat) (x26 : ActionD) _ =>
          (i_hasText x26.pattern.args v_2).bind fun v27 =>
          if v27 = true then
            some (.inr true)
          else
            some (.inl ()))
        (fun _ =>
          some false)
        r_0.thn 0 ())
    r_0.cond 0 ()
noncomputable def i_condFits (r_0 : RuleD) (k_1 : Int) : Option Bool :=
  (atI r_0.cond k_1).bind fun x1 =>
  (i_BoundVars r_0 k_1).bind fun v2 =>
  (i_CondVars x1).bind fun v3 =>
  forL (σ := Unit)
    (fun (i11 : Nat) (x12 : ByteArray) _ =>
      if (x1.kind == 1) = true then
        some (.inl ())
      else
        (i_hasText v2 x12).bind fun v13 =>
        if v13 = true then
          some (.inl ())
        else
          if (x1.kind != 2) = true then
            some (.inr false)
          else
            (i_occursElsewhere r_0 k_1 x12).bind fun v14 =>
            if v14 = true then
              some (.inr false)
            else
              some (.inl ()))
    (fun _ =>
      some true)
    v3 0 ()
noncomputable def i_IsAction (a_0 : ActionD) : Option Bool :=
  if (a_0.kind == 1) = true then
    (i_IsPattern a_0.pattern).bind fun v1 =>
    some v1
  else
    if (a_0.kind == 2) = true then
      (i_IsPattern a_0.pattern).bind fun v2 =>
      some v2
    else
      if (a_0.kind == 3) = true then
        (i_zeroPattern a_0.pattern).bind fun v3 =>
        some v3
      else
        some false
noncomputable def i_condVarsOf (l_0 : (List CondD)) : Option (List ByteArray) :=
  forL (σ := (List ByteArray))
    (fun (i9 : Nat) (x10 : CondD) row_5 =>
      (i_CondVars x10).bind fun v11 =>
      chk (row_5.length + v11.length ≤ 1073741824) <|
      some (.inl (row_5 ++ v11)))
    (fun row_5 =>
      some row_5)
    l_0 0 []
noncomputable def i_IsRule (append_0 : RuleD) : Option Bool :=
  (i_IsName append_0.name).bind fun v1 =>
  if v1 = true then
    if (decide (append_0.priority < 0)) = true then
      some false
    else
      if (decide (9 < append_0.priority)) = true then
        some false
      else
        if (decide (((append_0.cond.length : Nat) : Int) < 1)) = true then
          some false
        else
          if (decide (4 < ((append_0.cond.length : Nat) : Int))) = true then
            some false
          else
            if (decide (((append_0.thn.length : Nat) : Int) < 1)) = true then
              some false
            else
              if (decide (2 < ((append_0.thn.length : Nat) : Int))) = true then
                some false
              else
                forL (σ := Unit)
                  (fun (i50 : Nat) (x51 : CondD) _ =>
                    (i_IsCond x51).bind fun v52 =>
                    if v52 = true then
                      if (((i50 : Nat) : Int) == 0) = true then
                        if (x51.kind != 1) = true then
                          some (.inr false)
                        else
                          (i_condFits append_0 ((i50 : Nat) : Int)).bind fun v53 =>
                          if v53 = true then
                            some (.inl ())
                          else
                            some (.inr false)
                      else
                        (i_condFits append_0 ((i50 : Nat) : Int)).bind fun v54 =>
                        if v54 = true then
                          some (.inl ())
                        else
                          some (.inr false)
                    else
                      some (.inr false))
                  (fun _ =>
                    (i_BoundVars append_0 ((append_0.cond.length : Nat) : Int)).bind fun v55 =>
                    forL (σ := Unit)
                      (fun (i81 : Nat) (x82 : ActionD) _ =>
                        (i_IsAction x82).bind fun v83 =>
                        if v83 = true then
                          (i_varsAmong x82.pattern.args).bind fun v84 =>
                          forL (σ := Unit)
                            (fun (i90 : Nat) (x91 : ByteArray) _ =>
                              (i_hasText v55 x91).bind fun v92 =>
                              if v92 = true then
                                some (.inl ())
                              else
                                some (.inr (.inr false)))
                            (fun _ =>
                              some (.inl ()))
                            v84 0 ()
                        else
                          some (.inr false))
                      (fun _ =>
                        (i_condVarsOf append_0.cond).bind fun v93 =>
                        (i_SortedTexts v93).bind fun v94 =>
                        some (decide (((v94.length : Nat) : Int) ≤ 6)))
                      append_0.thn 0 ())
                  append_0.cond 0 ()
  else
    some false
noncomputable def i_FindRule (l_0 : (List RuleD)) (name_1 : ByteArray) : Option Int :=
  forL (σ := Unit)
    (fun (i4 : Nat) (x5 : RuleD) _ =>
      if (sEq x5.name name_1) = true then
        some (.inr ((i4 : Nat) : Int))
      else
        some (.inl ()))
    (fun _ =>
      some (-1))
    l_0 0 ()
noncomputable def i_AreRules (l_0 : (List RuleD)) : Option Bool :=
  if (decide (6 < ((l_0.length : Nat) : Int))) = true then
    some false
  else
    forL (σ := Unit)
      (fun (i8 : Nat) (x9 : RuleD) _ =>
        (i_IsRule x9).bind fun v10 =>
        if v10 = true then
          (i_FindRule l_0 x9.name).bind fun v11 =>
          if (v11 != ((i8 : Nat) : Int)) = true then
            some (.inr false)
          else
            some (.inl ())
        else
          some (.inr false))
      (fun _ =>
        some true)
      l_0 0 ()
noncomputable def i_IsFact (f_0 : FactD) : Option Bool :=
  (i_IsName f_0.rel).bind fun v1 =>
  if v1 = true then
    if (decide (3 < ((f_0.args.length : Nat) : Int))) = true then
      some false
    else
      forL (σ := Unit)
        (fun (i7 : Nat) (x8 : ByteArray) _ =>
          (i_IsAtom x8).bind fun v9 =>
          if v9 = true then
            some (.inl ())
          else
            some (.inr false))
        (fun _ =>
          some true)
        f_0.args 0 ()
  else
    some false
noncomputable def i_compareInts (a_0 : Int) (b_1 : Int) : Option Int :=
  if (decide (a_0 < b_1)) = true then
    some (-1)
  else
    if (decide (b_1 < a_0)) = true then
      some 1
    else
      some 0
noncomputable def i_FormatInt (n_0 : Int) : Option ByteArray :=
  (x_Itoa n_0).bind fun v1 =>
  some v1
noncomputable def i_ParseInt (s_0 : ByteArray) : Option (Int × Bool) :=
  if (decide (((s_0.size : Nat) : Int) < 1)) = true then
    some (0, false)
  else
    if (decide (4 < ((s_0.size : Nat) : Int))) = true then
      some (0, false)
    else
      (x_Atoi s_0).bind fun v1 =>
      if v1.2 = true then
        if (decide (v1.1 < 0)) = true then
          some (0, false)
        else
          if (decide (9999 < v1.1)) = true then
            some (0, false)
          else
            (i_FormatInt v1.1).bind fun v2 =>
            if (sEq v2 s_0) = true then
              some (v1.1, true)
            else
              some (0, false)
      else
        some (0, false)
noncomputable def i_CompareAtoms (a_0 : ByteArray) (b_1 : ByteArray) : Option Int :=
  (i_ParseInt a_0).bind fun v1 =>
  (i_ParseInt b_1).bind fun v2 =>
  if v1.2 = true then
    if v2.2 = true then
      (i_compareInts v1.1 v2.1).bind fun v3 =>
      some v3
    else
      some (-1)
  else
    if v2.2 = true then
      some 1
    else
      (x_Compare a_0 b_1).bind fun v4 =>
      some v4
noncomputable def i_CompareFacts (a_0 : FactD) (b_1 : FactD) : Option Int :=
  (x_Compare a_0.rel b_1.rel).bind fun v1 =>
  if (v1 != 0) = true then
    some v1
  else
    forL (σ := Unit)
      (fun (i11 : Nat) (x12 : ByteArray) _ =>
        if (decide (((i11 : Nat) : Int) < ((b_1.args.length : Nat) : Int))) = true then
          (atI b_1.args ((i11 : Nat) : Int)).bind fun x13 =>
          (i_CompareAtoms x12 x13).bind fun v14 =>
          if (v14 != 0) = true then
            some (.inr v14)
          else
            some (.inl ())
        else
          (i_compareInts ((a_0.args.length : Nat) : Int) ((b_1.args.length : Nat) : Int)).bind fun v15 =>
          some (.inr v15))
      (fun _ =>
        (i_compareInts ((a_0.args.length : Nat) : Int) ((b_1.args.length : Nat) : Int)).bind fun v16 =>
        some v16)
      a_0.args 0 ()
noncomputable def i_AreFacts (l_0 : (List FactD)) : Option Bool :=
  if (decide (24 < ((l_0.length : Nat) : Int))) = true then
    some false
  else
    forL (σ := Unit)
      (fun (i8 : Nat) (x9 : FactD) _ =>
        (i_IsFact x9).bind fun v10 =>
        if v10 = true then
          if (decide (0 < ((i8 : Nat) : Int))) = true then
            (atI l_0 (IntKind.i64.wrap (((i8 : Nat) : Int) - 1))).bind fun x11 =>
            (i_CompareFacts x11 x9).bind fun v12 =>
            if (decide (0 ≤ v12)) = true then
              some (.inr false)
            else
              some (.inl ())
          else
            some (.inl ())
        else
          some (.inr false))
      (fun _ =>
        some true)
      l_0 0 ()
noncomputable def i_copyFact (f_0 : FactD) : Option FactD :=
  (i_copyTexts f_0.args).bind fun v1 =>
  some ({ rel := f_0.rel, args := v1 } : FactD)
noncomputable def i_copyFacts (l_0 : (List FactD)) : Option (List FactD) :=
  forL (σ := (List FactD))
    (fun (i9 : Nat) (x10 : FactD) row_5 =>
      (i_copyFact x10).bind fun v11 =>
      chk (row_5.length + 1 ≤ 1073741824) <|
      some (.inl (row_5 ++ [v11])))
    (fun row_5 =>
      some row_5)
    l_0 0 []
noncomputable def i_IsBinding (b_0 : (List PairD)) : Option Bool :=
  if (decide (6 < ((b_0.length : Nat) : Int))) = true then
    some false
  else
    forL (σ := Unit)
      (fun (i9 : Nat) (x10 : PairD) _ =>
        (i_IsVar x10.var).bind fun v11 =>
        if v11 = true then
          (i_IsAtom x10.value).bind fun v12 =>
          if v12 = true then
            if (decide (0 < ((i9 : Nat) : Int))) = true then
              (atI b_0 (IntKind.i64.wrap (((i9 : Nat) : Int) - 1))).bind fun x13 =>
              if (sLt x13.var x10.var) = true then
                some (.inl ())
              else
                some (.inr false)
            else
              some (.inl ())
          else
            some (.inr false)
        else
          some (.inr false))
      (fun _ =>
        some true)
      b_0 0 ()
noncomputable def i_copyPairs (b_0 : (List PairD)) : Option (List PairD) :=
  chk (b_0.length ≤ 1073741824) <|
  some b_0
noncomputable def i_ValueOf (b_0 : (List PairD)) (term_1 : ByteArray) : Option (ByteArray × Bool) :=
  (i_IsAtom term_1).bind fun v1 =>
  if v1 = true then
    some (term_1, true)
  else
    (i_IsVar term_1).bind fun v2 =>
    if v2 = true then
      forL (σ := Unit)
        (fun (i6 : Nat) (x7 : PairD) _ =>
          if (sEq x7.var term_1) = true then
            some (.inr (x7.value, true))
          else
            some (.inl ()))
        (fun _ =>
          some ((⟨#[]⟩), false))
        b_0 0 ()
    else
      some ((⟨#[]⟩), false)
noncomputable def i_Extend (append_0 : (List PairD)) (String_1 : ByteArray) (a_2 : ByteArray) : Option ((List PairD) × Bool) :=
  (i_IsBinding append_0).bind fun v1 =>
  if v1 = true then
    (i_IsVar String_1).bind fun v2 =>
    if v2 = true then
      (i_IsAtom a_2).bind fun v3 =>
      if v3 = true then
        (i_ValueOf append_0 String_1).bind fun v4 =>
        if v4.2 = true then
          if (sEq v4.1 a_2) = true then
            (i_copyPairs append_0).bind fun v5 =>
            some (v5, true)
          else
            some ([], false)
        else
          if (decide (6 ≤ ((append_0.length : Nat) : Int))) = true then
            some ([], false)
          else
            forL (σ := (List PairD) × Bool)
              (fun (i13 : Nat) (x14 : PairD) s =>
                match s with
                | (row_8, u_11) =>
                if u_11 = true then
                  chk (row_8.length + 1 ≤ 1073741824) <|
                  some (.inl ((row_8 ++ [x14]), true))
                else
                  if (sLt x14.var String_1 || sEq x14.var String_1) = true then
                    chk (row_8.length + 1 ≤ 1073741824) <|
                    some (.inl ((row_8 ++ [x14]), false))
                  else
                    chk (row_8.length + 1 ≤ 1073741824) <|
                    chk (row_8.length + 1 + 1 ≤ 1073741824) <|
                    some (.inl (((row_8 ++ [({ var := String_1, value := a_2 } : PairD)]) ++ [x14]), true)))
              (fun s =>
                match s with
                | (row_8, u_11) =>
                if u_11 = true then
                  some (row_8, true)
                else
                  chk (row_8.length + 1 ≤ 1073741824) <|
                  some ((row_8 ++ [({ var := String_1, value := a_2 } : PairD)]), true))
              append_0 0 ([], false)
      else
        some ([], false)
    else
      some ([], false)
  else
    some ([], false)
noncomputable def i_MatchFact (append_0 : PatternD) (String_1 : FactD) (a_2 : (List PairD)) : Option ((List PairD) × Bool) :=
  (i_IsPattern append_0).bind fun v1 =>
  if v1 = true then
    (i_IsFact String_1).bind fun v2 =>
    if v2 = true then
      (i_IsBinding a_2).bind fun v3 =>
      if v3 = true then
        if (sEq append_0.rel String_1.rel) = true then
          if (((append_0.args.length : Nat) : Int) != ((String_1.args.length : Nat) : Int)) = true then
            some ([], false)
          else
            (i_copyPairs a_2).bind fun v4 =>
            forL (σ := (List PairD))
              (fun (i22 : Nat) (x23 : ByteArray) row_16 =>
                (i_IsAtom x23).bind fun v24 =>
                if v24 = true then
                  (atI String_1.args ((i22 : Nat) : Int)).bind fun x25 =>
                  if (sEq x23 x25) = true then
                    some (.inl row_16)
                  else
                    some (.inr ([], false))
                else
                  (atI String_1.args ((i22 : Nat) : Int)).bind fun x26 =>
                  (i_Extend row_16 x23 x26).bind fun v27 =>
                  if v27.2 = true then
                    some (.inl v27.1)
                  else
                    some (.inr ([], false)))
              (fun row_16 =>
                some (row_16, true))
              append_0.args 0 v4
        else
          some ([], false)
      else
        some ([], false)
    else
      some ([], false)
  else
    some ([], false)
noncomputable def i_MatchingFacts (p_0 : PatternD) (b_1 : (List PairD)) (facts_2 : (List FactD)) : Option (List FactD) :=
  forL (σ := (List FactD))
    (fun (i12 : Nat) (x13 : FactD) row_7 =>
      (i_MatchFact p_0 x13 b_1).bind fun v14 =>
      if v14.2 = true then
        (i_copyFact x13).bind fun v15 =>
        chk (row_7.length + 1 ≤ 1073741824) <|
        some (.inl (row_7 ++ [v15]))
      else
        some (.inl row_7))
    (fun row_7 =>
      some row_7)
    facts_2 0 []
noncomputable def i_IsTest (x_0 : CondD) : Option Bool :=
  (i_IsCond x_0).bind fun v1 =>
  if v1 = true then
    some (decide (3 ≤ x_0.kind))
  else
    some false
noncomputable def i_HoldsTest (append_0 : CondD) (String_1 : (List PairD)) : Option Bool :=
  (i_IsTest append_0).bind fun v1 =>
  if v1 = true then
    (i_IsBinding String_1).bind fun v2 =>
    if v2 = true then
      (i_ValueOf String_1 append_0.left).bind fun v3 =>
      (i_ValueOf String_1 append_0.right).bind fun v4 =>
      if v3.2 = true then
        if v4.2 = true then
          if (append_0.kind == 3) = true then
            some (sEq v3.1 v4.1)
          else
            if (append_0.kind == 4) = true then
              some (!(sEq v3.1 v4.1))
            else
              (i_ParseInt v3.1).bind fun v5 =>
              (i_ParseInt v4.1).bind fun v6 =>
              if v5.2 = true then
                if v6.2 = true then
                  some (decide (v5.1 < v6.1))
                else
                  some false
              else
                some false
        else
          some false
      else
        some false
    else
      some false
  else
    some false
noncomputable def i_HoldsCond (x_0 : CondD) (b_1 : (List PairD)) (facts_2 : (List FactD)) : Option Bool :=
  (i_IsCond x_0).bind fun v1 =>
  if v1 = true then
    (i_IsBinding b_1).bind fun v2 =>
    if v2 = true then
      if (x_0.kind == 1) = true then
        (i_MatchingFacts x_0.pattern b_1 facts_2).bind fun v3 =>
        some (decide (0 < ((v3.length : Nat) : Int)))
      else
        if (x_0.kind == 2) = true then
          (i_MatchingFacts x_0.pattern b_1 facts_2).bind fun v4 =>
          some (((v4.length : Nat) : Int) == 0)
        else
          (i_HoldsTest x_0 b_1).bind fun v5 =>
          some v5
    else
      some false
  else
    some false
noncomputable def i_tokensOf (append_0 : (List CondD)) (String_1 : (List FactD)) : Option (List TokenD) :=
  forL (σ := (List TokenD))
    (fun (i246 : Nat) (x247 : CondD) row_151 =>
      forL (σ := (List TokenD))
        (fun (i322 : Nat) (x323 : TokenD) row_303 =>
          if (x247.kind != 1) = true then
            (i_HoldsCond x247 x323.binding String_1).bind fun v324 =>
            if v324 = true then
              chk (row_303.length + 1 ≤ 1073741824) <|
              some (.inl (row_303 ++ [x323]))
            else
              some (.inl row_303)
          else
            forL (σ := (List TokenD))
              (fun (i335 : Nat) (x336 : FactD) row_329 =>
                (i_MatchFact x247.pattern x336 x323.binding).bind fun v337 =>
                if v337.2 = true then
                  (i_copyFacts x323.facts).bind fun v338 =>
                  (i_copyFact x336).bind fun v339 =>
                  chk (v338.length + 1 ≤ 1073741824) <|
                  chk (row_329.length + 1 ≤ 1073741824) <|
                  some (.inl (row_329 ++ [({ facts := (v338 ++ [v339]), binding := v337.1 } : TokenD)]))
                else
                  some (.inl row_329))
              (fun row_329 =>
                some (.inl row_329))
              String_1 0 row_303)
        (fun row_303 =>
          some (.inl row_303))
        row_151 0 [])
    (fun row_151 =>
      some row_151)
    append_0 0 ([({ facts := [], binding := [] } : TokenD)])
noncomputable def i_Instance (p_0 : PatternD) (b_1 : (List PairD)) : Option (FactD × Bool) :=
  (i_IsPattern p_0).bind fun v1 =>
  if v1 = true then
    (i_IsBinding b_1).bind fun v2 =>
    if v2 = true then
      forL (σ := (List ByteArray))
        (fun (i11 : Nat) (x12 : ByteArray) row_7 =>
          (i_ValueOf b_1 x12).bind fun v13 =>
          if v13.2 = true then
            chk (row_7.length + 1 ≤ 1073741824) <|
            some (.inl (row_7 ++ [v13.1]))
          else
            some (.inr (({ rel := (⟨#[]⟩), args := [] } : FactD), false)))
        (fun row_7 =>
          some (({ rel := p_0.rel, args := row_7 } : FactD), true))
        p_0.args 0 []
    else
      some (({ rel := (⟨#[]⟩), args := [] } : FactD), false)
  else
    some (({ rel := (⟨#[]⟩), args := [] } : FactD), false)
noncomputable def i_sameTexts (a_0 : (List ByteArray)) (b_1 : (List ByteArray)) : Option Bool :=
  if (((a_0.length : Nat) : Int) != ((b_1.length : Nat) : Int)) = true then
    some false
  else
    forL (σ := Unit)
      (fun (i6 : Nat) (x7 : ByteArray) _ =>
        (atI b_1 ((i6 : Nat) : Int)).bind fun x8 =>
        if (sEq x7 x8) = true then
          some (.inl ())
        else
          some (.inr false))
      (fun _ =>
        some true)
      a_0 0 ()
noncomputable def i_sameFact (a_0 : FactD) (b_1 : FactD) : Option Bool :=
  if (sEq a_0.rel b_1.rel) = true then
    (i_sameTexts a_0.args b_1.args).bind fun v1 =>
    some v1
  else
    some false
noncomputable def i_FindFact (l_0 : (List FactD)) (f_1 : FactD) : Option Int :=
  forL (σ := Unit)
    (fun (i6 : Nat) (x7 : FactD) _ =>
      (i_sameFact x7 f_1).bind fun v8 =>
      if v8 = true then
        some (.inr ((i6 : Nat) : Int))
      else
        some (.inl ()))
    (fun _ =>
      some (-1))
    l_0 0 ()
noncomputable def s_l14Bound (a_0 : (List ByteArray)) (b_1 : (List ByteArray)) : Option Bool :=
  forL (σ := Unit)
    (fun (i6 : Nat) (x7 : ByteArray) _ =>
      (s_l1HasText b_1 x7).bind fun v8 =>
      if v8 = true then
        some (.inl ())
      else
        some (.inr false))
    (fun _ =>
      some true)
    a_0 0 ()
noncomputable def s_IsLogical (r_0 : RuleD) : Option Bool :=
  (s_IsRule r_0).bind fun v1 =>
  if v1 = true then
    forL (σ := Unit)
      (fun (i16 : Nat) (x17 : CondD) _ =>
        if (x17.kind == 2) = true then
          (s_CondVars x17).bind fun v18 =>
          (s_BoundVars r_0 ((i16 : Nat) : Int)).bind fun v19 =>
          (s_l14Bound v18 v19).bind fun v20 =>
          if v20 = true then
            some (.inl ())
          else
            some (.inr false)
        else
          some (.inl ()))
      (fun _ =>
        forL (σ := Unit)
          (fun (i24 : Nat) (x25 : ActionD) _ =>
            if (x25.kind != 1) = true then
              some (.inr false)
            else
              some (.inl ()))
          (fun _ =>
            some true)
          r_0.thn 0 ())
      r_0.cond 0 ()
  else
    some false
noncomputable def s_WritesOf (r_0 : RuleD) : Option (List ByteArray) :=
  forL (σ := (List ByteArray))
    (fun (i9 : Nat) (x10 : ActionD) row_4 =>
      if (x10.kind == 1) = true then
        (s_l1Put row_4 x10.pattern.rel).bind fun v11 =>
        some (.inl v11)
      else
        if (x10.kind == 2) = true then
          (s_l1Put row_4 x10.pattern.rel).bind fun v12 =>
          some (.inl v12)
        else
          some (.inl row_4))
    (fun row_4 =>
      some row_4)
    r_0.thn 0 []
noncomputable def s_ReadsOf (r_0 : RuleD) : Option (List ByteArray) :=
  forL (σ := (List ByteArray))
    (fun (i9 : Nat) (x10 : CondD) row_4 =>
      if (x10.kind == 1) = true then
        (s_l1Put row_4 x10.pattern.rel).bind fun v11 =>
        some (.inl v11)
      else
        if (x10.kind == 2) = true then
          (s_l1Put row_4 x10.pattern.rel).bind fun v12 =>
          some (.inl v12)
        else
          some (.inl row_4))
    (fun row_4 =>
      some row_4)
    r_0.cond 0 []
noncomputable def s_RelDepends (append_0 : (List RuleD)) (String_1 : ByteArray) (a_2 : ByteArray) : Option Bool :=
  iter (σ := (List ByteArray) × Int)
    (fun s =>
      match s with
      | (row_55, u_56) =>
      if (decide (u_56 < ((row_55.length : Nat) : Int))) = true then
        forL (σ := (List ByteArray))
          (fun (i93 : Nat) (x94 : RuleD) row_74 =>
            (s_WritesOf x94).bind fun v95 =>
            chk (0 ≤ u_56 ∧ u_56 < ((row_74.length : Nat) : Int)) <|
            (row_74[(Int.toNat u_56)]?).bind fun x96 =>
            (s_l1HasText v95 x96).bind fun v97 =>
            if v97 = true then
              (s_ReadsOf x94).bind fun v98 =>
              (s_l1HasText v98 a_2).bind fun v99 =>
              if v99 = true then
                some (.inr (.inr true))
              else
                forL (σ := (List ByteArray))
                  (fun (i108 : Nat) (x109 : ByteArray) row_105 =>
                    (s_l1HasText row_105 x109).bind fun v110 =>
                    if v110 = true then
                      some (.inl row_105)
                    else
                      chk (row_105.length + 1 ≤ 1073741824) <|
                      some (.inl (row_105 ++ [x109])))
                  (fun row_105 =>
                    some (.inl row_105))
                  v98 0 row_74
            else
              some (.inl row_74))
          (fun row_74 =>
            some (.inl (row_74, (IntKind.i64.wrap (u_56 + 1)))))
          append_0 0 row_55
      else
        some (.inr false))
    ([String_1], 0)
noncomputable def s_AreLogical (append_0 : (List RuleD)) : Option Bool :=
  forL (σ := Unit)
    (fun (i67 : Nat) (x68 : RuleD) _ =>
      (s_IsLogical x68).bind fun v69 =>
      if v69 = true then
        (s_WritesOf x68).bind fun v70 =>
        forL (σ := Unit)
          (fun (i90 : Nat) (x91 : CondD) _ =>
            forL (σ := Unit)
              (fun (i97 : Nat) (x98 : ByteArray) _ =>
                if (x91.kind == 2) = true then
                  if (sEq x91.pattern.rel x98) = true then
                    some (.inr (.inr (.inr false)))
                  else
                    (s_RelDepends append_0 x91.pattern.rel x98).bind fun v99 =>
                    if v99 = true then
                      some (.inr (.inr (.inr false)))
                    else
                      some (.inl ())
                else
                  some (.inr (.inl ())))
              (fun _ =>
                some (.inl ()))
              v70 0 ())
          (fun _ =>
            some (.inl ()))
          x68.cond 0 ()
      else
        some (.inr false))
    (fun _ =>
      (s_AreRules append_0).bind fun v100 =>
      some v100)
    append_0 0 ()
noncomputable def s_l14Positive (r_0 : RuleD) : Option (List CondD) :=
  forL (σ := (List CondD))
    (fun (i6 : Nat) (x7 : CondD) row_3 =>
      if (x7.kind != 2) = true then
        chk (row_3.length + 1 ≤ 1073741824) <|
        some (.inl (row_3 ++ [x7]))
      else
        some (.inl row_3))
    (fun row_3 =>
      some row_3)
    r_0.cond 0 []
noncomputable def s_l2Put (l_0 : (List FactD)) (f_1 : FactD) : Option (List FactD) :=
  forL (σ := (List FactD) × Bool)
    (fun (i21 : Nat) (x22 : FactD) s =>
      match s with
      | (row_8, done_9) =>
      if done_9 = true then
        (s_l2Copy x22).bind fun v23 =>
        chk (row_8.length + 1 ≤ 1073741824) <|
        some (.inl ((row_8 ++ [v23]), true))
      else
        (s_CompareFacts x22 f_1).bind fun v24 =>
        if (decide (0 ≤ v24)) = true then
          (s_CompareFacts x22 f_1).bind fun v25 =>
          if (decide (0 < v25)) = true then
            (s_l2Copy f_1).bind fun v26 =>
            chk (row_8.length + 1 ≤ 1073741824) <|
            (s_l2Copy x22).bind fun v27 =>
            chk (row_8.length + 1 + 1 ≤ 1073741824) <|
            some (.inl (((row_8 ++ [v26]) ++ [v27]), true))
          else
            (s_l2Copy x22).bind fun v28 =>
            chk (row_8.length + 1 ≤ 1073741824) <|
            some (.inl ((row_8 ++ [v28]), true))
        else
          (s_l2Copy x22).bind fun v29 =>
          chk (row_8.length + 1 ≤ 1073741824) <|
          some (.inl ((row_8 ++ [v29]), false)))
    (fun s =>
      match s with
      | (row_8, done_9) =>
      if done_9 = true then
        some row_8
      else
        (s_l2Copy f_1).bind fun v30 =>
        chk (row_8.length + 1 ≤ 1073741824) <|
        some (row_8 ++ [v30]))
    l_0 0 ([], false)
noncomputable def s_PossibleFacts (append_0 : (List RuleD)) (String_1 : (List FactD)) : Option ((List FactD) × Bool) :=
  (s_AreLogical append_0).bind fun v1 =>
  if v1 = true then
    (s_AreFacts String_1).bind fun v2 =>
    if v2 = true then
      (s_l2Copies String_1).bind fun v3 =>
      iter (σ := (List FactD) × Bool)
        (fun s =>
          match s with
          | (u_187, u_188) =>
          if u_188 = true then
            forL (σ := (List FactD))
              (fun (i311 : Nat) (x312 : RuleD) u_249 =>
                (s_l14Positive x312).bind fun v313 =>
                (s_l6Tokens v313 u_187).bind fun v314 =>
                forL (σ := (List FactD))
                  (fun (i355 : Nat) (x356 : TokenD) u_335 =>
                    forL (σ := (List FactD))
                      (fun (i368 : Nat) (x369 : ActionD) u_364 =>
                        (s_Instance x369.pattern x356.binding).bind fun v370 =>
                        (s_l2Put u_364 v370.1).bind fun v371 =>
                        some (.inl v371))
                      (fun u_364 =>
                        some (.inl u_364))
                      x312.thn 0 u_335)
                  (fun u_335 =>
                    if (decide (24 < ((u_335.length : Nat) : Int))) = true then
                      some (.inr (.inr ([], false)))
                    else
                      some (.inl u_335))
                  v314 0 u_249)
              (fun u_249 =>
                some (.inl (u_249, (decide (((u_187.length : Nat) : Int) < ((u_249.length : Nat) : Int))))))
              append_0 0 u_187
          else
            some (.inr (u_187, true)))
        (v3, true)
    else
      some ([], false)
  else
    some ([], false)
noncomputable def i_onlyAdds (r_0 : RuleD) : Option Bool :=
  forL (σ := Unit)
    (fun (i4 : Nat) (x5 : ActionD) _ =>
      if (x5.kind != 1) = true then
        some (.inr false)
      else
        some (.inl ()))
    (fun _ =>
      some true)
    r_0.thn 0 ()
noncomputable def i_IsLogical (r_0 : RuleD) : Option Bool :=
  (i_IsRule r_0).bind fun v1 =>
  if v1 = true then
    (i_onlyAdds r_0).bind fun v2 =>
    if v2 = true then
      forL (σ := Unit)
        (fun (i26 : Nat) (x27 : CondD) _ =>
          if (x27.kind != 2) = true then
            some (.inl ())
          else
            (i_BoundVars r_0 ((i26 : Nat) : Int)).bind fun v28 =>
            (i_CondVars x27).bind fun v29 =>
            forL (σ := Unit)
              (fun (i35 : Nat) (x36 : ByteArray) _ =>
                (i_hasText v28 x36).bind fun v37 =>
                if v37 = true then
                  some (.inl ())
                else
                  some (.inr (.inr false)))
              (fun _ =>
                some (.inl ()))
              v29 0 ())
        (fun _ =>
          some true)
        r_0.cond 0 ()
    else
      some false
  else
    some false
noncomputable def i_WritesOf (r_0 : RuleD) : Option (List ByteArray) :=
  forL (σ := (List ByteArray))
    (fun (i7 : Nat) (x8 : ActionD) row_3 =>
      if (x8.kind == 1) = true then
        chk (row_3.length + 1 ≤ 1073741824) <|
        some (.inl (row_3 ++ [x8.pattern.rel]))
      else
        if (x8.kind == 2) = true then
          chk (row_3.length + 1 ≤ 1073741824) <|
          some (.inl (row_3 ++ [x8.pattern.rel]))
        else
          some (.inl row_3))
    (fun row_3 =>
      (i_SortedTexts row_3).bind fun v9 =>
      some v9)
    r_0.thn 0 []
noncomputable def i_ReadsOf (r_0 : RuleD) : Option (List ByteArray) :=
  forL (σ := (List ByteArray))
    (fun (i7 : Nat) (x8 : CondD) row_3 =>
      if (x8.kind == 1) = true then
        chk (row_3.length + 1 ≤ 1073741824) <|
        some (.inl (row_3 ++ [x8.pattern.rel]))
      else
        if (x8.kind == 2) = true then
          chk (row_3.length + 1 ≤ 1073741824) <|
          some (.inl (row_3 ++ [x8.pattern.rel]))
        else
          some (.inl row_3))
    (fun row_3 =>
      (i_SortedTexts row_3).bind fun v9 =>
      some v9)
    r_0.cond 0 []
noncomputable def i_relReach (rules_0 : (List RuleD)) (a_1 : ByteArray) : Option (List (ByteArray × Bool)) :=
  iter (σ := (List (ByteArray × Bool)) × (List ByteArray))
    (fun s =>
      match s with
      | (mp_42, row_43) =>
      if (decide (0 < ((row_43.length : Nat) : Int))) = true then
        chk (0 ≤ 0 ∧ 0 < ((row_43.length : Nat) : Int)) <|
        (row_43[(Int.toNat 0)]?).bind fun x44 =>
        chk (0 ≤ 1 ∧ 1 ≤ ((row_43.length : Nat) : Int)) <|
        forL (σ := (List (ByteArray × Bool)) × (List ByteArray))
          (fun (i72 : Nat) (x73 : RuleD) s =>
            match s with
            | (mp_57, row_58) =>
            (i_WritesOf x73).bind fun v74 =>
            (i_hasText v74 x44).bind fun v75 =>
            if v75 = true then
              (i_ReadsOf x73).bind fun v76 =>
              forL (σ := (List (ByteArray × Bool)) × (List ByteArray))
                (fun (i83 : Nat) (x84 : ByteArray) s =>
                  match s with
                  | (mp_80, row_81) =>
                  if (mGetD mp_80 x84 false) = true then
                    some (.inl (mp_80, row_81))
                  else
                    chk (row_81.length + 1 ≤ 1073741824) <|
                    some (.inl ((mPut mp_80 x84 true), (row_81 ++ [x84]))))
                (fun s =>
                  match s with
                  | (mp_80, row_81) =>
                  some (.inl (mp_80, row_81)))
                v76 0 (mp_57, row_58)
            else
              some (.inl (mp_57, row_58)))
          (fun s =>
            match s with
            | (mp_57, row_58) =>
            some (.inl (mp_57, row_58)))
          rules_0 0 (mp_42, (List.drop (Int.toNat 1) row_43))
      else
        some (.inr mp_42))
    ([], [a_1])
noncomputable def i_AreLogical (rules_0 : (List RuleD)) : Option Bool :=
  (i_AreRules rules_0).bind fun v1 =>
  if v1 = true then
    forL (σ := Unit)
      (fun (i59 : Nat) (x60 : RuleD) _ =>
        (i_IsLogical x60).bind fun v61 =>
        if v61 = true then
          forL (σ := Unit)
            (fun (i79 : Nat) (x80 : CondD) _ =>
              if (x80.kind != 2) = true then
                some (.inl ())
              else
                (i_relReach rules_0 x80.pattern.rel).bind fun v81 =>
                (i_WritesOf x60).bind fun v82 =>
                forL (σ := Unit)
                  (fun (i86 : Nat) (x87 : ByteArray) _ =>
                    if (sEq x87 x80.pattern.rel) = true then
                      some (.inr (.inr (.inr false)))
                    else
                      if (mGetD v81 x87 false) = true then
                        some (.inr (.inr (.inr false)))
                      else
                        some (.inl ()))
                  (fun _ =>
                    some (.inl ()))
                  v82 0 ())
            (fun _ =>
              some (.inl ()))
            x60.cond 0 ()
        else
          some (.inr false))
      (fun _ =>
        some true)
      rules_0 0 ()
  else
    some false
noncomputable def i_withoutNots (r_0 : RuleD) : Option (List CondD) :=
  forL (σ := (List CondD))
    (fun (i7 : Nat) (x8 : CondD) row_4 =>
      if (x8.kind != 2) = true then
        chk (row_4.length + 1 ≤ 1073741824) <|
        some (.inl (row_4 ++ [x8]))
      else
        some (.inl row_4))
    (fun row_4 =>
      some row_4)
    r_0.cond 0 []
noncomputable def i_putFact (l_0 : (List FactD)) (f_1 : FactD) : Option (List FactD) :=
  forL (σ := (List FactD) × Bool)
    (fun (i21 : Nat) (x22 : FactD) s =>
      match s with
      | (row_11, done_13) =>
      if done_13 = true then
        (i_copyFact x22).bind fun v23 =>
        chk (row_11.length + 1 ≤ 1073741824) <|
        some (.inl ((row_11 ++ [v23]), true))
      else
        (i_CompareFacts x22 f_1).bind fun v24 =>
        if (decide (0 < v24)) = true then
          (i_copyFact f_1).bind fun v25 =>
          chk (row_11.length + 1 ≤ 1073741824) <|
          (i_copyFact x22).bind fun v26 =>
          chk (row_11.length + 1 + 1 ≤ 1073741824) <|
          some (.inl (((row_11 ++ [v25]) ++ [v26]), true))
        else
          (i_copyFact x22).bind fun v27 =>
          chk (row_11.length + 1 ≤ 1073741824) <|
          some (.inl ((row_11 ++ [v27]), false)))
    (fun s =>
      match s with
      | (row_11, done_13) =>
      if done_13 = true then
        some row_11
      else
        (i_copyFact f_1).bind fun v28 =>
        chk (row_11.length + 1 ≤ 1073741824) <|
        some (row_11 ++ [v28]))
    l_0 0 ([], false)
noncomputable def i_PossibleFacts (append_0 : (List RuleD)) (String_1 : (List FactD)) : Option ((List FactD) × Bool) :=
  (i_AreLogical append_0).bind fun v1 =>
  if v1 = true then
    (i_AreFacts String_1).bind fun v2 =>
    if v2 = true then
      (i_copyFacts String_1).bind fun v3 =>
      iter (σ := (List FactD) × Bool)
        (fun s =>
          match s with
          | (u_254, u_255) =>
          if u_255 = true then
            forL (σ := (List FactD) × Bool)
              (fun (i423 : Nat) (x424 : RuleD) s =>
                match s with
                | (u_339, u_340) =>
                (i_withoutNots x424).bind fun v425 =>
                (i_tokensOf v425 u_339).bind fun v426 =>
                forL (σ := (List FactD) × Bool)
                  (fun (i480 : Nat) (x481 : TokenD) s =>
                    match s with
                    | (u_453, u_454) =>
                    forL (σ := (List FactD) × Bool)
                      (fun (i501 : Nat) (x502 : ActionD) s =>
                        match s with
                        | (u_495, u_496) =>
                        (i_Instance x502.pattern x481.binding).bind fun v503 =>
                        (i_FindFact u_495 v503.1).bind fun v504 =>
                        if (decide (0 ≤ v504)) = true then
                          some (.inl (u_495, u_496))
                        else
                          if (decide (24 ≤ ((u_495.length : Nat) : Int))) = true then
                            some (.inr (.inr (.inr (.inr ([], false)))))
                          else
                            (i_putFact u_495 v503.1).bind fun v505 =>
                            some (.inl (v505, true)))
                      (fun s =>
                        match s with
                        | (u_495, u_496) =>
                        some (.inl (u_495, u_496)))
                      x424.thn 0 (u_453, u_454))
                  (fun s =>
                    match s with
                    | (u_453, u_454) =>
                    some (.inl (u_453, u_454)))
                  v426 0 (u_339, u_340))
              (fun s =>
                match s with
                | (u_339, u_340) =>
                some (.inl (u_339, u_340)))
              append_0 0 (u_254, false)
          else
            some (.inr (u_254, true)))
        (v3, true)
    else
      some ([], false)
  else
    some ([], false)
end Go.Proofs.YtlkgkkacnoaeaaaGreatDoor

namespace Go.Proofs.YtlkgkkacnoaeaaaGreatDoor
section
variable {α σ ρ : Type} {body : Nat → α → σ → Option (σ ⊕ ρ)} {fin : σ → Option ρ}
theorem forL_nil (i : Nat) (s : σ) : forL body fin [] i s = fin s := rfl
theorem forL_next {x : α} {l : List α} {i : Nat} {s s' : σ} (h : body i x s = some (.inl s')) : forL body fin (x :: l) i s = forL body fin l (i + 1) s' := by simp only [forL, h]
theorem forL_stop {x : α} {l : List α} {i : Nat} {s : σ} {r : ρ} (h : body i x s = some (.inr r)) : forL body fin (x :: l) i s = some r := by simp only [forL, h]
/-- every element passes, or the walk ends -/
theorem forL_all {p : α → Bool} {r : ρ} : ∀ {l : List α} {i : Nat} {s : σ}, (∀ i x, x ∈ l → body i x s = some (bif p x then .inl s else .inr r)) → forL body fin l i s = if l.all p = true then fin s else some r
  | [], _, _, _ => by simp [forL]
  | x :: l, i, s, h => by
    have hx := h i x (by simp)
    by_cases hp : p x = true
    · rw [hp, cond_true] at hx
      rw [forL_next hx, forL_all fun j y my => h j y (by simp [my])]
      simp [hp]
    · rw [eq_false_of_ne_true hp, cond_false] at hx
      rw [forL_stop hx]
      simp [hp]
theorem forL_any {p : α → Bool} {r : ρ} : ∀ {l : List α} {i : Nat} {s : σ}, (∀ i x, x ∈ l → body i x s = some (bif p x then .inr r else .inl s)) → forL body fin l i s = if l.any p = true then some r else fin s
  | [], _, _, _ => by simp [forL]
  | x :: l, i, s, h => by
    have hx := h i x (by simp)
    by_cases hp : p x = true
    · rw [hp, cond_true] at hx
      rw [forL_stop hx]
      simp [hp]
    · rw [eq_false_of_ne_true hp, cond_false] at hx
      rw [forL_next hx, forL_any fun j y my => h j y (by simp [my])]
      simp [hp]
/-- a state that goes on; what is known of it at each step -/
theorem forL_fold {f : σ → α → σ} (I : Nat → σ → Prop) : ∀ {l : List α} {i : Nat} {s : σ}, I i s → (∀ j x s, x ∈ l → i ≤ j → j < i + l.length → I j s → body j x s = some (.inl (f s x)) ∧ I (j + 1) (f s x)) → forL body fin l i s = fin (l.foldl f s)
  | [], _, _, _, _ => rfl
  | x :: l, i, s, h0, h => by
    obtain ⟨h1, h2⟩ := h i x s (by simp) (by omega) (by simp) h0
    rw [forL_next h1, forL_fold I h2 fun j y s my hj hl => h j y s (by simp [my]) (by omega) (by simp at hl ⊢; omega)]
    rfl
/-- the walk by a function of the rest -/
theorem forL_rec (g : List α → Nat → σ → Option ρ) (I : List α → Nat → σ → Prop) (h0 : ∀ i s, I [] i s → fin s = g [] i s)
    (h1 : ∀ x l i s, I (x :: l) i s → (∃ s', body i x s = some (.inl s') ∧ I l (i + 1) s' ∧ g (x :: l) i s = g l (i + 1) s') ∨ (∃ r, body i x s = some (.inr r) ∧ g (x :: l) i s = some r)) : ∀ (l : List α) (i : Nat) (s : σ), I l i s → forL body fin l i s = g l i s
  | [], i, s, h => h0 i s h
  | x :: l, i, s, h => by
    rcases h1 x l i s h with ⟨s', e1, e2, e3⟩ | ⟨r, e1, e2⟩
    · rw [forL_next e1, forL_rec g I h0 h1 l (i + 1) s' e2, e3]
    · rw [forL_stop e1, e2]
end
/-- a test that knows the place -/
def allI {α : Type} (p : Nat → α → Bool) : List α → Nat → Bool
  | [], _ => true
  | x :: l, i => p i x && allI p l (i + 1)
theorem allI_at {α : Type} {p : Nat → α → Bool} : ∀ {l : List α} {i : Nat}, allI p l i = true → ∀ j x, l[j]? = some x → p (i + j) x = true
  | [], _, _, j, x, hx => by simp at hx
  | y :: l, i, h, 0, x, hx => by simp only [allI, Bool.and_eq_true] at h; simp at hx; subst hx; exact h.1
  | y :: l, i, h, j + 1, x, hx => by
    simp only [allI, Bool.and_eq_true] at h
    have := allI_at h.2 j x (by simpa using hx)
    rwa [show i + (j + 1) = i + 1 + j by omega]
section
variable {α σ ρ : Type} {body : Nat → α → σ → Option (σ ⊕ ρ)} {fin : σ → Option ρ}
theorem forL_allI {p : Nat → α → Bool} {r : ρ} : ∀ {l : List α} {i : Nat} {s : σ}, (∀ j x, l[j]? = some x → body (i + j) x s = some (bif p (i + j) x then .inl s else .inr r)) → forL body fin l i s = if allI p l i = true then fin s else some r
  | [], _, _, _ => by simp [forL, allI]
  | x :: l, i, s, h => by
    have hx := h 0 x (by simp)
    simp only [Nat.add_zero] at hx
    by_cases hp : p i x = true
    · rw [hp, cond_true] at hx
      rw [forL_next hx, forL_allI fun j y hy => by have := h (j + 1) y (by simpa using hy); rwa [show i + (j + 1) = i + 1 + j by omega] at this]
      simp [allI, hp]
    · rw [eq_false_of_ne_true hp, cond_false] at hx
      rw [forL_stop hx]
      simp [allI, hp]
/-- elements that are kept, each turned, one behind the other -/
theorem forL_filterMap {β : Type} {g : α → Option β} {fin : List β → Option ρ} {body : Nat → α → List β → Option (List β ⊕ ρ)} : ∀ {l : List α} {i : Nat} {acc : List β}, (∀ j x s, x ∈ l → s.length + 1 ≤ acc.length + l.length → body j x s = some (.inl (s ++ (g x).toList))) → forL body fin l i acc = fin (acc ++ l.filterMap g)
  | [], _, acc, _ => by simp [forL]
  | x :: l, i, acc, h => by
    rw [forL_next (h i x acc (by simp) (by simp))]
    rw [forL_filterMap fun j y s my hs => h j y s (by simp [my]) (by cases hg : g x <;> simp [hg] at hs ⊢ <;> omega)]
    congr 1
    cases hg : g x <;> simp [hg]
theorem forL_map {β : Type} {g : α → β} {fin : List β → Option ρ} {body : Nat → α → List β → Option (List β ⊕ ρ)} {l : List α} {i : Nat} {acc : List β} (h : ∀ j x s, x ∈ l → s.length + 1 ≤ acc.length + l.length → body j x s = some (.inl (s ++ [g x]))) : forL body fin l i acc = fin (acc ++ l.map g) := by
  rw [forL_filterMap (g := fun x => some (g x)) h, List.filterMap_eq_map']
theorem forL_filter {p : α → Bool} {fin : List α → Option ρ} {body : Nat → α → List α → Option (List α ⊕ ρ)} {l : List α} {i : Nat} {acc : List α} (h : ∀ j x s, x ∈ l → s.length + 1 ≤ acc.length + l.length → body j x s = some (.inl (if p x = true then s ++ [x] else s))) : forL body fin l i acc = fin (acc ++ l.filter p) := by
  rw [forL_filterMap (g := fun x => if p x = true then some x else none) fun j x s mx hs => by rw [h j x s mx hs]; split <;> simp]
  congr 2
  induction l with
  | nil => rfl
  | cons x l ih =>
    have ih := ih fun j y s my hs => h j y s (by simp [my]) (by simp at hs ⊢; omega)
    by_cases hp : p x = true <;> simp [hp, ih]
end
/- texts -/
theorem sEq_iff {x y : ByteArray} : sEq x y = true ↔ x = y := by simp [sEq]
theorem sEq_self (x : ByteArray) : sEq x x = true := sEq_iff.2 rfl
theorem toL_inj {x y : ByteArray} (h : toL x = toL y) : x = y := by rw [← ofL_toL x, ← ofL_toL y, h]
theorem toL_len (x : ByteArray) : (toL x).length = x.size := by rw [toL, ByteArray.size, Array.length_toList]
theorem bytesLess_iff : ∀ (a b : List UInt8), Op.bytesLess a b = true ↔ a < b
  | [], [] => by simp [Op.bytesLess]
  | [], _ :: _ => by simp [Op.bytesLess]
  | _ :: _, [] => by simp [Op.bytesLess]
  | x :: a, y :: b => by
    rw [List.cons_lt_cons_iff, ← bytesLess_iff a b]
    simp only [Op.bytesLess]
    by_cases h : x < y
    · simp [h]
    · by_cases h2 : x = y
      · subst h2; simp [h]
      · simp [h, h2]
theorem sLt_iff {x y : ByteArray} : sLt x y = true ↔ toL x < toL y := by
  unfold sLt toL
  rw [bytesLess_iff, ByteArray.toList_eq, ByteArray.toList_eq]
theorem sLt_irrefl (x : ByteArray) : sLt x x = false := by
  cases h : sLt x x with
  | false => rfl
  | true => exact absurd (sLt_iff.1 h) (List.lt_irrefl _)
theorem sLt_trans {x y z : ByteArray} (h1 : sLt x y = true) (h2 : sLt y z = true) : sLt x z = true := sLt_iff.2 (List.lt_trans (sLt_iff.1 h1) (sLt_iff.1 h2))
theorem sLt_asymm {x y : ByteArray} (h1 : sLt x y = true) : sLt y x = false := by
  cases h : sLt y x with
  | false => rfl
  | true => have := sLt_trans h1 h; rw [sLt_irrefl] at this; simp at this
theorem sLt_ne {x y : ByteArray} (h : sLt x y = true) : ¬ x = y := fun e => by rw [e, sLt_irrefl] at h; simp at h
theorem sLt_total {x y : ByteArray} (h1 : sLt x y = false) (h2 : ¬ x = y) : sLt y x = true := by
  rcases Std.lt_trichotomy (toL x) (toL y) with h | h | h
  · rw [sLt_iff.2 h] at h1; simp at h1
  · exact absurd (toL_inj h) h2
  · exact sLt_iff.2 h
/-- ascending -/
def Asc (l : List ByteArray) : Prop := l.Pairwise fun x y => sLt x y = true
theorem asc_ext : ∀ {a b : List ByteArray}, Asc a → Asc b → (∀ x, x ∈ a ↔ x ∈ b) → a = b
  | [], [], _, _, _ => rfl
  | [], y :: b, _, _, h => by have := (h y).2 (by simp); simp at this
  | x :: a, [], _, _, h => by have := (h x).1 (by simp); simp at this
  | x :: a, y :: b, ha, hb, h => by
    unfold Asc at ha hb
    rw [List.pairwise_cons] at ha hb
    have hxy : x = y := by
      have h1 := (h x).1 (by simp)
      have h2 := (h y).2 (by simp)
      rcases List.mem_cons.1 h1 with h1 | h1
      · exact h1
      · rcases List.mem_cons.1 h2 with h2 | h2
        · exact h2.symm
        · have := sLt_asymm (ha.1 y h2); rw [hb.1 x h1] at this; simp at this
    subst hxy
    congr 1
    refine asc_ext ha.2 hb.2 fun z => ?_
    have hz := h z
    simp only [List.mem_cons] at hz
    constructor
    · intro m
      rcases hz.1 (.inr m) with e | m'
      · exact absurd e.symm (sLt_ne (ha.1 z m))
      · exact m'
    · intro m
      rcases hz.2 (.inr m) with e | m'
      · exact absurd e.symm (sLt_ne (hb.1 z m))
      · exact m'
/-- a text put into its place -/
def putT : List ByteArray → ByteArray → List ByteArray
  | [], s => [s]
  | x :: r, s => if sLt x s = true then x :: putT r s else if sEq x s = true then x :: r else s :: x :: r
theorem mem_putT {y s : ByteArray} : ∀ {l : List ByteArray}, y ∈ putT l s ↔ y = s ∨ y ∈ l
  | [] => by simp [putT]
  | x :: r => by
    simp only [putT]
    split
    · simp only [List.mem_cons, mem_putT (l := r)]
      constructor <;> (intro h; rcases h with h | h | h <;> simp [h])
    · split
      · rename_i h
        have := sEq_iff.1 h
        subst this
        simp
      · simp
theorem asc_putT {s : ByteArray} : ∀ {l : List ByteArray}, Asc l → Asc (putT l s)
  | [], _ => by simp [putT, Asc]
  | x :: r, h => by
    have h' := h
    unfold Asc at h'
    rw [List.pairwise_cons] at h'
    simp only [putT]
    split
    · rename_i hx
      refine List.pairwise_cons.2 ⟨fun y my => ?_, asc_putT h'.2⟩
      rcases mem_putT.1 my with rfl | my
      · exact hx
      · exact h'.1 y my
    · split
      · exact h
      · rename_i hx hne
        have hsx : sLt s x = true := sLt_total (by simpa using hx) (fun e => hne (sEq_iff.2 e))
        refine List.pairwise_cons.2 ⟨fun y my => ?_, h⟩
        rcases List.mem_cons.1 my with rfl | my
        · exact hsx
        · exact sLt_trans hsx (h'.1 y my)
theorem putT_len (s : ByteArray) : ∀ l : List ByteArray, (putT l s).length ≤ l.length + 1
  | [] => by simp [putT]
  | x :: r => by
    have := putT_len s r
    simp only [putT]
    split
    · simp; omega
    · split <;> simp
/-- the different texts in order -/
def sortedT (l : List ByteArray) : List ByteArray := l.foldl putT []
theorem foldPut : ∀ (l acc : List ByteArray), Asc acc → Asc (l.foldl putT acc) ∧ (∀ x, x ∈ l.foldl putT acc ↔ x ∈ l ∨ x ∈ acc) ∧ (l.foldl putT acc).length ≤ l.length + acc.length
  | [], acc, h => ⟨h, fun x => by simp, by simp⟩
  | y :: l, acc, h => by
    obtain ⟨h1, h2, h3⟩ := foldPut l (putT acc y) (asc_putT h)
    refine ⟨h1, fun x => ?_, ?_⟩
    · rw [List.foldl_cons, h2 x, mem_putT]
      rw [List.mem_cons]
      constructor
      · rintro (h | h | h) <;> simp [h]
      · rintro ((h | h) | h) <;> simp [h]
    · have := putT_len y acc
      rw [List.foldl_cons]
      simp only [List.length_cons]
      omega
theorem asc_sortedT (l : List ByteArray) : Asc (sortedT l) := (foldPut l [] List.Pairwise.nil).1
theorem mem_sortedT {x : ByteArray} {l : List ByteArray} : x ∈ sortedT l ↔ x ∈ l := by have := (foldPut l [] List.Pairwise.nil).2.1 x; rw [sortedT, this]; simp
theorem sortedT_len (l : List ByteArray) : (sortedT l).length ≤ l.length := (foldPut l [] List.Pairwise.nil).2.2
theorem sortedT_of {a l : List ByteArray} (h : Asc a) (hm : ∀ x, x ∈ a ↔ x ∈ l) : a = sortedT l := asc_ext h (asc_sortedT l) fun x => by rw [hm, mem_sortedT]
theorem sortedT_congr {a b : List ByteArray} (h : ∀ x, x ∈ a ↔ x ∈ b) : sortedT a = sortedT b := sortedT_of (asc_sortedT a) fun x => by rw [mem_sortedT, h]
def hasT (l : List ByteArray) (s : ByteArray) : Bool := l.any fun x => sEq x s
theorem hasT_iff {l : List ByteArray} {s : ByteArray} : hasT l s = true ↔ s ∈ l := by
  simp only [hasT, List.any_eq_true, sEq_iff]
  constructor
  · rintro ⟨x, h, rfl⟩; exact h
  · exact fun h => ⟨s, h, rfl⟩
/- sorting -/
theorem mem_sortB {x : ByteArray} {l : List ByteArray} : x ∈ sortB l ↔ x ∈ l := by
  simp only [sortB, List.mem_map, List.mem_mergeSort]
  constructor
  · rintro ⟨y, ⟨z, hz, rfl⟩, rfl⟩; rw [ofL_toL]; exact hz
  · exact fun h => ⟨toL x, ⟨x, h, rfl⟩, ofL_toL x⟩
theorem sortB_len (l : List ByteArray) : (sortB l).length = l.length := by simp [sortB]
theorem sortB_le (l : List ByteArray) : (sortB l).Pairwise fun x y => sLt y x = false := by
  unfold sortB
  rw [List.pairwise_map]
  have := List.pairwise_mergeSort (le := fun x y : List UInt8 => decide (x ≤ y)) (fun a b c h1 h2 => by simp at h1 h2 ⊢; exact List.le_trans h1 h2) (fun a b => by simp; exact List.le_total a b) (l.map toL)
  refine this.imp fun {a b} h => ?_
  cases hh : sLt (ofL b) (ofL a) with
  | false => rfl
  | true =>
    have h1 := sLt_iff.1 hh
    rw [toL_ofL, toL_ofL] at h1
    have h2 : a ≤ b := by simpa using h
    exact absurd h1 (List.not_lt.2 h2)
end Go.Proofs.YtlkgkkacnoaeaaaGreatDoor

namespace Go.Proofs.YtlkgkkacnoaeaaaGreatDoor
theorem toL_append (a b : ByteArray) : toL (a ++ b) = toL a ++ toL b := by simp [toL]
theorem ofL_append (a b : List UInt8) : ofL (a ++ b) = ofL a ++ ofL b := toL_inj (by rw [toL_append, toL_ofL, toL_ofL, toL_ofL])
theorem ofL_size (a : List UInt8) : (ofL a).size = a.length := by rw [← toL_len, toL_ofL]
theorem ba_assoc (a b c : ByteArray) : (a ++ b) ++ c = a ++ (b ++ c) := toL_inj (by simp only [toL_append, List.append_assoc])
theorem ba_size (a b : ByteArray) : (a ++ b).size = a.size + b.size := by rw [← toL_len, ← toL_len, ← toL_len, toL_append, List.length_append]
theorem wrap_in {n : Int} (h0 : -9223372036854775808 ≤ n) (h1 : n ≤ 9223372036854775807) : IntKind.i64.wrap n = n := by rw [IntKind.wrap_i64]; omega
/-- a digit as the reference makes it -/
theorem digit_eq (u : Nat) (hu : u < 9223372036854775808) : bytesS [IntKind.u8.wrap (IntKind.i64.wrap (48 + Int.tmod (u : Int) 10))] = ofL [UInt8.ofNat (48 + u % 10)] := by
  have h1 : Int.tmod (u : Int) 10 = ((u % 10 : Nat) : Int) := by rw [Int.tmod_eq_emod_of_nonneg (by omega)]; omega
  rw [h1, wrap_in (by omega) (by omega), IntKind.wrap_u8, show (48 + ((u % 10 : Nat) : Int)) % 256 = ((48 + u % 10 : Nat) : Int) by omega]
  apply toL_inj
  rw [toL_ofL]
  simp only [bytesS, List.map_cons, List.map_nil, toL, Int.toNat_natCast]
theorem rest_eq (u : Nat) (hu : u < 9223372036854775808) : IntKind.i64.wrap (Int.tdiv (u : Int) 10) = ((u / 10 : Nat) : Int) := by
  rw [Int.tdiv_eq_ediv_of_nonneg (by omega), wrap_in (by omega) (by omega)]
  omega
/-- the reference's loop -/
theorem fmt_loop {body : Int × ByteArray → Option ((Int × ByteArray) ⊕ ByteArray)} (hb : ∀ n t, body (n, t) = chk ((bytesS [IntKind.u8.wrap (IntKind.i64.wrap (48 + Int.tmod n 10))]).size + t.size ≤ 9223372036854775807)
      (if (IntKind.i64.wrap (Int.tdiv n 10) == 0) = true then some (.inr (bytesS [IntKind.u8.wrap (IntKind.i64.wrap (48 + Int.tmod n 10))] ++ t)) else some (.inl (IntKind.i64.wrap (Int.tdiv n 10), bytesS [IntKind.u8.wrap (IntKind.i64.wrap (48 + Int.tmod n 10))] ++ t)))) :
    ∀ (u : Nat) (t : ByteArray), u < 9223372036854775808 → t.size + Lib.nDigits u ≤ 1000 → iter body ((u : Int), t) = some (ofL (Lib.decDigits u) ++ t) := by
  intro u
  induction u using Nat.strongRecOn with
  | ind u ih =>
    intro t hu ht
    rw [iter_eq, hb, digit_eq u hu, rest_eq u hu]
    have hp := Lib.nDigits_pos u
    rw [chk_pos _ (by rw [ofL_size]; simp; omega)]
    by_cases h : u < 10
    · have h0 : u / 10 = 0 := by omega
      rw [h0, Lib.decDigits_one h, show u % 10 = u by omega]
      rfl
    · have h0 : ¬ (((u / 10 : Nat) : Int) == 0) = true := by simp; omega
      rw [if_neg h0]
      have hd := Lib.nDigits_big h
      show iter body (((u / 10 : Nat) : Int), ofL [UInt8.ofNat (48 + u % 10)] ++ t) = _
      rw [ih (u / 10) (by omega) _ (by omega) (by rw [ba_size, ofL_size]; simp; omega), ← ba_assoc, ← ofL_append]
      congr 2
      rw [show Lib.decDigits u = Lib.decDigits (u / 10) ++ [UInt8.ofNat (48 + u % 10)] by rw [Lib.decDigits, dif_neg h]]
theorem ba_nil (t : ByteArray) : t ++ (⟨#[]⟩ : ByteArray) = t := toL_inj (by rw [toL_append]; simp [toL])
theorem fmt_start {body : Int × ByteArray → Option ((Int × ByteArray) ⊕ ByteArray)} (hb : ∀ n t, body (n, t) = chk ((bytesS [IntKind.u8.wrap (IntKind.i64.wrap (48 + Int.tmod n 10))]).size + t.size ≤ 9223372036854775807)
      (if (IntKind.i64.wrap (Int.tdiv n 10) == 0) = true then some (.inr (bytesS [IntKind.u8.wrap (IntKind.i64.wrap (48 + Int.tmod n 10))] ++ t)) else some (.inl (IntKind.i64.wrap (Int.tdiv n 10), bytesS [IntKind.u8.wrap (IntKind.i64.wrap (48 + Int.tmod n 10))] ++ t))))
    {n : Int} (h0 : 0 ≤ n) (h1 : n ≤ 9223372036854775807) : iter body (n, ⟨#[]⟩) = some (ofL (Lib.itoa n)) := by
  obtain ⟨u, rfl⟩ : ∃ u : Nat, n = (u : Int) := ⟨n.toNat, by omega⟩
  have := Lib.nDigits_le20 u (by omega)
  rw [fmt_loop hb u _ (by omega) (by show 0 + _ ≤ _; omega), ba_nil, Lib.itoa_nonneg]
theorem itoa_least : ofL (Lib.itoa (-9223372036854775808)) = (⟨#[45, 57, 50, 50, 51, 51, 55, 50, 48, 51, 54, 56, 53, 52, 55, 55, 53, 56, 48, 56]⟩ : ByteArray) := by
  rw [show (-9223372036854775808 : Int) = -((9223372036854775808 : Nat) : Int) by rfl, Lib.itoa_neg _ (by omega), Lib.decDigits_eq, Lib.nDigits_unique 18 _ (by decide) (by decide)]
  decide +kernel
theorem s_FormatInt_0_eq {n : Int} (h0 : 0 ≤ n) (h1 : n ≤ 9223372036854775807) : s_FormatInt_0 n = some (ofL (Lib.itoa n)) := by
  unfold s_FormatInt_0
  rw [if_neg (by simp; omega), if_neg (by simp; omega)]
  exact fmt_start (fun _ _ => rfl) h0 h1
theorem s_FormatInt_eq {n : Int} (h : wfInt n) : s_FormatInt n = some (ofL (Lib.itoa n)) := by
  unfold s_FormatInt
  by_cases hm : n = -9223372036854775808
  · subst hm
    rw [if_pos (by decide), itoa_least]
  · rw [if_neg (by simpa using hm)]
    by_cases hn : n < 0
    · have h2 : wfInt n := h
      unfold wfInt at h2
      rw [if_pos (by simpa using hn), wrap_in (by omega) (by omega), s_FormatInt_0_eq (by omega) (by omega), Option.bind_some]
      obtain ⟨u, rfl⟩ : ∃ u : Nat, n = -(u : Int) := ⟨n.natAbs, by omega⟩
      rw [show (0 - -(u : Int)) = (u : Int) by omega, Lib.itoa_nonneg, Lib.itoa_neg u (by omega)]
      have := Lib.nDigits_le20 u (by omega)
      rw [chk_pos _ (by rw [ofL_size, Lib.decDigits_length]; show 1 + _ ≤ _; omega)]
      exact congrArg some (toL_inj (by rw [toL_append, toL_ofL, toL_ofL]; rfl))
    · rw [if_neg (by simpa using hn)]
      exact fmt_start (fun _ _ => rfl) (by omega) h.2
theorem i_FormatInt_eq {n : Int} (h : wfInt n) : i_FormatInt n = some (ofL (Lib.itoa n)) := by
  have h2 : -9223372036854775808 ≤ n ∧ n ≤ 9223372036854775807 := h
  unfold i_FormatInt x_Itoa
  rw [chk_pos _ h2]
  rfl
end Go.Proofs.YtlkgkkacnoaeaaaGreatDoor
