/- Words for memory: a slice value that reads as a list of cells, with the list of blocks that it touches; what is kept over new blocks, draws and stores elsewhere. No program in sight. -/
import Derived.WalkKit
import Derived.Lib.Hide
import Derived.Deep.Draws
import Derived.Maps.AppendAt
import Derived.Deep.QuietTactic
import Derived.BigQuiet
namespace Go.Proofs.Ytfmplnebdldpdaa
open Go.RowKit

theorem add_lit0 (b off j : Nat) : (⟨b, off, none⟩ : Addr).add j = ⟨b, off + j, none⟩ := by
  unfold Addr.add; split <;> simp_all

/-- the cells from (b, off) on are these -/
def CellsAt (w : World) (b off : Nat) (xs : List Value) : Prop := ∀ j u, xs[j]? = some u → w.cell? ⟨b, off + j, none⟩ = some u

/-- the slice '.slice A n c' of elements of 'size' cells holds the cells xs; L: the block that it touches -/
def Sl (w : World) (size : Nat) (A : Option Addr) (n : Nat) (xs : List Value) (L : List Nat) : Prop :=
  xs.length = n * size ∧ ((n = 0 ∧ L = []) ∨ (0 < n ∧ ∃ b off, A = some ⟨b, off, none⟩ ∧ L = [b] ∧ CellsAt w b off xs))

section
variable {w w' : World} {size n : Nat} {A : Option Addr} {xs : List Value} {L : List Nat}
theorem Sl.zero : Sl w size A 0 [] [] := ⟨by simp, .inl ⟨rfl, rfl⟩⟩
theorem Sl.at_ (h : Sl w size A n xs L) (hn : 0 < n) : ∃ b off, A = some ⟨b, off, none⟩ ∧ L = [b] ∧ CellsAt w b off xs := by
  rcases h.2 with ⟨h0, _⟩ | ⟨_, h⟩
  · omega
  · exact h
theorem Sl.keep (h : Sl w size A n xs L) (hk : ∀ b ∈ L, w'.heap[b]? = w.heap[b]?) : Sl w' size A n xs L := by
  refine ⟨h.1, ?_⟩
  rcases h.2 with h0 | ⟨hn, b, off, hA, hL, hc⟩
  · exact .inl h0
  · refine .inr ⟨hn, b, off, hA, hL, fun j u hu => ?_⟩
    rw [← hc j u hu]
    exact World.cell?_of_block (hk b (by simp [hL]))
theorem Sl.lt (h : Sl w size A n xs L) (hs : 0 < size) : ∀ b ∈ L, b < w.heap.size := by
  rcases h.2 with h0 | ⟨hn, b, off, hA, hL, hc⟩
  · simp [h0.2]
  · intro x hx
    rw [hL] at hx
    simp at hx
    subst hx
    have hp : 0 < xs.length := by rw [h.1]; exact Nat.mul_pos hn hs
    exact World.block_lt_of_cell? w _ (hc 0 _ (List.getElem?_eq_getElem hp))
end

/-- blocks that are plain rows of cells, none frozen, different, from 'base' on -/
structure Own (w : World) (base : Nat) (L : List Nat) : Prop where
  nodup : L.Nodup
  ge : ∀ b ∈ L, base ≤ b
  plain : ∀ b ∈ L, ∃ cur e, w.heap[b]? = some (.cells cur e (0, 0))

theorem Own.nil (w : World) (base : Nat) : Own w base [] := ⟨List.nodup_nil, by simp, by simp⟩
theorem Own.lt {w : World} {base : Nat} {L : List Nat} (h : Own w base L) : ∀ b ∈ L, b < w.heap.size := by
  intro b hb
  obtain ⟨cur, e, hc⟩ := h.plain b hb
  exact (Array.getElem?_eq_some_iff.1 hc).1
theorem Own.keep {w w' : World} {base : Nat} {L : List Nat} (h : Own w base L) (hk : ∀ b ∈ L, w'.heap[b]? = w.heap[b]?) : Own w' base L :=
  ⟨h.nodup, h.ge, fun b hb => by rw [hk b hb]; exact h.plain b hb⟩
theorem Own.mono {w : World} {base base' : Nat} {L : List Nat} (h : Own w base L) (hb : base' ≤ base) : Own w base' L :=
  ⟨h.nodup, fun b m => Nat.le_trans hb (h.ge b m), h.plain⟩

/-- below a bound all blocks are kept -/
theorem keep_below {B : Nat} {w w' : World} {L : List Nat} (hb : Below B w w') (h : ∀ b ∈ L, b < B) : ∀ b ∈ L, w'.heap[b]? = w.heap[b]? :=
  fun b m => hb.block b (h b m)

/-- a row of the call's own reads as a slice -/
theorem Sl.of_own {w : World} {base : Nat} {e : TypeId} {size n c : Nat} {A : Option Addr} {xs : List Value} (h : w.ownsRow base e size (.slice A n c) n xs) :
    ∃ L, Sl w size A n xs L ∧ Own w base L ∧ ∀ b ∈ L, A = some ⟨b, 0, none⟩ := by
  rcases h.2 with ⟨hv, hn⟩ | ⟨g, cap, cur, hv, hb, hg, hnc, hm, hs, ht⟩
  · subst hn
    exact ⟨[], ⟨h.1, .inl ⟨rfl, rfl⟩⟩, Own.nil _ _, by simp⟩
  · injection hv with hA _ _
    subst hA
    rcases Nat.eq_zero_or_pos n with h0 | h0
    · subst h0
      exact ⟨[], ⟨h.1, .inl ⟨rfl, rfl⟩⟩, Own.nil _ _, by simp⟩
    · refine ⟨[g], ⟨h.1, .inr ⟨h0, g, 0, rfl, rfl, fun j u hu => ?_⟩⟩, ⟨by simp, by simpa using hb, fun b m => ?_⟩, by simp⟩
      · rw [← add_lit0]
        exact h.cells (g := g) rfl j u hu
      · simp at m
        subst m
        exact ⟨cur, e, hg⟩

theorem own_slice {w : World} {base : Nat} {e : TypeId} {size n : Nat} {v : Value} {xs : List Value} (h : w.ownsRow base e size v n xs) :
    ∃ A c, v = .slice A n c ∧ n ≤ c ∧ c ≤ maxLen := by
  rcases h.2 with ⟨rfl, rfl⟩ | ⟨g, cap, cur, rfl, hb, hg, hnc, hm, hs, ht⟩
  · exact ⟨none, 0, rfl, Nat.le_refl _, Nat.zero_le _⟩
  · exact ⟨_, cap, rfl, hnc, hm⟩

/-- only blocks of L, and new ones, have turned -/
structure Only (L : List Nat) (w w' : World) : Prop where
  os : w'.os = w.os
  tape : w'.tape = w.tape
  output : w'.output = w.output
  size : w.heap.size ≤ w'.heap.size
  block : ∀ k, k < w.heap.size → k ∉ L → w'.heap[k]? = w.heap[k]?

theorem Only.refl (L : List Nat) (w : World) : Only L w w := ⟨rfl, rfl, rfl, Nat.le_refl _, fun _ _ _ => rfl⟩
theorem Only.trans {L : List Nat} {a b c : World} (h : Only L a b) (k : Only L b c) : Only L a c :=
  ⟨k.os.trans h.os, k.tape.trans h.tape, k.output.trans h.output, Nat.le_trans h.size k.size, fun i hi hn => (k.block i (Nat.lt_of_lt_of_le hi h.size) hn).trans (h.block i hi hn)⟩
theorem Only.mono {L L' : List Nat} {w w' : World} (h : Only L w w') (hl : ∀ b ∈ L, b ∈ L') : Only L' w w' :=
  ⟨h.os, h.tape, h.output, h.size, fun k hk hn => h.block k hk (fun m => hn (hl k m))⟩
theorem Only.below {L : List Nat} {B : Nat} {w w' : World} (h : Only L w w') (hB : B ≤ w.heap.size) (hl : ∀ b ∈ L, B ≤ b) : Below B w w' :=
  ⟨h.os, h.tape, h.output, h.size, fun k hk => h.block k (by omega) (fun m => by have := hl k m; omega)⟩
theorem Only.of_below {w w' : World} (h : Below w.heap.size w w') (L : List Nat) : Only L w w' := ⟨h.os, h.tape, h.output, h.size, fun k hk _ => h.block k hk⟩
theorem Only.keep {L M : List Nat} {w w' : World} (h : Only L w w') (hl : ∀ b ∈ M, b < w.heap.size) (hd : ∀ b ∈ M, b ∉ L) : ∀ b ∈ M, w'.heap[b]? = w.heap[b]? :=
  fun b m => h.block b (hl b m) (hd b m)
theorem Only.setCell {L : List Nat} {a w : World} (h : Only L a w) {p : Addr} (hp : p.block ∈ L) (u : Value) : Only L a (w.setCell p u) :=
  h.trans ⟨rfl, rfl, rfl, by simp [World.setCell], fun k _ hn => Below.heap_setCell _ _ _ _ (fun e => hn (by rw [e]; exact hp))⟩
theorem Only.drew {L : List Nat} {a w : World} (h : Only L a w) : Only L a w.drew := ⟨h.os, h.tape, h.output, h.size, h.block⟩
theorem Only.drewN {L : List Nat} {a w : World} (h : Only L a w) (n : Nat) : Only L a (w.drewN n) := ⟨h.os, h.tape, h.output, h.size, h.block⟩

theorem below_drewN {B : Nat} {a w : World} (h : Below B a w) (n : Nat) : Below B a (w.drewN n) := ⟨h.os, h.tape, h.output, h.size, h.block⟩
theorem below_of_drewN (B : Nat) (w : World) (n : Nat) : Below B w (w.drewN n) := below_drewN (Below.refl _ _) n

theorem drew_ex (w : World) (q p : Nat) : ∃ r, (w.drewN q).drewN p = w.drewN r := ⟨q + p, World.drewN_drewN w q p⟩
theorem drew_ex1 (w : World) (q : Nat) : ∃ r, w.drewN q = w.drewN r := ⟨q, rfl⟩

/-- a cell of a plain block is not frozen -/
theorem Own.frozen {w : World} {base : Nat} {L : List Nat} (h : Own w base L) {b : Nat} (hb : b ∈ L) (o : Nat) : w.frozen? ⟨b, o, none⟩ = false := by
  obtain ⟨cur, e, hc⟩ := h.plain b hb
  simp [World.frozen?, hc]
theorem Own.setCell {w : World} {base : Nat} {L : List Nat} (h : Own w base L) (b o : Nat) (u : Value) : Own (w.setCell ⟨b, o, none⟩ u) base L := by
  refine ⟨h.nodup, h.ge, fun x hx => ?_⟩
  obtain ⟨cur, e, hc⟩ := h.plain x hx
  by_cases hxb : x = b
  · subst hxb
    exact ⟨cur.setIfInBounds o u, e, by simp [World.setCell, Array.getElem?_modify, hc]⟩
  · exact ⟨cur, e, by rw [Below.heap_setCell _ _ _ _ (by simpa using hxb)]; exact hc⟩

theorem cell_setCell_same {w : World} {b o : Nat} {u v : Value} (h : w.cell? ⟨b, o, none⟩ = some v) : (w.setCell ⟨b, o, none⟩ u).cell? ⟨b, o, none⟩ = some u := by
  unfold World.cell? at h ⊢
  unfold World.setCell
  simp only [Array.getElem?_modify, if_true]
  cases hb : w.heap[b]? with
  | none => simp [hb] at h
  | some ob =>
    cases ob <;> simp [hb] at h ⊢
    have hlt := (Array.getElem?_eq_some_iff.1 h).1
    simp [Array.getElem?_setIfInBounds, hlt]

/-- a store into a slice's cell -/
theorem Sl.set {w : World} {size n : Nat} {b off : Nat} {xs : List Value} {L : List Nat} (h : Sl w size (some ⟨b, off, none⟩) n xs L) (j : Nat) (hj : j < xs.length) (u : Value) :
    Sl (w.setCell ⟨b, off + j, none⟩ u) size (some ⟨b, off, none⟩) n (xs.set j u) L := by
  refine ⟨by simpa using h.1, ?_⟩
  rcases h.2 with ⟨h0, hL⟩ | ⟨hn, b', off', hA, hL, hc⟩
  · exact .inl ⟨h0, hL⟩
  · simp only [Option.some.injEq, Addr.mk.injEq, and_true] at hA
    obtain ⟨rfl, rfl⟩ := hA
    refine .inr ⟨hn, b, off, rfl, hL, fun i v hv => ?_⟩
    by_cases hij : i = j
    · subst hij
      have hv' : v = u := by
        rw [List.getElem?_set] at hv
        simp [hj] at hv
        exact hv.symm
      subst hv'
      exact cell_setCell_same (hc i _ (List.getElem?_eq_getElem hj))
    · rw [List.getElem?_set] at hv
      rw [if_neg (fun e => hij e.symm)] at hv
      rw [World.cell?_setCell_other]
      · exact hc i v hv
      · intro e; injection e with _ e; omega

theorem ownsRow_mono {w : World} {base base' : Nat} {e : TypeId} {size n : Nat} {v : Value} {xs : List Value} (h : w.ownsRow base e size v n xs) (hb : base' ≤ base) : w.ownsRow base' e size v n xs := by
  refine ⟨h.1, ?_⟩
  rcases h.2 with h0 | ⟨g, cap, cur, hv, hg, r⟩
  · exact .inl h0
  · exact .inr ⟨g, cap, cur, hv, Nat.le_trans hb hg, r⟩
theorem drop_cons {α : Type} {l : List α} {k : Nat} {d : α} (h : k < l.length) : l.drop k = l.getD k d :: l.drop (k + 1) := by
  rw [List.drop_eq_getElem_cons h]; simp [h]
theorem take_snoc {α : Type} {l : List α} {k : Nat} {d : α} (h : k < l.length) : l.take (k + 1) = l.take k ++ [l.getD k d] := by
  rw [List.take_succ_eq_append_getElem h]; simp [h]
theorem fill_get {α : Type} (zs : List α) (z : α) (k n : Nat) (h : n = zs.length) (hk : k < n) : (zs.take k ++ List.replicate (n - k) z)[k]? = some z := by
  rw [List.getElem?_append_right (by simp; omega), List.getElem?_replicate, if_pos (by simp; omega)]
theorem fill_set {α : Type} (zs : List α) (z d : α) (k n : Nat) (h : n = zs.length) (hk : k < n) :
    (zs.take k ++ List.replicate (n - k) z).set k (zs.getD k d) = zs.take (k + 1) ++ List.replicate (n - (k + 1)) z := by
  rw [List.set_append_right _ _ (by simp; omega), take_snoc (d := d) (by omega)]
  have e : k - (zs.take k).length = 0 := by simp; omega
  rw [e, show n - k = (n - (k + 1)) + 1 by omega, List.replicate_succ, List.set_cons_zero]
  simp

/-- 'out = append(out, x)', out a row of the call's own, x an element of 'size' cells that lies in a new block -/
theorem app_one {P : Program} {ops : Array Oper} {rest : List Oper} {o : Oper} {a : Act} {Q : Exit → Act → World → Prop} {w0 : World} (hgd : o.guard = none) (s x : Operand) (t : TypeId)
    (ho : o.op = .call { callee := .builtin .append, args := #[s, x], argTypes := #[t, t] })
    (e : TypeId) (z : Value) (size bytes : Nat) (ht : P.underlying t = some (.slice e)) (hi : (P.info? e).map (fun i => (i.zero, i.size, i.bytes)) = some (some z, size, bytes)) (hzs : z.cells.size = size) (hsz : 0 < size)
    (base : Nat) (v : Value) (n : Nat) (xs news : List Value) (hs : a.eval s = v) (hx : a.eval x = .slice (some ⟨w0.heap.size, 0, none⟩) 1 1) (hown : w0.ownsRow base e size v n xs)
    (hl : news.length = size) (h1 : ∀ u ∈ news, u.oneCell' = true) (h63 : n + 1 ≤ 9223372036854775807) (hbytes : (n + 1) * bytes ≤ 140737488355328) (hbase : base ≤ w0.heap.size)
    (h : ∀ v' w', w'.ownsRow base e size v' (n + 1) (xs ++ news) → w0.grownBy w' v.ownBlock → (∀ g, v'.ownBlock = some g → v.ownBlock = some g ∨ w0.heap.size ≤ g) → wpList P ops Q rest (a.put o.dst v') w') :
    wpList P ops Q (o :: rest) a (w0.alloc (.cells news.toArray e)) := by
  obtain ⟨i, hi1, hz0, hz1, hz2⟩ := info_parts hi
  refine wpList_plain hgd fun K hK => ?_
  obtain ⟨v', w', hrun, h2, h3, _, h5⟩ := run_append_own_at (P := P) (w0.alloc (.cells news.toArray e)) base t o.type e i z size bytes ht hi1 hz0 hz1 hz2 hzs hsz v n xs (hown.alloc _) ⟨w0.heap.size, 0, none⟩ 1 1 news
    (by omega) (fun j u hu => by rw [add_lit0]; rw [cell_of_row _ w0.heap.size (0 + j) news.toArray e (0, 0) (heap_alloc_new w0 _)]; simpa using hu) h1 (by unfold maxLen; omega) hbytes (by simp; omega)
  unfold Oper.wp execOp
  simp only [ho, resolve, invoke, builtin, Sem.run_bind, Sem.run_pure, Result.andThen_ok, List.map_toArray, List.map_cons, List.map_nil, hs, hx, hrun]
  refine hK _ _ (h v' w' h2 ?_ ?_)
  · exact ⟨h3.os, h3.tape, h3.output, Nat.le_trans (by simp) h3.size, fun k hk hn => (h3.block k (by simp; omega) hn).trans (Below.heap_alloc w0 _ k hk)⟩
  · intro g hg
    rcases h5 with h5 | h5 <;> rw [h5] at hg
    · exact .inl hg
    · simp at hg
      exact .inr (by omega)

/-- the same as one step of a region that draws its order -/
theorem step_app_one {P : Program} {ops : Array Oper} {o : Oper} {a : Act} {K : Act → World → Prop} {Q : Exit → Act → World → Prop} {E : Prop} {w0 : World} (hgd : o.guard = none) (s x : Operand) (t : TypeId)
    (ho : o.op = .call { callee := .builtin .append, args := #[s, x], argTypes := #[t, t] })
    (e : TypeId) (z : Value) (size bytes : Nat) (ht : P.underlying t = some (.slice e)) (hi : (P.info? e).map (fun i => (i.zero, i.size, i.bytes)) = some (some z, size, bytes)) (hzs : z.cells.size = size) (hsz : 0 < size)
    (base : Nat) (v : Value) (n : Nat) (xs news : List Value) (hs : a.eval s = v) (hx : a.eval x = .slice (some ⟨w0.heap.size, 0, none⟩) 1 1) (hown : w0.ownsRow base e size v n xs)
    (hl : news.length = size) (h1 : ∀ u ∈ news, u.oneCell' = true) (h63 : n + 1 ≤ 9223372036854775807) (hbytes : (n + 1) * bytes ≤ 140737488355328) (hbase : base ≤ w0.heap.size)
    (h : ∀ v' w', w'.ownsRow base e size v' (n + 1) (xs ++ news) → w0.grownBy w' v.ownBlock → (∀ g, v'.ownBlock = some g → v.ownBlock = some g ∨ w0.heap.size ≤ g) → K (a.put o.dst v') w') :
    if Region.wanted o (yielded ops a.tmps) = true then Oper.wp P o a (w0.alloc (.cells news.toArray e)).drew K Q else E := by
  have hw : Region.wanted o (yielded ops a.tmps) = true := by simp [Region.wanted, hgd]
  rw [if_pos hw]
  obtain ⟨i, hi1, hz0, hz1, hz2⟩ := info_parts hi
  obtain ⟨v', w', hrun, h2, h3, _, h5⟩ := run_append_own_at (P := P) (w0.alloc (.cells news.toArray e)).drew base t o.type e i z size bytes ht hi1 hz0 hz1 hz2 hzs hsz v n xs (hown.alloc _).drew ⟨w0.heap.size, 0, none⟩ 1 1 news
    (by omega) (fun j u hu => by rw [add_lit0]; rw [cell_of_row (w0.alloc (.cells news.toArray e)).drew w0.heap.size (0 + j) news.toArray e (0, 0) (heap_alloc_new w0 _)]; simpa using hu) h1 (by unfold maxLen; omega) hbytes (by simp; omega)
  unfold Oper.wp execOp
  simp only [ho, resolve, invoke, builtin, Sem.run_bind, Sem.run_pure, Result.andThen_ok, List.map_toArray, List.map_cons, List.map_nil, hs, hx, hrun]
  refine h v' w' h2 ?_ ?_
  · exact ⟨h3.os, h3.tape, h3.output, Nat.le_trans (by simp) h3.size, fun k hk hn => (h3.block k (by simp; omega) hn).trans (Below.heap_alloc w0 _ k hk)⟩
  · intro g hg
    rcases h5 with h5 | h5 <;> rw [h5] at hg
    · exact .inl hg
    · simp at hg
      exact .inr (by omega)

/-- what a call has made so far: a row of its own with the cells xs; all that was there when it began (in W) is as it was -/
structure Acc (W : World) (e size : Nat) (v : Value) (n : Nat) (xs : List Value) (w : World) : Prop where
  own : w.ownsRow W.heap.size e size v n xs
  below : Below W.heap.size W w

theorem Acc.size {W : World} {e size : Nat} {v : Value} {n : Nat} {xs : List Value} {w : World} (h : Acc W e size v n xs w) : W.heap.size ≤ w.heap.size := h.below.size
theorem Acc.nil {W w : World} (e size : Nat) (hb : Below W.heap.size W w) : Acc W e size (.slice none 0 0) 0 [] w := ⟨World.ownsRow_nil _ _ _ _, hb⟩
theorem Acc.made {W w : World} (e size : Nat) (hb : Below W.heap.size W w) : Acc W e size (.slice (some ⟨w.heap.size, 0, none⟩) 0 0) 0 [] (w.alloc (.cells #[] e)) :=
  ⟨World.ownsRow_made w #[] 0 hb.size (by unfold maxLen; omega) (by simp), hb.alloc hb.size _⟩
theorem Acc.drewN {W : World} {e size : Nat} {v : Value} {n : Nat} {xs : List Value} {w : World} (h : Acc W e size v n xs w) (q : Nat) : Acc W e size v n xs (w.drewN q) := ⟨h.own, below_drewN h.below q⟩
theorem own_block_ge {w : World} {base : Nat} {e : TypeId} {size n : Nat} {v : Value} {xs : List Value} (h : w.ownsRow base e size v n xs) : ∀ k, v.ownBlock = some k → base ≤ k := fun k hk => (h.lt k hk).1
/-- a later call that only makes memory keeps it -/
theorem Acc.later {W : World} {e size : Nat} {v : Value} {n : Nat} {xs : List Value} {w w' : World} (h : Acc W e size v n xs w) (hb : Below w.heap.size w w') : Acc W e size v n xs w' :=
  ⟨h.own.kept (row := none) ⟨hb.os, hb.tape, hb.output, hb.size, fun k hk _ => hb.block k hk⟩ (by cases v.ownBlock <;> simp), h.below.trans (hb.mono h.size)⟩

/-- what a callee has made, seen from the caller's start -/
theorem Acc.from_ {W w : World} {e size : Nat} {v : Value} {n : Nat} {xs : List Value} {w' : World} (h : Acc w e size v n xs w') (hb : Below W.heap.size W w) : Acc W e size v n xs w' :=
  ⟨ownsRow_mono h.own hb.size, hb.trans (h.below.mono hb.size)⟩
theorem Acc.shape {W : World} {e size : Nat} {v : Value} {n : Nat} {xs : List Value} {w : World} (h : Acc W e size v n xs w) : ∃ A c, v = .slice A n c ∧ n ≤ c ∧ c ≤ maxLen := own_slice h.own

theorem ret_b {a b : Bool} (h : a = b) : Ending.returned (.bool a) = .returned (.bool b) := by rw [h]
theorem ret_i {k : IntKind} {a b : Int} (h : a = b) : Ending.returned (.int k a) = .returned (.int k b) := by rw [h]

/-- a slice of ints that reads as a list -/
def Ints (w : World) (A : Option Addr) (n : Nat) (zs : List Int) (L : List Nat) : Prop := Sl w 1 A n (zs.map (Value.int .i64)) L
section
variable {w w' : World} {n : Nat} {A : Option Addr} {zs : List Int} {L : List Nat}
theorem Ints.len (h : Ints w A n zs L) : n = zs.length := by have := h.1; simp at this; omega
theorem Ints.at_ {k : Nat} (h : Ints w A n zs L) (hk : k < n) : ∃ b off, A = some ⟨b, off, none⟩ ∧ b ∈ L ∧ w.cell? ⟨b, off + k, none⟩ = some (.int .i64 (zs.getD k 0)) := by
  obtain ⟨b, off, hA, hL, hc⟩ := Sl.at_ h (by omega)
  refine ⟨b, off, hA, by simp [hL], hc k _ ?_⟩
  have := h.len
  simp [List.getElem?_eq_getElem (show k < zs.length by omega)]
theorem Ints.cell {b off k : Nat} (h : Ints w (some ⟨b, off, none⟩) n zs L) (hk : k < n) : w.cell? ⟨b, off + k, none⟩ = some (.int .i64 (zs.getD k 0)) := by
  obtain ⟨b', off', hA, _, hc⟩ := h.at_ hk
  simp only [Option.some.injEq, Addr.mk.injEq, and_true] at hA
  obtain ⟨rfl, rfl⟩ := hA
  exact hc
theorem Ints.keep (h : Ints w A n zs L) (hk : ∀ b ∈ L, w'.heap[b]? = w.heap[b]?) : Ints w' A n zs L := Sl.keep h hk
theorem Ints.lt (h : Ints w A n zs L) : ∀ b ∈ L, b < w.heap.size := Sl.lt h (by omega)
theorem Ints.below (h : Ints w A n zs L) (hb : Below w.heap.size w w') : Ints w' A n zs L := h.keep (keep_below hb h.lt)
end

section
variable {P : Program} {f : FuncId} {args : Array Value} {w : World} {a n : Nat} {v : Value}
theorem quiet_left (h : Calls P f args (w.drewN n) fun e w' => e = .returned v ∧ w.drewN n = w') : Calls P f args (w.drewN n) fun e w'' => e = .returned v ∧ ∃ m, w'' = w.drewN m :=
  h.mono fun _ _ ⟨he, hm⟩ => ⟨he, n, hm.symm⟩
theorem quiet_add_left (h : Calls P f args (w.drewN (a + n)) fun e w' => e = .returned v ∧ w.drewN (a + n) = w') :
    Calls P f args (w.drewN (a + n)) fun e w'' => e = .returned v ∧ ∃ m, w'' = w.drewN (a + m) :=
  h.mono fun _ _ ⟨he, hm⟩ => ⟨he, n, hm.symm⟩
end
theorem ret_s {a b : ByteArray} (h : a = b) : Ending.returned (.string a) = .returned (.string b) := by rw [h]

end Go.Proofs.Ytfmplnebdldpdaa
