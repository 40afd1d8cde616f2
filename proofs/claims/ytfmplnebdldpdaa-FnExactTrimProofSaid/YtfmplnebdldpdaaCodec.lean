/- How Go's data lie in memory, type by type: the cells of a value, the datum that they stand for, the blocks that they touch. No program in sight. -/
import Derived.Test.YtfmplnebdldpdaaBase
namespace Go.Proofs.Ytfmplnebdldpdaa
open Go.RowKit

structure Codec (α : Type) where
  size : Nat
  rep : World → List Value → α → List Nat → Prop
  len : ∀ {w cs x L}, rep w cs x L → cs.length = size
  keep : ∀ {w w' cs x L}, rep w cs x L → (∀ b ∈ L, w'.heap[b]? = w.heap[b]?) → rep w' cs x L
  lt : ∀ {w cs x L}, rep w cs x L → ∀ b ∈ L, b < w.heap.size
  one : ∀ {w cs x L}, rep w cs x L → ∀ u ∈ cs, u.oneCell' = true
  pos : 0 < size

def intC : Codec Int where
  size := 1
  rep := fun _ cs x L => cs = [.int .i64 x] ∧ L = []
  len := fun h => by simp [h.1]
  keep := fun h _ => h
  lt := fun h => by simp [h.2]
  one := fun h => by simp [h.1, Value.oneCell']
  pos := by omega
def strC : Codec ByteArray where
  size := 1
  rep := fun _ cs x L => cs = [.string x] ∧ L = [] ∧ x.size ≤ 9223372036854775807
  len := fun h => by simp [h.1]
  keep := fun h _ => h
  lt := fun h => by simp [h.2.1]
  one := fun h => by simp [h.1, Value.oneCell']
  pos := by omega
def boolC : Codec Bool where
  size := 1
  rep := fun _ cs x L => cs = [.bool x] ∧ L = []
  len := fun h => by simp [h.1]
  keep := fun h _ => h
  lt := fun h => by simp [h.2]
  one := fun h => by simp [h.1, Value.oneCell']
  pos := by omega
def byteC : Codec Int where
  size := 1
  rep := fun _ cs x L => cs = [.int .u8 x] ∧ L = []
  len := fun h => by simp [h.1]
  keep := fun h _ => h
  lt := fun h => by simp [h.2]
  one := fun h => by simp [h.1, Value.oneCell']
  pos := by omega

section
variable {α : Type} (c : Codec α)

/-- the cells of several values, one behind the other -/
def Codec.reps (w : World) : List Value → List α → List Nat → Prop
  | xs, [], L => xs = [] ∧ L = []
  | xs, d :: ds, L => ∃ c1 c2 L1 L2, xs = c1 ++ c2 ∧ L = L1 ++ L2 ∧ c.rep w c1 d L1 ∧ Codec.reps w c2 ds L2
variable {c}
theorem reps_len {w : World} : ∀ {ds : List α} {xs : List Value} {L : List Nat}, c.reps w xs ds L → xs.length = ds.length * c.size
  | [], _, _, h => by simp [h.1]
  | d :: ds, _, _, ⟨c1, c2, L1, L2, rfl, rfl, h1, h2⟩ => by
    have := reps_len h2
    simp [c.len h1, this, Nat.add_mul]; omega
theorem reps_keep {w w' : World} : ∀ {ds : List α} {xs : List Value} {L : List Nat}, c.reps w xs ds L → (∀ b ∈ L, w'.heap[b]? = w.heap[b]?) → c.reps w' xs ds L
  | [], _, _, h, _ => h
  | d :: ds, _, _, ⟨c1, c2, L1, L2, rfl, rfl, h1, h2⟩, hk =>
    ⟨c1, c2, L1, L2, rfl, rfl, c.keep h1 (fun b m => hk b (by simp [m])), reps_keep h2 (fun b m => hk b (by simp [m]))⟩
theorem reps_lt {w : World} : ∀ {ds : List α} {xs : List Value} {L : List Nat}, c.reps w xs ds L → ∀ b ∈ L, b < w.heap.size
  | [], _, _, h => by simp [h.2]
  | d :: ds, _, _, ⟨c1, c2, L1, L2, rfl, rfl, h1, h2⟩ => by
    intro b m
    rcases List.mem_append.1 m with m | m
    · exact c.lt h1 b m
    · exact reps_lt h2 b m
theorem reps_one {w : World} : ∀ {ds : List α} {xs : List Value} {L : List Nat}, c.reps w xs ds L → ∀ u ∈ xs, u.oneCell' = true
  | [], _, _, h => by simp [h.1]
  | d :: ds, _, _, ⟨c1, c2, L1, L2, rfl, rfl, h1, h2⟩ => by
    intro b m
    rcases List.mem_append.1 m with m | m
    · exact c.one h1 b m
    · exact reps_one h2 b m
theorem reps_append {w : World} : ∀ {ds es : List α} {xs ys : List Value} {L M : List Nat}, c.reps w xs ds L → c.reps w ys es M → c.reps w (xs ++ ys) (ds ++ es) (L ++ M)
  | [], es, _, ys, _, M, h, h' => by obtain ⟨rfl, rfl⟩ := h; simpa using h'
  | d :: ds, es, _, ys, _, M, ⟨c1, c2, L1, L2, rfl, rfl, h1, h2⟩, h' =>
    ⟨c1, c2 ++ ys, L1, L2 ++ M, by simp, by simp, h1, reps_append h2 h'⟩
theorem reps_one_of {w : World} {d : α} {cs : List Value} {L : List Nat} (h : c.rep w cs d L) : c.reps w cs [d] L := ⟨cs, [], L, [], by simp, by simp, h, rfl, rfl⟩
theorem reps_split {w : World} : ∀ {ds es : List α} {xs : List Value} {L : List Nat}, c.reps w xs (ds ++ es) L →
    ∃ x1 x2 L1 L2, xs = x1 ++ x2 ∧ L = L1 ++ L2 ∧ c.reps w x1 ds L1 ∧ c.reps w x2 es L2
  | [], es, xs, L, h => ⟨[], xs, [], L, rfl, rfl, ⟨rfl, rfl⟩, h⟩
  | d :: ds, es, _, _, ⟨c1, c2, L1, L2, rfl, rfl, h1, h2⟩ => by
    obtain ⟨x1, x2, M1, M2, rfl, rfl, h3, h4⟩ := reps_split h2
    exact ⟨c1 ++ x1, x2, L1 ++ M1, M2, by simp, by simp, ⟨c1, x1, L1, M1, rfl, rfl, h1, h3⟩, h4⟩
/-- the element at k -/
theorem reps_at {w : World} {ds : List α} {xs : List Value} {L : List Nat} (h : c.reps w xs ds L) {k : Nat} (hk : k < ds.length) :
    ∃ x1 cs x2 L1 Lk L2, xs = x1 ++ (cs ++ x2) ∧ x1.length = k * c.size ∧ L = L1 ++ (Lk ++ L2) ∧ c.reps w x1 (ds.take k) L1 ∧ c.rep w cs ds[k] Lk ∧ c.reps w x2 (ds.drop (k + 1)) L2 := by
  have e : ds = ds.take k ++ (ds[k] :: ds.drop (k + 1)) := by rw [← List.drop_eq_getElem_cons hk, List.take_append_drop]
  rw [e] at h
  obtain ⟨x1, x2, L1, L2, rfl, rfl, h1, c1, c2, M1, M2, rfl, rfl, h2, h3⟩ := reps_split h
  refine ⟨x1, c1, c2, L1, M1, M2, rfl, ?_, rfl, h1, h2, h3⟩
  have := reps_len h1
  rw [this, List.length_take, Nat.min_eq_left (by omega)]

/-- a slice of such values -/
def Sli (c : Codec α) (w : World) (A : Option Addr) (ds : List α) (L : List Nat) : Prop :=
  ∃ xs L0 L1, L = L0 ++ L1 ∧ Sl w c.size A ds.length xs L0 ∧ c.reps w xs ds L1
theorem Sli.nil (w : World) (A : Option Addr) : Sli c w A [] [] := ⟨[], [], [], rfl, Sl.zero, rfl, rfl⟩
theorem Sli.keep {w w' : World} {A : Option Addr} {ds : List α} {L : List Nat} (h : Sli c w A ds L) (hk : ∀ b ∈ L, w'.heap[b]? = w.heap[b]?) : Sli c w' A ds L := by
  obtain ⟨xs, L0, L1, rfl, h1, h2⟩ := h
  exact ⟨xs, L0, L1, rfl, h1.keep (fun b m => hk b (by simp [m])), reps_keep h2 (fun b m => hk b (by simp [m]))⟩
theorem Sli.lt {w : World} {A : Option Addr} {ds : List α} {L : List Nat} (h : Sli c w A ds L) : ∀ b ∈ L, b < w.heap.size := by
  obtain ⟨xs, L0, L1, rfl, h1, h2⟩ := h
  intro b m
  rcases List.mem_append.1 m with m | m
  · exact h1.lt c.pos b m
  · exact reps_lt h2 b m
theorem Sli.below {w w' : World} {A : Option Addr} {ds : List α} {L : List Nat} (h : Sli c w A ds L) (hb : Below w.heap.size w w') : Sli c w' A ds L := h.keep (keep_below hb h.lt)
/-- where the element at k lies -/
theorem Sli.at_ {w : World} {A : Option Addr} {ds : List α} {L : List Nat} (h : Sli c w A ds L) {k : Nat} (hk : k < ds.length) :
    ∃ b off cs Lk, A = some ⟨b, off, none⟩ ∧ b ∈ L ∧ (∀ x ∈ Lk, x ∈ L) ∧ c.rep w cs ds[k] Lk ∧ ∀ j u, cs[j]? = some u → w.cell? ⟨b, off + (k * c.size + j), none⟩ = some u := by
  obtain ⟨xs, L0, L1, rfl, h1, h2⟩ := h
  obtain ⟨x1, cs, x2, M1, Mk, M2, rfl, hx, rfl, _, h3, _⟩ := reps_at h2 hk
  obtain ⟨b, off, hA, hL, hc⟩ := h1.at_ (by omega)
  subst hL
  refine ⟨b, off, cs, Mk, hA, by simp, fun x m => by simp [m], h3, fun j u hu => hc _ u ?_⟩
  rw [List.getElem?_append_right (by omega), hx, Nat.add_sub_cancel_left, List.getElem?_append_left (List.getElem?_eq_some_iff.1 hu).1]
  exact hu

/-- the codec of slices -/
def sliceC (c : Codec α) : Codec (List α) where
  size := 1
  rep := fun w cs ds L => ∃ A cap, cs = [.slice A ds.length cap] ∧ ds.length ≤ cap ∧ cap ≤ maxLen ∧ Sli c w A ds L
  len := fun ⟨_, _, h, _⟩ => by simp [h]
  keep := fun ⟨A, cap, h, h1, h2, h3⟩ hk => ⟨A, cap, h, h1, h2, h3.keep hk⟩
  lt := fun ⟨_, _, _, _, _, h3⟩ => h3.lt
  one := fun ⟨_, _, h, _⟩ => by simp [h, Value.oneCell']
  pos := by omega

theorem Own.append {w : World} {base base' : Nat} {L M : List Nat} (h : Own w base L) (k : Own w base' M) (hb : base ≤ base') (hl : ∀ b ∈ L, b < base') : Own w base (L ++ M) := by
  refine ⟨?_, ?_, ?_⟩
  · rw [List.nodup_append]
    refine ⟨h.nodup, k.nodup, fun a ha b hb' e => ?_⟩
    subst e
    have := hl a ha
    have := k.ge a hb'
    omega
  · intro b m
    rcases List.mem_append.1 m with m | m
    · exact h.ge b m
    · exact Nat.le_trans hb (k.ge b m)
  · intro b m
    rcases List.mem_append.1 m with m | m
    · exact h.plain b m
    · exact k.plain b m
theorem Own.sub {w : World} {base : Nat} {L M : List Nat} (h : Own w base L) (hs : M.Sublist L) : Own w base M :=
  ⟨h.nodup.sublist hs, fun b m => h.ge b (hs.subset m), fun b m => h.plain b (hs.subset m)⟩

/-- a value of codec c (its cells cs) whose blocks are the call's own -/
structure Got (c : Codec α) (base : Nat) (cs : List Value) (x : α) (L : List Nat) (w : World) : Prop where
  rep : c.rep w cs x L
  own : Own w base L
section
variable {c : Codec α} {base : Nat} {cs : List Value} {x : α} {L M : List Nat} {w w' : World}
theorem Got.keep (h : Got c base cs x L w) (hk : ∀ b ∈ L, w'.heap[b]? = w.heap[b]?) : Got c base cs x L w' := ⟨c.keep h.rep hk, h.own.keep hk⟩
theorem Got.later (h : Got c base cs x L w) (hb : Below w.heap.size w w') : Got c base cs x L w' := h.keep (keep_below hb h.own.lt)
theorem Got.drewN (h : Got c base cs x L w) (q : Nat) : Got c base cs x L (w.drewN q) := h.keep fun _ _ => rfl
theorem Got.setCell (h : Got c base cs x L w) {p : Addr} (hp : p.block < base) (u : Value) : Got c base cs x L (w.setCell p u) :=
  h.keep fun b m => Below.heap_setCell w p u b (by have := h.own.ge b m; omega)
theorem Got.alloc (h : Got c base cs x L w) (o : Obj) : Got c base cs x L (w.alloc o) := h.keep fun b m => Below.heap_alloc w o b (h.own.lt b m)
theorem Got.only (h : Got c base cs x L w) (ho : Only M w w') (hd : ∀ b ∈ L, b ∉ M) : Got c base cs x L w' := h.keep (ho.keep h.own.lt hd)
theorem Got.lt (h : Got c base cs x L w) : ∀ b ∈ L, b < w.heap.size := h.own.lt
theorem Got.mono {base' : Nat} (h : Got c base cs x L w) (hb : base' ≤ base) : Got c base' cs x L w := ⟨h.rep, h.own.mono hb⟩
end

/-- what a call leaves that gives a new value of codec c (a struct) -/
def Gives (c : Codec α) (w : World) (x : α) (e : Ending) (w' : World) : Prop := ∃ cs L, e = .returned (.agg cs.toArray) ∧ Got c w.heap.size cs x L w' ∧ Below w.heap.size w w'

theorem sliceC_out {c : Codec α} {w : World} {A : Option Addr} {n cap : Nat} {ds : List α} {L : List Nat} (h : (sliceC c).rep w [.slice A n cap] ds L) : ds.length ≤ cap ∧ cap ≤ maxLen ∧ Sli c w A ds L := by
  obtain ⟨A', cap', hv, h1, h2, h3⟩ := h
  cases hv
  exact ⟨h1, h2, h3⟩

/-- a row that the call has made, with what its elements lead to -/
structure AccC (c : Codec α) (E : TypeId) (W : World) (v : Value) (ds : List α) (w : World) : Prop where
  ex : ∃ xs L1, w.ownsRow W.heap.size E c.size v ds.length xs ∧ c.reps w xs ds L1 ∧ Own w W.heap.size (v.ownBlock.toList ++ L1)
  below : Below W.heap.size W w
def GivesS (c : Codec α) (E : TypeId) (w : World) (ds : List α) (e : Ending) (w' : World) : Prop := ∃ v, e = .returned v ∧ AccC c E w v ds w'
theorem AccC.shape {c : Codec α} {E : TypeId} {W w : World} {v : Value} {ds : List α} (h : AccC c E W v ds w) : ∃ A cap, v = .slice A ds.length cap := by
  obtain ⟨xs, L1, h1, _⟩ := h.ex
  obtain ⟨A, cap, hv, _⟩ := own_slice h1
  exact ⟨A, cap, hv⟩
theorem AccC.got {c : Codec α} {E : TypeId} {W w : World} {v : Value} {ds : List α} (h : AccC c E W v ds w) : ∃ L, Got (sliceC c) W.heap.size [v] ds L w := by
  obtain ⟨xs, L1, h1, h2, h3⟩ := h.ex
  obtain ⟨A, cap, rfl, hn, hm⟩ := own_slice h1
  obtain ⟨L0, hs, ho, hb⟩ := Sl.of_own h1
  refine ⟨L0 ++ L1, ⟨A, cap, rfl, hn, hm, xs, L0, L1, rfl, hs, h2⟩, h3.sub ?_⟩
  refine List.Sublist.append ?_ (List.Sublist.refl _)
  rcases hs.2 with ⟨_, h0⟩ | ⟨_, b, off, rfl, h0, _⟩
  · subst h0; exact List.nil_sublist _
  · subst h0
    simp [Value.ownBlock]

end

/-- several cells stored one behind the other -/
def setCs (w : World) (g p : Nat) : List Value → World
  | [] => w
  | u :: r => setCs (w.setCell ⟨g, p, none⟩ u) g (p + 1) r
def setMany (xs : List Value) (p : Nat) : List Value → List Value
  | [] => xs
  | u :: r => setMany (xs.set p u) (p + 1) r
theorem setMany_append (x1 : List Value) : ∀ (cs x2 : List Value), cs.length ≤ x2.length → setMany (x1 ++ x2) x1.length cs = x1 ++ (cs ++ x2.drop cs.length)
  | [], x2, _ => by simp [setMany]
  | u :: r, [], h => by simp at h
  | u :: r, y :: x2, h => by
    rw [setMany, List.set_append_right _ _ (Nat.le_refl _), Nat.sub_self, List.set_cons_zero]
    have e : x1 ++ u :: x2 = (x1 ++ [u]) ++ x2 := by simp
    have l : x1.length + 1 = (x1 ++ [u]).length := by simp
    rw [e, l, setMany_append (x1 ++ [u]) r x2 (by simpa using h)]
    simp
theorem stored_many {base : Nat} {e : TypeId} {size g n cap : Nat} : ∀ (cs : List Value) (w : World) (xs : List Value) (p : Nat), w.ownsRow base e size (.slice (some ⟨g, 0, none⟩) n cap) n xs →
    (setCs w g p cs).ownsRow base e size (.slice (some ⟨g, 0, none⟩) n cap) n (setMany xs p cs) ∧ w.grownBy (setCs w g p cs) (some g)
  | [], w, xs, p, h => ⟨h, World.grownBy.refl _ _⟩
  | u :: r, w, xs, p, h => by
    obtain ⟨h1, h2⟩ := h.stored p u
    obtain ⟨h3, h4⟩ := stored_many r _ _ (p + 1) h1
    exact ⟨h3, ⟨h4.os.trans h2.os, h4.tape.trans h2.tape, h4.output.trans h2.output, Nat.le_trans h2.size h4.size, fun k hk hn => (h4.block k (Nat.lt_of_lt_of_le hk h2.size) hn).trans (h2.block k hk hn)⟩⟩

/-- a new row of n elements of which the first k are filled -/
structure Filling {α : Type} (c : Codec α) (E : TypeId) (W : World) (n : Nat) (ds : List α) (k : Nat) (w : World) : Prop where
  ex : ∃ x1 x2 L1, w.ownsRow W.heap.size E c.size (.slice (some ⟨W.heap.size, 0, none⟩) n n) n (x1 ++ x2) ∧ c.reps w x1 (ds.take k) L1 ∧ x2.length = (n - k) * c.size ∧ Own w W.heap.size (W.heap.size :: L1)
  below : Below W.heap.size W w
section
variable {α : Type} {c : Codec α} {E : TypeId} {W : World} {n : Nat} {ds : List α} {k : Nat} {w w' : World}
theorem Filling.start {ys : List Value} (h : w.ownsRow W.heap.size E c.size (.slice (some ⟨W.heap.size, 0, none⟩) n n) n ys) (hb : Below W.heap.size W w) : Filling c E W n ds 0 w := by
  refine ⟨⟨[], ys, [], h, ⟨rfl, rfl⟩, by simpa using h.1, by simp, by simp, ?_⟩, hb⟩
  intro b m
  simp at m
  subst m
  rcases h.2 with ⟨h', _⟩ | ⟨g', cap', cur, h', _, hg, _⟩
  · simp at h'
  · simp at h'; obtain ⟨h', _⟩ := h'; subst h'; exact ⟨cur, E, hg⟩
theorem Filling.later (h : Filling c E W n ds k w) (hb : Below w.heap.size w w') : Filling c E W n ds k w' := by
  obtain ⟨⟨x1, x2, L1, h1, h2, h3, h4⟩, hB⟩ := h
  have hk := keep_below hb h4.lt
  refine ⟨⟨x1, x2, L1, ?_, reps_keep h2 (fun b m => hk b (by simp [m])), h3, h4.keep hk⟩, hB.trans (hb.mono hB.size)⟩
  exact h1.kept (row := none) ⟨hb.os, hb.tape, hb.output, hb.size, fun k hk _ => hb.block k hk⟩ (by simp [Value.ownBlock])
theorem Filling.cell (h : Filling c E W n ds k w) (hk : k < n) {j : Nat} (hj : j < c.size) : ∃ d, w.cell? ⟨W.heap.size, k * c.size + j, none⟩ = some d := by
  obtain ⟨⟨x1, x2, L1, h1, h2, h3, h4⟩, hB⟩ := h
  have hlt : k * c.size + j < n * c.size := by
    have := Nat.mul_le_mul_right c.size (show k + 1 ≤ n from hk)
    rw [Nat.add_mul] at this
    omega
  rw [h1.cellAt _ hlt]
  exact ⟨_, List.getElem?_eq_getElem (by rw [h1.1]; exact hlt)⟩
theorem Filling.frozen (h : Filling c E W n ds k w) (j : Nat) : w.frozen? ⟨W.heap.size, j, none⟩ = false := by
  obtain ⟨⟨x1, x2, L1, h1, h2, h3, h4⟩, hB⟩ := h
  exact h1.frozenAt j
theorem Filling.store {cs : List Value} {x : α} {M : List Nat} {w2 : World} (h : Filling c E W n ds k w) (hk : k < n) (hn : n = ds.length) (hx : ∀ hl : k < ds.length, x = ds[k]) (hb : Below w.heap.size w w2) (hg : Got c w.heap.size cs x M w2) :
    Filling c E W n ds (k + 1) (setCs w2 W.heap.size (k * c.size) cs) := by
  have hold := h
  obtain ⟨⟨x1, x2, L1, h1, h2, h3, h4⟩, hB⟩ := h
  have hkeep := keep_below hb h4.lt
  have h1' := (Filling.later hold hb).ex
  clear h1'
  have o1 : w2.ownsRow W.heap.size E c.size (.slice (some ⟨W.heap.size, 0, none⟩) n n) n (x1 ++ x2) := h1.kept (row := none) ⟨hb.os, hb.tape, hb.output, hb.size, fun k hk _ => hb.block k hk⟩ (by simp [Value.ownBlock])
  obtain ⟨o2, o3⟩ := stored_many cs w2 (x1 ++ x2) (k * c.size) o1
  have hx1 : x1.length = k * c.size := by rw [reps_len h2, List.length_take, Nat.min_eq_left (by omega)]
  have hcs : cs.length = c.size := c.len hg.rep
  have h3' : c.size ≤ x2.length := by
    rw [h3]
    have := Nat.mul_le_mul_right c.size (show 1 ≤ n - k by omega)
    omega
  rw [← hx1, setMany_append x1 cs x2 (by omega)] at o2
  have hMge : ∀ b ∈ M, b ≠ W.heap.size := fun b m e => by have := hg.own.ge b m; have := hB.size; have := h4.lt W.heap.size (by simp); omega
  have hL1 : ∀ b ∈ L1, b ≠ W.heap.size := fun b m e => by
    have := h4.nodup
    rw [List.nodup_cons] at this
    exact this.1 (e ▸ m)
  have hkp : ∀ b, b < w2.heap.size → b ≠ W.heap.size → (setCs w2 W.heap.size x1.length cs).heap[b]? = w2.heap[b]? := fun b hl hne => by
    rw [hx1]; exact o3.block b hl (fun e => hne (by injection e))
  rw [← hx1]
  refine ⟨⟨x1 ++ cs, x2.drop cs.length, L1 ++ M, by rw [List.append_assoc]; exact o2, ?_, ?_, ?_⟩, ?_⟩
  · rw [List.take_succ_eq_append_getElem (by omega)]
    refine reps_append (reps_keep h2 (fun b m => ?_)) (reps_one_of ?_)
    · rw [hkp b (Nat.lt_of_lt_of_le (h4.lt b (by simp [m])) hb.size) (hL1 b m)]
      exact hkeep b (by simp [m])
    · rw [← hx (by omega)]
      exact c.keep hg.rep (fun b m => hkp b (hg.own.lt b m) (hMge b m))
  · rw [List.length_drop, h3, hcs, show n - k = (n - (k + 1)) + 1 by omega, Nat.add_mul]; omega
  · have hO : Own w2 W.heap.size ((W.heap.size :: L1) ++ M) := Own.append (h4.keep hkeep) hg.own hB.size h4.lt
    rw [List.cons_append] at hO
    refine ⟨hO.nodup, hO.ge, fun b m => ?_⟩
    by_cases e : b = W.heap.size
    · subst e
      rcases o2.2 with ⟨h', _⟩ | ⟨g', cap', cur, h', _, hgg, _⟩
      · simp at h'
      · simp at h'; obtain ⟨h', _⟩ := h'; rw [← h'] at hgg; exact ⟨cur, E, hgg⟩
    · rw [hkp b (hO.lt b m) e]
      exact hO.plain b m
  · rw [hx1]
    refine (hB.trans (hb.mono hB.size)).trans ⟨o3.os, o3.tape, o3.output, o3.size, fun i hi => o3.block i (Nat.lt_of_lt_of_le hi (Nat.le_trans hB.size hb.size)) (fun e => by injection e with e; omega)⟩
theorem Filling.done (h : Filling c E W n ds n w) (hn : n = ds.length) : AccC c E W (.slice (some ⟨W.heap.size, 0, none⟩) n n) ds w := by
  obtain ⟨⟨x1, x2, L1, h1, h2, h3, h4⟩, hB⟩ := h
  have e : x2 = [] := List.eq_nil_of_length_eq_zero (by simpa using h3)
  subst e
  rw [List.append_nil] at h1
  rw [List.take_of_length_le (by omega)] at h2
  subst hn
  exact ⟨⟨x1, L1, h1, h2, by simpa [Value.ownBlock] using h4⟩, hB⟩
end
theorem cost_le {α : Type} (f : α → Nat) (ds : List α) (k : Nat) (hk : k < ds.length) {B : Nat} (h : (ds.map f).sum ≤ B) : f ds[k] ≤ B := by
  refine Nat.le_trans ?_ h
  have e : ds = ds.take k ++ (ds[k] :: ds.drop (k + 1)) := by rw [← List.drop_eq_getElem_cons hk, List.take_append_drop]
  have : (ds.map f).sum = ((ds.take k).map f).sum + (f ds[k] + ((ds.drop (k + 1)).map f).sum) := by
    have h1 := congrArg (fun l => (List.map f l).sum) e
    simp only [List.map_append, List.map_cons, List.sum_append_nat, List.sum_cons] at h1
    exact h1
  omega

theorem bcell {W w1 : World} (hb : Below W.heap.size W w1) : (∀ b o, b < W.heap.size → w1.cell? ⟨b, o, none⟩ = W.cell? ⟨b, o, none⟩) ∧ (∀ b o, b < W.heap.size → w1.frozen? ⟨b, o, none⟩ = W.frozen? ⟨b, o, none⟩) :=
  ⟨fun b o h => hb.cell (p := ⟨b, o, none⟩) h, fun b o h => hb.frozen (p := ⟨b, o, none⟩) h⟩

theorem gives_of {α : Type} {c : Codec α} {w wr WF : World} {x : α} {cs : List Value} (L : List Nat) (hg : Got c (w.heap.size + 3) cs x L wr) (hk : ∀ b, w.heap.size + 3 ≤ b → WF.heap[b]? = wr.heap[b]?) (hb : Below w.heap.size w WF) :
    Gives c w x (.returned (.agg cs.toArray)) WF := ⟨cs, L, rfl, (hg.keep (fun b m => hk b (hg.own.ge b m))).mono (by omega), hb⟩

/-- the cost of a text, of several -/
def szR (c : Nat) (l : Int) : Int := if (c : Int) ≤ l then l - c else -1
theorem szR_pos {c : Nat} {l : Int} (h : (c : Int) ≤ l) : szR c l = l - c := if_pos h
theorem szR_neg {c : Nat} {l : Int} (h : ¬ (c : Int) ≤ l) : szR c l = -1 := if_neg h
theorem szR_step (a b c : Nat) (l : Int) (ha : (a : Int) ≤ l) (hc : c = a + b) : szR b (l - a) = szR c l := by
  subst hc
  by_cases h : (b : Int) ≤ l - a
  · rw [szR_pos h, szR_pos (by omega)]; omega
  · rw [szR_neg h, szR_neg (by omega)]
def costStrs (l : List ByteArray) : Nat := l.length + (l.map ByteArray.size).sum
def costInts (l : List Int) : Nat := l.length

theorem str_rep {w : World} {cs : List Value} {x : ByteArray} {L : List Nat} (h : strC.rep w cs x L) : cs = [.string x] ∧ L = [] ∧ x.size ≤ 9223372036854775807 := h


def SzPost (c : Nat) (left : Int) (w : World) (e : Ending) (w' : World) : Prop := e = .returned (.int .i64 (szR c left)) ∧ Below w.heap.size w w'

/-- a block that is known whole -/
def Blk (w : World) (g : Nat) (t : TypeId) (cs : Array Value) : Prop := w.heap[g]? = some (.cells cs t (0, 0))
section
variable {w w' : World} {g : Nat} {t : TypeId} {cs : Array Value}
theorem Blk.lt (h : Blk w g t cs) : g < w.heap.size := (Array.getElem?_eq_some_iff.1 h).1
theorem Blk.at {i : Nat} {v : Value} (h : Blk w g t cs) (hv : cs[i]? = some v) : w.cell? ⟨g, i, none⟩ = some v := (cell_of_row w g i cs t (0, 0) h).trans hv
theorem Blk.frozen (h : Blk w g t cs) (i : Nat) : w.frozen? ⟨g, i, none⟩ = false := by
  unfold Blk at h
  simp [World.frozen?, h]
theorem Blk.new (w : World) (t : TypeId) (cs : Array Value) : Blk (w.alloc (.cells cs t)) w.heap.size t cs := heap_alloc_new w _
theorem Blk.new_at {w : World} {t : TypeId} {cs : Array Value} {g : Nat} (hg : g = w.heap.size) : Blk (w.alloc (.cells cs t)) g t cs := by subst hg; exact heap_alloc_new w _
theorem Blk.alloc (h : Blk w g t cs) (o : Obj) : Blk (w.alloc o) g t cs := (Below.heap_alloc w o g h.lt).trans h
theorem Blk.set_ (h : Blk w g t cs) (i : Nat) (u : Value) : Blk (w.setCell ⟨g, i, none⟩ u) g t (cs.setIfInBounds i u) := by
  unfold Blk at h ⊢
  simp [World.setCell, Array.getElem?_modify, h]
theorem Blk.far (h : Blk w g t cs) {p : Addr} (hp : g ≠ p.block) (u : Value) : Blk (w.setCell p u) g t cs := (Below.heap_setCell w p u g hp).trans h
theorem Blk.later (h : Blk w g t cs) (hb : Below w.heap.size w w') : Blk w' g t cs := (hb.block g h.lt).trans h
end

/-- an element of a slice of the call's own, and what may be put in its place -/
theorem Got.focus {α : Type} {c : Codec α} {base : Nat} {A : Option Addr} {n cap : Nat} {ds : List α} {L : List Nat} {w : World} {k : Nat} (h : Got (sliceC c) base [.slice A n cap] ds L w) (hk : k < ds.length) :
    ∃ b off cs Lk, A = some ⟨b, off, none⟩ ∧ b ∈ L ∧ (∀ x ∈ Lk, x ∈ L) ∧ Own w base (b :: Lk) ∧ c.rep w cs ds[k] Lk ∧ CellsAt w b (off + k * c.size) cs ∧
      ∀ w' cs' x', Only (b :: Lk) w w' → CellsAt w' b (off + k * c.size) cs' → (∀ o, o < off + k * c.size ∨ off + k * c.size + c.size ≤ o → w'.cell? ⟨b, o, none⟩ = w.cell? ⟨b, o, none⟩) →
        c.rep w' cs' x' Lk → Own w' base (b :: Lk) → Got (sliceC c) base [.slice A n cap] (ds.set k x') L w' := by
  obtain ⟨⟨A', cap', hv, hn, hm, xs, L0, L1, rfl, h1, h2⟩, ho⟩ := h
  cases hv
  obtain ⟨x1, cs, x2, M1, Mk, M2, rfl, hx, rfl, r1, r2, r3⟩ := reps_at h2 hk
  obtain ⟨b, off, rfl, rfl, hc⟩ := h1.at_ (by omega)
  have hcs : cs.length = c.size := c.len r2
  have hmem : ∀ x ∈ Mk, x ∈ [b] ++ (M1 ++ (Mk ++ M2)) := fun x m => by simp [m]
  have hnd := ho.nodup
  have hsub : (b :: Mk).Sublist ([b] ++ (M1 ++ (Mk ++ M2))) := by
    simp only [List.singleton_append]
    exact List.Sublist.cons_cons b ((List.sublist_append_left Mk M2).trans (List.sublist_append_right M1 _))
  refine ⟨b, off, cs, Mk, rfl, by simp, hmem, ho.sub hsub, r2, fun j u hu => ?_, ?_⟩
  · have := hc (x1.length + j) u (by rw [List.getElem?_append_right (by omega), Nat.add_sub_cancel_left, List.getElem?_append_left (List.getElem?_eq_some_iff.1 hu).1]; exact hu)
    rw [hx] at this
    rw [← this, Nat.add_assoc]
  · intro w' cs' x' hon hcell hrest hrep hown
    have hcs' : cs'.length = c.size := c.len hrep
    simp only [List.singleton_append, List.nodup_cons, List.nodup_append, List.mem_append] at hnd
    obtain ⟨hb, hM1, ⟨hMk, hM2, hd2⟩, hd1⟩ := hnd
    have e1 : ∀ y ∈ M1, y ∉ b :: Mk := fun y m m' => by
      rcases List.mem_cons.1 m' with rfl | m'
      · exact hb (.inl m)
      · exact hd1 y m y (.inl m') rfl
    have e2 : ∀ y ∈ M2, y ∉ b :: Mk := fun y m m' => by
      rcases List.mem_cons.1 m' with rfl | m'
      · exact hb (.inr (.inr m))
      · exact hd2 y m' y m rfl
    have k1 := hon.keep (fun y m => ho.lt y (by simp [m])) e1
    have k2 := hon.keep (fun y m => ho.lt y (by simp [m])) e2
    have eset : ds.set k x' = ds.take k ++ (x' :: ds.drop (k + 1)) := by rw [List.set_eq_take_append_cons_drop, if_pos hk]
    refine ⟨⟨some ⟨b, off, none⟩, cap, by simp, by simpa using hn, hm, x1 ++ (cs' ++ x2), [b], M1 ++ (Mk ++ M2), rfl, ⟨?_, .inr ⟨by simp; omega, b, off, rfl, rfl, ?_⟩⟩, ?_⟩, ?_⟩
    · have := h1.1
      simp only [List.length_append, List.length_set] at this ⊢
      omega
    · intro j u hu
      rcases Nat.lt_or_ge j x1.length with hj | hj
      · rw [hrest _ (.inl (by omega))]
        exact hc j u (by rw [List.getElem?_append_left hj] at hu ⊢; exact hu)
      · rw [List.getElem?_append_right hj] at hu
        rcases Nat.lt_or_ge (j - x1.length) cs'.length with hj2 | hj2
        · rw [List.getElem?_append_left hj2] at hu
          have := hcell _ u hu
          rw [show off + k * c.size + (j - x1.length) = off + j by omega] at this
          exact this
        · rw [List.getElem?_append_right hj2] at hu
          rw [hrest _ (.inr (by omega))]
          exact hc j u (by rw [List.getElem?_append_right hj, List.getElem?_append_right (by omega), hcs, ← hcs']; exact hu)
    · rw [eset]
      refine reps_append (reps_keep r1 k1) ⟨cs', x2, Mk, M2, rfl, rfl, hrep, reps_keep r3 k2⟩
    · refine ⟨ho.nodup, ho.ge, fun y m => ?_⟩
      by_cases hy : y ∈ b :: Mk
      · exact hown.plain y hy
      · rw [hon.block y (ho.lt y m) hy]
        exact ho.plain y m

/-- an element whose cells are being written -/
structure Elem (w0 : World) (base b lo m : Nat) (Lk : List Nat) (cs : List Value) (w : World) : Prop where
  cells : CellsAt w b lo cs
  len : cs.length = m
  only : Only (b :: Lk) w0 w
  rest : ∀ o, o < lo ∨ lo + m ≤ o → w.cell? ⟨b, o, none⟩ = w0.cell? ⟨b, o, none⟩
  plain : ∃ cur e, w.heap[b]? = some (.cells cur e (0, 0))
section
variable {w0 : World} {base b lo m : Nat} {Lk M : List Nat} {cs : List Value} {w w' : World}
theorem Elem.start (h : CellsAt w b lo cs) (hl : cs.length = m) (ho : Own w base (b :: Lk)) : Elem w base b lo m Lk cs w := ⟨h, hl, Only.refl _ _, fun _ _ => rfl, ho.plain b (by simp)⟩
theorem Elem.lt (h : Elem w0 base b lo m Lk cs w) : b < w.heap.size := by obtain ⟨cur, e, hc⟩ := h.plain; exact (Array.getElem?_eq_some_iff.1 hc).1
theorem Elem.keepb (h : Elem w0 base b lo m Lk cs w) (hk : w'.heap[b]? = w.heap[b]?) (ho : Only (b :: Lk) w w') : Elem w0 base b lo m Lk cs w' := by
  refine ⟨fun j u hu => ?_, h.len, h.only.trans ho, fun o hr => ?_, ?_⟩
  · rw [← h.cells j u hu]; exact World.cell?_of_block hk
  · rw [← h.rest o hr]; exact World.cell?_of_block hk
  · rw [hk]; exact h.plain
theorem Elem.later (h : Elem w0 base b lo m Lk cs w) (hb : Below w.heap.size w w') : Elem w0 base b lo m Lk cs w' := h.keepb (hb.block b h.lt) (Only.of_below hb _)
theorem Elem.marked (h : Elem w0 base b lo m Lk cs w) (ho : Only M w w') (hs : ∀ y ∈ M, y ∈ Lk) (hd : b ∉ M) : Elem w0 base b lo m Lk cs w' :=
  h.keepb (ho.block b h.lt hd) (ho.mono (fun y m => by simp [hs y m]))
theorem Elem.at (h : Elem w0 base b lo m Lk cs w) {j : Nat} {u : Value} (hu : cs[j]? = some u) : w.cell? ⟨b, lo + j, none⟩ = some u := h.cells j u hu
theorem Elem.frozen (h : Elem w0 base b lo m Lk cs w) (o : Nat) : w.frozen? ⟨b, o, none⟩ = false := by
  obtain ⟨cur, e, hc⟩ := h.plain
  simp [World.frozen?, hc]
theorem Elem.set (h : Elem w0 base b lo m Lk cs w) (j : Nat) (hj : j < m) (u : Value) : Elem w0 base b lo m Lk (cs.set j u) (w.setCell ⟨b, lo + j, none⟩ u) := by
  have hl := h.len
  refine ⟨fun i v hv => ?_, by simp [h.len], h.only.setCell (by simp) _, fun o hr => ?_, ?_⟩
  · by_cases hij : i = j
    · subst hij
      rw [List.getElem?_set] at hv
      simp [show i < cs.length by omega] at hv
      subst hv
      exact cell_setCell_same (h.cells i _ (List.getElem?_eq_getElem (by omega)))
    · rw [List.getElem?_set, if_neg (fun e => hij e.symm)] at hv
      rw [World.cell?_setCell_other _ _ _ _ (by intro e; injection e with _ e; omega)]
      exact h.cells i v hv
  · rw [World.cell?_setCell_other _ _ _ _ (by intro e; injection e with _ e; omega)]
    exact h.rest o hr
  · obtain ⟨cur, e, hc⟩ := h.plain
    exact ⟨cur.setIfInBounds (lo + j) u, e, by simp [World.setCell, Array.getElem?_modify, hc]⟩
end
theorem Got.setFar {α : Type} {c : Codec α} {base : Nat} {cs : List Value} {x : α} {L : List Nat} {w : World} (h : Got c base cs x L w) {p : Addr} (hp : p.block ∉ L) (u : Value) : Got c base cs x L (w.setCell p u) :=
  h.keep fun b m => Below.heap_setCell w p u b (fun e => hp (e ▸ m))

/-- a block and what its element leads to, when only they have turned and what it leads to is kept -/
theorem own_cons_keep {w w' : World} {base b : Nat} {Lk : List Nat} (h : Own w base (b :: Lk)) (hp : ∃ cur e, w'.heap[b]? = some (.cells cur e (0, 0))) (_ho : Only (b :: Lk) w w') (hk : ∀ y ∈ Lk, ∃ cur e, w'.heap[y]? = some (.cells cur e (0, 0))) : Own w' base (b :: Lk) :=
  ⟨h.nodup, h.ge, fun y m => by
    rcases List.mem_cons.1 m with rfl | m
    · exact hp
    · exact hk y m⟩

theorem Own.tail {w : World} {base b : Nat} {L : List Nat} (h : Own w base (b :: L)) : Own w base L := h.sub (List.sublist_cons_self b L)
theorem Own.left {w : World} {base : Nat} {L M : List Nat} (h : Own w base (L ++ M)) : Own w base L := h.sub (List.sublist_append_left L M)
theorem Own.right {w : World} {base : Nat} {L M : List Nat} (h : Own w base (L ++ M)) : Own w base M := h.sub (List.sublist_append_right L M)
theorem Own.head {w : World} {base b : Nat} {L : List Nat} (h : Own w base (b :: L)) : b ∉ L := (List.nodup_cons.1 h.nodup).1
theorem Own.apart {w : World} {base : Nat} {L M : List Nat} (h : Own w base (L ++ M)) : ∀ y ∈ L, y ∉ M := fun y m m' => (List.nodup_append.1 h.nodup).2.2 y m y m' rfl
theorem Own.apart' {w : World} {base : Nat} {L M : List Nat} (h : Own w base (L ++ M)) : ∀ y ∈ M, y ∉ L := fun y m m' => h.apart y m' m

end Go.Proofs.Ytfmplnebdldpdaa
