/- How the abstract machine's state stands for a frame and a world. -/
import Derived.Test.YtfmplnebdldpdaaBState
namespace Go.Proofs.Ytfmplnebdldpdaa
open Go.RowKit
def All2 {α β : Type} (R : α → β → Prop) : List α → List β → Prop
  | [], [] => True
  | a :: l, b :: r => R a b ∧ All2 R l r
  | _, _ => False
section
variable {α β : Type} {R R' : α → β → Prop}
theorem All2.len : ∀ {l : List α} {r : List β}, All2 R l r → l.length = r.length
  | [], [], _ => rfl
  | _ :: _, _ :: _, h => by simp [h.2.len]
  | [], _ :: _, h => h.elim
  | _ :: _, [], h => h.elim
theorem All2.mono : ∀ {l : List α} {r : List β}, All2 R l r → (∀ a b, a ∈ l → R a b → R' a b) → All2 R' l r
  | [], [], _, _ => trivial
  | _ :: _, _ :: _, h, f => ⟨f _ _ (by simp) h.1, h.2.mono fun a b m => f a b (by simp [m])⟩
  | [], _ :: _, h, _ => h.elim
  | _ :: _, [], h, _ => h.elim
theorem All2.at : ∀ {l : List α} {r : List β} {i : Nat} {a : α}, All2 R l r → l[i]? = some a → ∃ b, r[i]? = some b ∧ R a b
  | [], [], _, _, _, h => by simp at h
  | _ :: _, b :: _, 0, _, h, e => by simp at e; subst e; exact ⟨b, by simp, h.1⟩
  | _ :: _, _ :: _, i + 1, a, h, e => by
    obtain ⟨b, h1, h2⟩ := h.2.at (i := i) (a := a) (by simpa using e)
    exact ⟨b, by simpa using h1, h2⟩
  | [], _ :: _, _, _, h, _ => h.elim
  | _ :: _, [], _, _, h, _ => h.elim
theorem All2.set : ∀ {l : List α} {r : List β} {i : Nat} {a : α} {b : β}, All2 R l r → R a b → All2 R (l.set i a) (r.set i b)
  | [], [], _, _, _, _, _ => trivial
  | _ :: _, _ :: _, 0, _, _, h, e => ⟨e, h.2⟩
  | _ :: _, _ :: _, _ + 1, _, _, h, e => ⟨h.1, h.2.set e⟩
  | [], _ :: _, _, _, _, h, _ => h.elim
  | _ :: _, [], _, _, _, h, _ => h.elim
theorem All2.drop : ∀ {l : List α} {r : List β} (n : Nat), All2 R l r → All2 R (l.drop n) (r.drop n)
  | _, _, 0, h => by simpa using h
  | [], [], n + 1, _ => by simp [All2]
  | _ :: _, _ :: _, n + 1, h => by simpa using h.2.drop n
  | [], _ :: _, _ + 1, h => h.elim
  | _ :: _, [], _ + 1, h => h.elim
theorem All2.take : ∀ {l : List α} {r : List β} (n : Nat), All2 R l r → All2 R (l.take n) (r.take n)
  | _, _, 0, h => by simp [All2]
  | [], [], n + 1, _ => by simp [All2]
  | _ :: _, _ :: _, n + 1, h => by simpa using ⟨h.1, h.2.take n⟩
  | [], _ :: _, _ + 1, h => h.elim
  | _ :: _, [], _ + 1, h => h.elim
theorem All2.append : ∀ {l l' : List α} {r r' : List β}, All2 R l r → All2 R l' r' → All2 R (l ++ l') (r ++ r')
  | [], _, [], _, _, h => h
  | _ :: _, _, _ :: _, _, h, h' => ⟨h.1, h.2.append h'⟩
  | [], _, _ :: _, _, h, _ => h.elim
  | _ :: _, _, [], _, h, _ => h.elim
end
/-- what stands behind the keys: the value, the block that it writes to, the blocks that its elements lead to -/
structure Gh where
  val : Nat → Value
  O : Nat → List Nat
  D : Nat → List Nat
def Gh.own (g : Gh) (b : Nat) : Prop := ∃ k, b ∈ g.O k
def AVR (g : Gh) (w : World) : AV → Value → Prop
  | .c x, v => ∃ L, RC w x v L ∧ ∀ b ∈ L, ¬ g.own b
  | .row k, v => v = g.val k ∧ v.oneCell' = true
  | .nil _ _, v => v = .slice none 0 0
  | .dead, v => v.oneCell' = true
def PVR (g : Gh) (w : World) : Bool → List AV → Value → Prop
  | true, cs, v => ∃ vs : List Value, v = .agg vs.toArray ∧ All2 (AVR g w) cs vs
  | false, cs, v => ∃ x, cs = [x] ∧ AVR g w x v
def SVR (g : Gh) (w : World) : SV → Value → Prop
  | .any, _ => True
  | .und, v => v = undef
  | .p a cs, v => PVR g w a cs v
  | .tup xs, v => ∃ vs : List Value, v = .tuple vs.toArray ∧ All2 (fun x u => PVR g w x.1 x.2 u) xs vs
  | .bp k off, v => ∃ b, g.val k = .pointer (some ⟨b, 0, none⟩) ∧ v = .pointer (some ⟨b, off, none⟩)
  | .rp k m i off, v => ∃ b n c, g.val k = .slice (some ⟨b, 0, none⟩) n c ∧ v = .pointer (some ⟨b, i * m + off, none⟩)
  | .ep e off, v => ∃ b lo cs L, v = .pointer (some ⟨b, lo + off, none⟩) ∧ CellsAt w b lo cs ∧ RCs w e cs L ∧ (∀ x ∈ b :: L, ¬ g.own x) ∧ b < w.heap.size
  | .fn f, v => v = .func (.func f) #[] #[]
def ObR (g : Gh) (w : World) (B k : Nat) : Ob → Prop
  | .gone => g.O k = [] ∧ g.D k = []
  | .box t cs => ∃ b vs, g.val k = .pointer (some ⟨b, 0, none⟩) ∧ g.O k = [b] ∧ g.D k = [] ∧ w.heap[b]? = some (.cells vs.toArray t (0, 0)) ∧ All2 (AVR g w) cs vs
  | .row e m xs d => 0 < m ∧ ∃ cs L, w.ownsRow B e m (g.val k) xs.length cs ∧ REs w m xs cs L ∧ g.O k = (g.val k).ownBlock.toList ∧ ((d = true ∧ g.D k = L) ∨ (d = false ∧ g.D k = [] ∧ ∀ b ∈ L, ¬ g.own b))
structure HI (W : World) (g : Gh) (ob : Nat → Ob) (w : World) : Prop where
  below : Below W.heap.size W w
  obs : ∀ k, ObR g w W.heap.size k (ob k)
  nodup : ∀ k, (g.O k ++ g.D k).Nodup
  apart : ∀ k j, k ≠ j → ∀ b ∈ g.O k ++ g.D k, b ∉ g.O j ++ g.D j
  plain : ∀ k, ∀ b ∈ g.O k ++ g.D k, W.heap.size ≤ b ∧ ∃ cur e, w.heap[b]? = some (.cells cur e (0, 0))
/-- the keys that a state names -/
def avU (U : Nat → Prop) : AV → Prop
  | .row k => U k
  | _ => True
def avsU (U : Nat → Prop) (cs : List AV) : Prop := ∀ x ∈ cs, avU U x
def svU (U : Nat → Prop) : SV → Prop
  | .p _ cs => avsU U cs
  | .tup xs => ∀ x ∈ xs, avsU U x.2
  | .bp k _ => U k
  | .rp k _ _ _ => U k
  | _ => True
def obU (U : Nat → Prop) : Ob → Prop
  | .box _ cs => avsU U cs
  | _ => True
structure StU (U : Nat → Prop) (st : St) : Prop where
  sl : ∀ t, svU U (st.sl t)
  ob : ∀ k, obU U (st.ob k)
  gone : ∀ k, ¬ U k → st.ob k = .gone
theorem HI.lt {W : World} {g : Gh} {ob : Nat → Ob} {w : World} (h : HI W g ob w) (k : Nat) : ∀ b ∈ g.O k ++ g.D k, b < w.heap.size := by
  intro b m
  obtain ⟨_, cur, e, hc⟩ := h.plain k b m
  exact (Array.getElem?_eq_some_iff.1 hc).1
theorem ownsRow_keep {w w' : World} {base : Nat} {e : TypeId} {size n : Nat} {v : Value} {xs : List Value} (h : w.ownsRow base e size v n xs) (hk : ∀ b ∈ v.ownBlock.toList, w'.heap[b]? = w.heap[b]?) : w'.ownsRow base e size v n xs := by
  refine ⟨h.1, ?_⟩
  rcases h.2 with h0 | ⟨g, cap, cur, hv, hg, hc, r⟩
  · exact .inl h0
  · refine .inr ⟨g, cap, cur, hv, hg, ?_, r⟩
    rw [hk g (by simp [hv, Value.ownBlock])]
    exact hc
section
variable {g g' : Gh} {w w' : World} {U : Nat → Prop}
theorem AVR.move {x : AV} {v : Value} (h : AVR g w x v) (hx : avU U x) (hv : ∀ k, U k → g'.val k = g.val k)
    (hw : ∀ b, b < w.heap.size → ¬ g.own b → w'.heap[b]? = w.heap[b]?) (ho : ∀ b, g'.own b → g.own b ∨ w.heap.size ≤ b) : AVR g' w' x v := by
  cases x with
  | c x =>
    obtain ⟨L, h1, h2⟩ := h
    have hlt := h1.lt
    refine ⟨L, h1.keep fun b m => hw b (hlt b m) (h2 b m), fun b m o => ?_⟩
    rcases ho b o with o | o
    · exact h2 b m o
    · have := hlt b m; omega
  | row k => exact ⟨h.1.trans (hv k hx).symm, h.2⟩
  | nil e m => exact h
  | dead => exact h
theorem AVRs.move {cs : List AV} {vs : List Value} (h : All2 (AVR g w) cs vs) (hx : avsU U cs) (hv : ∀ k, U k → g'.val k = g.val k)
    (hw : ∀ b, b < w.heap.size → ¬ g.own b → w'.heap[b]? = w.heap[b]?) (ho : ∀ b, g'.own b → g.own b ∨ w.heap.size ≤ b) : All2 (AVR g' w') cs vs :=
  h.mono fun a _ m r => r.move (hx a m) hv hw ho
theorem PVR.move {a : Bool} {cs : List AV} {v : Value} (h : PVR g w a cs v) (hx : avsU U cs) (hv : ∀ k, U k → g'.val k = g.val k)
    (hw : ∀ b, b < w.heap.size → ¬ g.own b → w'.heap[b]? = w.heap[b]?) (ho : ∀ b, g'.own b → g.own b ∨ w.heap.size ≤ b) : PVR g' w' a cs v := by
  cases a with
  | true => obtain ⟨vs, h1, h2⟩ := h; exact ⟨vs, h1, AVRs.move h2 hx hv hw ho⟩
  | false => obtain ⟨x, h1, h2⟩ := h; exact ⟨x, h1, h2.move (hx x (by simp [h1])) hv hw ho⟩
theorem SVR.move {s : SV} {v : Value} (h : SVR g w s v) (hx : svU U s) (hv : ∀ k, U k → g'.val k = g.val k)
    (hw : ∀ b, b < w.heap.size → ¬ g.own b → w'.heap[b]? = w.heap[b]?) (ho : ∀ b, g'.own b → g.own b ∨ w.heap.size ≤ b) (hs : w.heap.size ≤ w'.heap.size) : SVR g' w' s v := by
  cases s with
  | any => exact h
  | und => exact h
  | p a cs => exact PVR.move h hx hv hw ho
  | tup xs =>
    obtain ⟨vs, h1, h2⟩ := h
    exact ⟨vs, h1, h2.mono fun x _ m r => r.move (hx x m) hv hw ho⟩
  | bp k off => obtain ⟨b, h1, h2⟩ := h; exact ⟨b, (hv k hx).trans h1, h2⟩
  | rp k m i off => obtain ⟨b, n, c, h1, h2⟩ := h; exact ⟨b, n, c, (hv k hx).trans h1, h2⟩
  | ep e off =>
    obtain ⟨b, lo, cs, L, h1, h2, h3, h4, h5⟩ := h
    have hlt := h3.lt
    refine ⟨b, lo, cs, L, h1, fun j u hu => ?_, h3.keep fun x m => hw x (hlt x m) (h4 x (by simp [m])), fun x m o => ?_, by omega⟩
    · rw [← h2 j u hu]; exact World.cell?_of_block (hw b h5 (h4 b (by simp)))
    · rcases ho x o with o | o
      · exact h4 x m o
      · rcases List.mem_cons.1 m with rfl | m
        · omega
        · have := hlt x m; omega
  | fn f => exact h
/-- a step of the world and of what stands behind the keys: the keys in T are turned, the others stay -/
theorem HI.step {W : World} {ob ob' : Nat → Ob} (h : HI W g ob w) (T : Nat → Prop)
    (hbel : Below W.heap.size W w')
    (hw : ∀ b, b < w.heap.size → (∀ k, T k → b ∉ g.O k) → w'.heap[b]? = w.heap[b]?)
    (hk : ∀ k, ¬ T k → ob' k = ob k ∧ g'.val k = g.val k ∧ g'.O k = g.O k ∧ g'.D k = g.D k)
    (hobU : ∀ k, obU U (ob k)) (hv : ∀ k, U k → g'.val k = g.val k)
    (ho : ∀ b, g'.own b → g.own b ∨ w.heap.size ≤ b)
    (hT : ∀ k, T k → ObR g' w' W.heap.size k (ob' k) ∧ (g'.O k ++ g'.D k).Nodup ∧ (∀ b ∈ g'.O k ++ g'.D k, W.heap.size ≤ b ∧ ∃ cur e, w'.heap[b]? = some (.cells cur e (0, 0))) ∧ ∀ j, k ≠ j → ∀ b ∈ g'.O k ++ g'.D k, b ∉ g'.O j ++ g'.D j) :
    HI W g' ob' w' := by
  have hw' : ∀ b, b < w.heap.size → ¬ g.own b → w'.heap[b]? = w.heap[b]? := fun b hb hn => hw b hb fun k _ m => hn ⟨k, m⟩
  have hkeepF : ∀ k, ¬ T k → ∀ b ∈ g.O k ++ g.D k, w'.heap[b]? = w.heap[b]? := fun k hk b m =>
    hw b (h.lt k b m) fun j hj mj => h.apart j k (fun e => hk (e ▸ hj)) b (by simp [mj]) m
  refine ⟨hbel, fun k => ?_, fun k => ?_, fun k j hkj b m => ?_, fun k b m => ?_⟩
  · by_cases hTk : T k
    · exact (hT k hTk).1
    · obtain ⟨e1, e2, e3, e4⟩ := hk k hTk
      have hob := h.obs k
      have hF := hkeepF k hTk
      have hU := hobU k
      rw [e1]
      cases hok : ob k with
      | gone => rw [hok] at hob; exact ⟨e3.trans hob.1, e4.trans hob.2⟩
      | box t cs =>
        rw [hok] at hob hU
        obtain ⟨b, vs, h1, h2, h3, h4, h5⟩ := hob
        exact ⟨b, vs, e2.trans h1, e3.trans h2, e4.trans h3, by rw [hF b (by simp [h2])]; exact h4, AVRs.move h5 hU hv hw' ho⟩
      | row e m xs d =>
        rw [hok] at hob
        obtain ⟨hm, cs, L, h1, h2, h3, h4⟩ := hob
        have hltL := h2.lt
        have hL : ∀ b ∈ L, w'.heap[b]? = w.heap[b]? := fun b mb => by
          rcases h4 with ⟨_, h4⟩ | ⟨_, _, h4⟩
          · exact hF b (by simp [h4, mb])
          · exact hw' b (hltL b mb) (h4 b mb)
        refine ⟨hm, cs, L, by rw [e2]; exact ownsRow_keep h1 (fun b mb => hF b (by simp [h3, mb])), h2.keep hL, by rw [e2, e3]; exact h3, ?_⟩
        rcases h4 with ⟨hd, h4⟩ | ⟨hd, h4, h5⟩
        · exact .inl ⟨hd, e4.trans h4⟩
        · refine .inr ⟨hd, e4.trans h4, fun b mb o => ?_⟩
          rcases ho b o with o | o
          · exact h5 b mb o
          · have := hltL b mb; omega
  · by_cases hTk : T k
    · exact (hT k hTk).2.1
    · obtain ⟨e1, e2, e3, e4⟩ := hk k hTk
      rw [e3, e4]; exact h.nodup k
  · by_cases hTk : T k
    · exact (hT k hTk).2.2.2 j hkj b m
    · by_cases hTj : T j
      · exact fun mj => (hT j hTj).2.2.2 k (fun e => hkj e.symm) b mj m
      · obtain ⟨_, _, e3, e4⟩ := hk k hTk
        obtain ⟨_, _, f3, f4⟩ := hk j hTj
        rw [e3, e4] at m
        rw [f3, f4]
        exact h.apart k j hkj b m
  · by_cases hTk : T k
    · exact (hT k hTk).2.2.1 b m
    · obtain ⟨_, _, e3, e4⟩ := hk k hTk
      rw [e3, e4] at m
      obtain ⟨p1, cur, e, p2⟩ := h.plain k b m
      exact ⟨p1, cur, e, by rw [hkeepF k hTk b m]; exact p2⟩
end
/-- a state stands for a frame and a world -/
structure Inv (W : World) (U : Nat → Prop) (st : St) (a : Act) (w : World) : Prop where
  ex : ∃ g, HI W g st.ob w ∧ ∀ t, SVR g w (st.sl t) (a.tmps.getD t undef)
  wf : StU U st
  defers : a.defers = []
end Go.Proofs.Ytfmplnebdldpdaa
