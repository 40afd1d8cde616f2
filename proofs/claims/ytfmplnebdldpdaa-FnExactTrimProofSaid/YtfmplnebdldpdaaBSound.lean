/- The abstract machine is sound: what it says of a function's code holds of the function's calls. -/
import Derived.Test.YtfmplnebdldpdaaBAny
namespace Go.Proofs.Ytfmplnebdldpdaa
open Go.RowKit
theorem kidx_ok : ∀ {ρ : List Nat} {k i j : Nat}, kidx ρ k i = some j → i ≤ j ∧ ρ[j - i]? = some k
  | [], _, _, _, h => by simp [kidx] at h
  | x :: r, k, i, j, h => by
    simp only [kidx] at h
    split at h
    · rename_i e
      simp only [Option.some.injEq] at h
      subst h e
      exact ⟨Nat.le_refl _, by simp⟩
    · obtain ⟨h1, h2⟩ := kidx_ok h
      refine ⟨by omega, ?_⟩
      rw [show j - i = (j - (i + 1)) + 1 by omega]
      simpa using h2
theorem kidx_zero {ρ : List Nat} {k j : Nat} (h : kidx ρ k 0 = some j) : ρ[j]? = some k := by simpa using (kidx_ok h).2
theorem nodup_inj {α : Type} : ∀ {l : List α}, l.Nodup → ∀ {i j : Nat} (hi : i < l.length) (hj : j < l.length), l[i] = l[j] → i = j
  | [], _, _, _, hi, _, _ => by simp at hi
  | x :: l, h, 0, 0, _, _, _ => rfl
  | x :: l, h, 0, j + 1, _, hj, e => by
    rw [List.nodup_cons] at h
    exact absurd (by simp at e; rw [e]; exact List.getElem_mem _) h.1
  | x :: l, h, i + 1, 0, hi, _, e => by
    rw [List.nodup_cons] at h
    exact absurd (by simp at e; rw [← e]; exact List.getElem_mem _) h.1
  | x :: l, h, i + 1, j + 1, hi, hj, e => by
    rw [List.nodup_cons] at h
    have := nodup_inj h.2 (i := i) (j := j) (by simpa using hi) (by simpa using hj) (by simpa using e)
    omega
section
variable {P : Program} {W : World} {U : Nat → Prop} {st st' : St} {w w' : World} {a : Act} {tt : Nat → Option TI} {S : Ctx}
theorem rAV_ok {g g' : Gh} {ρ : List Nat} (hv : ∀ j k, ρ[j]? = some k → g'.val j = g.val k) (ho : ∀ b, g'.own b → g.own b) {x : AV} {v : Value} (h : AVR g w x v) : AVR g' w (rAV ρ x) v := by
  cases x with
  | c x => obtain ⟨L, h1, h2⟩ := h; exact ⟨L, h1, fun b m o => h2 b m (ho b o)⟩
  | row k =>
    simp only [rAV]
    split
    · rename_i j hj
      exact ⟨by rw [hv j k (kidx_zero hj)]; exact h.1, h.2⟩
    · exact h.2
  | nil e m => exact h
  | dead => exact h
theorem All2.map_left {α β γ : Type} {R : α → γ → Prop} {R' : β → γ → Prop} (f : α → β) (h : ∀ a c, R a c → R' (f a) c) : ∀ {l : List α} {r : List γ}, All2 R l r → All2 R' (l.map f) r
  | [], [], _ => trivial
  | _ :: _, _ :: _, hh => ⟨h _ _ hh.1, hh.2.map_left f h⟩
  | [], _ :: _, h => h.elim
  | _ :: _, [], h => h.elim
theorem rAV_U (ρ : List Nat) (x : AV) : avU (fun j => j < ρ.length) (rAV ρ x) := by
  cases x with
  | row k =>
    simp only [rAV]
    split
    · rename_i j hj
      exact (List.getElem?_eq_some_iff.1 (kidx_zero hj)).1
    · trivial
  | _ => trivial
theorem ren_inv (hI : Inv W U st a w) {ρ : List Nat} (hρ : ρ.Nodup) : Inv W (fun j => j < ρ.length) (st.ren ρ) a w := by
  obtain ⟨⟨g, hH, hS⟩, hU, hdef⟩ := hI
  let g' : Gh := ⟨fun j => match ρ[j]? with | some k => g.val k | none => undef, fun j => match ρ[j]? with | some k => g.O k | none => [], fun j => match ρ[j]? with | some k => g.D k | none => []⟩
  have gs : ∀ j k, ρ[j]? = some k → g'.val j = g.val k ∧ g'.O j = g.O k ∧ g'.D j = g.D k := fun j k h => by simp [g', h]
  have gn : ∀ j, ρ[j]? = none → g'.O j = [] ∧ g'.D j = [] := fun j h => by simp [g', h]
  have ho : ∀ b, g'.own b → g.own b := fun b ⟨j, mj⟩ => by
    cases h : ρ[j]? with
    | none => rw [(gn j h).1] at mj; simp at mj
    | some k => rw [(gs j k h).2.1] at mj; exact ⟨k, mj⟩
  have hAV : ∀ x v, AVR g w x v → AVR g' w (rAV ρ x) v := fun x v h => rAV_ok (fun j k hjk => (gs j k hjk).1) ho h
  have hAVs : ∀ xs vs, All2 (AVR g w) xs vs → All2 (AVR g' w) (xs.map (rAV ρ)) vs := fun xs vs h => h.map_left _ hAV
  have hPV : ∀ ag cs v, PVR g w ag cs v → PVR g' w ag (cs.map (rAV ρ)) v := fun ag cs v h => by
    cases ag with
    | true => obtain ⟨vs, h1, h2⟩ := h; exact ⟨vs, h1, hAVs _ _ h2⟩
    | false => obtain ⟨x, rfl, h2⟩ := h; exact ⟨_, rfl, hAV _ _ h2⟩
  refine ⟨⟨g', ⟨hH.below, fun j => ?_, fun j => ?_, fun j i hji b mb => ?_, fun j b mb => ?_⟩, fun t => ?_⟩, ⟨fun t => ?_, fun j => ?_, fun j hj => ?_⟩, hdef⟩
  · show ObR g' w W.heap.size j (match ρ[j]? with | some k => rOb ρ (st.ob k) | none => .gone)
    cases h : ρ[j]? with
    | none => exact gn j h
    | some k =>
      obtain ⟨e1, e2, e3⟩ := gs j k h
      have hob := hH.obs k
      show ObR g' w W.heap.size j (rOb ρ (st.ob k))
      cases hok : st.ob k with
      | gone => rw [hok] at hob; exact ⟨e2.trans hob.1, e3.trans hob.2⟩
      | box t cs =>
        rw [hok] at hob
        obtain ⟨b, vs, h1, h2, h3, h4, h5⟩ := hob
        exact ⟨b, vs, e1.trans h1, e2.trans h2, e3.trans h3, h4, hAVs _ _ h5⟩
      | row e m xs d =>
        rw [hok] at hob
        obtain ⟨hm, cs, L, h1, h2, h3, h4⟩ := hob
        refine ⟨hm, cs, L, by rw [e1]; exact h1, h2, by rw [e1, e2]; exact h3, ?_⟩
        rcases h4 with ⟨hd, h4⟩ | ⟨hd, h4, h5⟩
        · exact .inl ⟨hd, e3.trans h4⟩
        · exact .inr ⟨hd, e3.trans h4, fun b mb o => h5 b mb (ho b o)⟩
  · cases h : ρ[j]? with
    | none => rw [(gn j h).1, (gn j h).2]; simp
    | some k => rw [(gs j k h).2.1, (gs j k h).2.2]; exact hH.nodup k
  · cases h : ρ[j]? with
    | none => rw [(gn j h).1, (gn j h).2] at mb; simp at mb
    | some k =>
      rw [(gs j k h).2.1, (gs j k h).2.2] at mb
      cases h' : ρ[i]? with
      | none => rw [(gn i h').1, (gn i h').2]; simp
      | some q =>
        rw [(gs i q h').2.1, (gs i q h').2.2]
        refine hH.apart k q (fun e => hji ?_) b mb
        subst e
        obtain ⟨l1, e1⟩ := List.getElem?_eq_some_iff.1 h
        obtain ⟨l2, e2⟩ := List.getElem?_eq_some_iff.1 h'
        exact nodup_inj hρ l1 l2 (e1.trans e2.symm)
  · cases h : ρ[j]? with
    | none => rw [(gn j h).1, (gn j h).2] at mb; simp at mb
    | some k => rw [(gs j k h).2.1, (gs j k h).2.2] at mb; exact hH.plain k b mb
  · have hs := hS t
    show SVR g' w (rSV ρ (st.sl t)) _
    cases hsl : st.sl t with
    | any => trivial
    | und => rw [hsl] at hs; exact hs
    | p ag cs => rw [hsl] at hs; exact hPV _ _ _ hs
    | tup xs =>
      rw [hsl] at hs
      obtain ⟨vs, h1, h2⟩ := hs
      exact ⟨vs, h1, h2.map_left (fun x : Bool × List AV => (x.1, x.2.map (rAV ρ))) fun x v h => hPV x.1 x.2 v h⟩
    | bp k off =>
      rw [hsl] at hs
      simp only [rSV]
      split
      · rename_i j hj
        obtain ⟨b, h1, h2⟩ := hs
        exact ⟨b, ((gs j k (kidx_zero hj)).1).trans h1, h2⟩
      · trivial
    | rp k m i off =>
      rw [hsl] at hs
      simp only [rSV]
      split
      · rename_i j hj
        obtain ⟨b, n, c, h1, h2⟩ := hs
        exact ⟨b, n, c, ((gs j k (kidx_zero hj)).1).trans h1, h2⟩
      · trivial
    | ep e off =>
      rw [hsl] at hs
      obtain ⟨b, lo, cs, L, h1, h2, h3, h4, h5⟩ := hs
      exact ⟨b, lo, cs, L, h1, h2, h3, fun x m o => h4 x m (ho x o), h5⟩
    | fn f => rw [hsl] at hs; exact hs
  · show svU _ (rSV ρ (st.sl t))
    cases st.sl t with
    | p ag cs => intro y my; obtain ⟨x, _, rfl⟩ := List.mem_map.1 my; exact rAV_U ρ x
    | tup xs =>
      intro y my
      obtain ⟨x, _, rfl⟩ := List.mem_map.1 my
      intro z mz
      obtain ⟨q, _, rfl⟩ := List.mem_map.1 mz
      exact rAV_U ρ q
    | bp k off =>
      simp only [rSV]
      split
      · rename_i j hj; exact (List.getElem?_eq_some_iff.1 (kidx_zero hj)).1
      · trivial
    | rp k m i off =>
      simp only [rSV]
      split
      · rename_i j hj; exact (List.getElem?_eq_some_iff.1 (kidx_zero hj)).1
      · trivial
    | _ => trivial
  · show obU _ (match ρ[j]? with | some k => rOb ρ (st.ob k) | none => .gone)
    split
    · rename_i k _
      cases st.ob k with
      | box t cs => intro y my; obtain ⟨x, _, rfl⟩ := List.mem_map.1 my; exact rAV_U ρ x
      | _ => trivial
    · trivial
  · show (match ρ[j]? with | some k => rOb ρ (st.ob k) | none => .gone) = .gone
    have : ρ[j]? = none := List.getElem?_eq_none (by omega)
    rw [this]
theorem mat_inv (m : Bool × Nat × Nat) (hI : Inv W U st a w) (hk : ∀ k, st.n ≤ k → ¬ U k) : ∃ U', Inv W U' (st.mat m) a w ∧ ∀ k, (st.mat m).n ≤ k → ¬ U' k := by
  have same : ∃ U', Inv W U' st a w ∧ ∀ k, st.n ≤ k → ¬ U' k := ⟨U, hI, hk⟩
  have hk0 : ¬ U st.n := hk st.n (Nat.le_refl _)
  have hU'n : ∀ k, st.n + 1 ≤ k → ¬ (U k ∨ k = st.n) := fun k hk' h => by
    rcases h with h | h
    · exact hk k (by omega) h
    · omega
  -- the new row's part
  have new : ∀ (e q : Nat), 0 < q → ∀ g, HI W g st.ob w → ∃ g', HI W g' (upd st.ob st.n (.row e q [] true)) w ∧ (∀ x u, svU U x → SVR g w x u → SVR g' w x u) ∧ g'.val st.n = .slice none 0 0 ∧ (∀ x u, avU U x → AVR g w x u → AVR g' w x u) := fun e q hq g hH => by
    obtain ⟨t1, t2⟩ := hH.turn (key := st.n) (U := U) (w' := w) (v := .slice none 0 0) (O := []) (D := []) (o := .row e q [] true) hI.wf.ob hk0 [] (by simp) hH.below (Nat.le_refl _) (fun _ _ _ => rfl) (by simp) (by simp) (by simp) (by simp)
      (fun _ => ⟨hq, [], [], by simpa [Gh.turn, upd] using World.ownsRow_nil _ _ _ _, ⟨rfl, rfl⟩, by simp [Gh.turn, upd, Value.ownBlock], .inl ⟨rfl, by simp [Gh.turn]⟩⟩)
    refine ⟨_, t1, t2, by simp [Gh.turn, upd], fun x u hx hu => hu.move hx (fun k hk' => upd_ne _ _ fun e => hk0 (e ▸ hk')) (fun _ _ _ => rfl) (fun b ho => ?_)⟩
    rcases turn_own ho with mo | ⟨k, _, _, mk⟩
    · simp at mo
    · exact .inl ⟨k, mk⟩
  have up : ∀ k, U k → (U k ∨ k = st.n) := fun _ h => .inl h
  obtain ⟨⟨g, hH, hS⟩, hU, hdef⟩ := hI
  unfold St.mat
  split
  · split
    · rename_i e q hsl
      split
      · rename_i hq
        obtain ⟨g', t1, t2, t3, _⟩ := new e q hq g hH
        refine ⟨fun k => U k ∨ k = st.n, ⟨⟨g', t1, fun t => ?_⟩, ⟨fun t => ?_, fun k => ?_, fun k hk' => ?_⟩, hdef⟩, hU'n⟩
        · show SVR g' w (upd st.sl m.2.1 (.p false [.row st.n]) t) _
          by_cases ht : t = m.2.1
          · subst ht
            rw [upd_same]
            have hs := hS m.2.1
            rw [hsl] at hs
            have hv := nil_of hs
            rw [hv]
            exact ⟨_, rfl, t3.symm, rfl⟩
          · rw [upd_ne _ _ ht]; exact t2 _ _ (hU.sl t) (hS t)
        · show svU _ (upd st.sl m.2.1 (.p false [.row st.n]) t)
          by_cases ht : t = m.2.1
          · subst ht; rw [upd_same]; intro y my; simp at my; subst my; exact .inr rfl
          · rw [upd_ne _ _ ht]; exact (hU.sl t).mono up
        · show obU _ (upd st.ob st.n _ k)
          by_cases hk' : k = st.n
          · subst hk'; rw [upd_same]; trivial
          · rw [upd_ne _ _ hk']; exact (hU.ob k).mono up
        · show upd st.ob st.n _ k = _
          rw [upd_ne _ _ fun e => hk' (.inr e)]; exact hU.gone k fun h => hk' (.inl h)
      · exact same
    · exact same
  · split
    · rename_i ty cs hob
      split
      · rename_i e q hcs
        split
        · rename_i hq
          obtain ⟨g', t1, t2, t3, t4⟩ := new e q hq g hH
          have hUk : U m.2.1 := Classical.byContradiction fun hn => by have := hU.gone _ hn; rw [hob] at this; simp at this
          have hne : m.2.1 ≠ st.n := fun e => hk0 (e ▸ hUk)
          have hcu : avsU U cs := by have := hU.ob m.2.1; rw [hob] at this; exact this
          have hbox := t1.obs m.2.1
          rw [upd_ne _ _ hne, hob] at hbox
          obtain ⟨b, vs, b1, b2, b3, b4, b5⟩ := hbox
          obtain ⟨u, u1, u2⟩ := b5.at hcs
          have u2' : u = .slice none 0 0 := u2
          have hvs : vs.set m.2.2 u = vs := by
            obtain ⟨hl, he⟩ := List.getElem?_eq_some_iff.1 u1
            rw [← he]; exact List.set_getElem_self hl
          have hbox' : ObR g' w W.heap.size m.2.1 (.box ty (cs.set m.2.2 (.row st.n))) := by
            refine ⟨b, vs, b1, b2, b3, b4, ?_⟩
            have := b5.set (i := m.2.2) (a := AV.row st.n) (b := u) ⟨by rw [u2', t3], by rw [u2']; rfl⟩
            rw [hvs] at this
            exact this
          have hob' : ∀ k, (upd (upd st.ob m.2.1 (.box ty (cs.set m.2.2 (.row st.n)))) st.n (.row e q [] true)) k = if k = m.2.1 then .box ty (cs.set m.2.2 (.row st.n)) else (upd st.ob st.n (.row e q [] true)) k := fun k => by
            by_cases h1 : k = st.n
            · have h2 : ¬ k = m.2.1 := fun e' => hne (e'.symm.trans h1)
              have h3 : ¬ st.n = m.2.1 := fun e' => hne e'.symm
              simp [upd, h1, h3]
            · by_cases h2 : k = m.2.1
              · simp [upd, h2, hne]
              · simp [upd, h1, h2]
          refine ⟨fun k => U k ∨ k = st.n, ⟨⟨g', ⟨t1.below, fun k => ?_, t1.nodup, t1.apart, t1.plain⟩, fun t => t2 _ _ (hU.sl t) (hS t)⟩, ⟨fun t => (hU.sl t).mono up, fun k => ?_, fun k hk' => ?_⟩, hdef⟩, hU'n⟩
          · show ObR g' w W.heap.size k ((upd (upd st.ob m.2.1 (.box ty (cs.set m.2.2 (.row st.n)))) st.n (.row e q [] true)) k)
            rw [hob' k]
            split
            · rename_i h1; subst h1; exact hbox'
            · exact t1.obs k
          · show obU _ ((upd (upd st.ob m.2.1 (.box ty (cs.set m.2.2 (.row st.n)))) st.n (.row e q [] true)) k)
            rw [hob' k]
            split
            · intro y my
              rcases List.mem_or_eq_of_mem_set my with my | my
              · exact (hcu y my).mono up
              · subst my; exact .inr rfl
            · by_cases h1 : k = st.n
              · subst h1; rw [upd_same]; trivial
              · rw [upd_ne _ _ h1]; exact (hU.ob k).mono up
          · show (upd (upd st.ob m.2.1 (.box ty (cs.set m.2.2 (.row st.n)))) st.n (.row e q [] true)) k = _
            rw [hob' k, if_neg (show ¬ k = m.2.1 from fun e' => hk' (.inl (e' ▸ hUk))), upd_ne _ _ (show k ≠ st.n from fun e' => hk' (.inr e'))]
            exact hU.gone k fun h => hk' (.inl h)
        · exact same
      · exact same
    · exact same
theorem mats_inv : ∀ (ms : List (Bool × Nat × Nat)) {U : Nat → Prop} {st : St}, Inv W U st a w → (∀ k, st.n ≤ k → ¬ U k) → ∃ U', Inv W U' (st.mats ms) a w
  | [], U, st, hI, _ => ⟨U, hI⟩
  | m :: r, U, st, hI, hk => by
    obtain ⟨U', h1, h2⟩ := mat_inv m hI hk
    exact mats_inv r h1 h2
theorem least {p : Nat → Prop} (h : ∃ n, p n) : ∃ n, p n ∧ ∀ m, m < n → ¬ p m := by
  obtain ⟨n, hn⟩ := h
  induction n using Nat.strongRecOn with
  | _ n ih =>
    by_cases hm : ∃ m, m < n ∧ p m
    · obtain ⟨m, h1, h2⟩ := hm; exact ih m h1 h2
    · exact ⟨n, hn, fun m h1 h2 => hm ⟨m, h1, h2⟩⟩
theorem wp_loop_n {c : Code} {Q : Exit → Act → World → Prop} (J : Nat → Act → World → Prop) (n : Nat) (h₀ : J n a w) (round : ∀ n a w, J n a w → c.wp P (Exit.then (fun a' w' => ∃ m, m < n ∧ J m a' w') Q) a w) : (Code.loop c).wp P Q a w := by
  classical
  let μ : Act → World → Nat := fun a w => if h : ∃ n, J n a w then Classical.choose (least h) else 0
  have hμ : ∀ a w (h : ∃ n, J n a w), J (μ a w) a w ∧ ∀ m, m < μ a w → ¬ J m a w := fun a w h => by
    simp only [μ, dif_pos h]
    exact Classical.choose_spec (least h)
  refine wp_loop (fun a w => ∃ n, J n a w) μ ⟨n, h₀⟩ fun a w h => ?_
  refine wp_mono (round (μ a w) a w (hμ a w h).1) fun e a' w' he => ?_
  cases e with
  | normal =>
    obtain ⟨m, h1, h2⟩ := he
    refine ⟨⟨m, h2⟩, ?_⟩
    have h3 := hμ a' w' ⟨m, h2⟩
    rcases Nat.lt_or_ge m (μ a' w') with h4 | h4
    · exact absurd h2 (h3.2 m h4)
    · omega
  | _ => exact he
def toExit : Ex → Exit
  | .normal => .normal
  | .exit id => .exit id
  | .ret => .ret
/-- the code's form: slots in range, open orders that do not matter -/
def codeOk (N : Nat) : Code → Bool
  | .skip => true
  | .region _ ops d => (ops.toList.all fun o => match o.dst with | some t => Nat.blt t N | none => true) && (!d || drawOk ops)
  | .seq x y => codeOk N x && codeOk N y
  | .cond _ x y => codeOk N x && codeOk N y
  | .block _ x => codeOk N x
  | .loop x => codeOk N x
  | .exit _ => true
  | .ret => true
  | _ => false
theorem swp_sound (htt : ∀ t i, tt t = some i → TOk P t i) (hmix : P.follows .mixedOrders = true) {N : Nat} : ∀ (c : Code), codeOk N c = true → ∀ (Qs : Ex → St → Prop) (Q : Exit → Act → World → Prop),
    (∀ ex U' st' a' w', Inv W U' st' a' w' → (∀ k, st'.n ≤ k → ¬ U' k) → a'.tmps.size = N → Qs ex st' → Q (toExit ex) a' w') →
    ∀ U st a w, Inv W U st a w → (∀ k, st.n ≤ k → ¬ U k) → a.tmps.size = N → swp tt (Sound P) c Qs st → c.wp P Q a w
  | .skip, _, Qs, Q, hQ, U, st, a, w, hI, hk, hs, h => wp_skip (hQ .normal U st a w hI hk hs h)
  | .exit id, _, Qs, Q, hQ, U, st, a, w, hI, hk, hs, h => wp_exit (hQ (.exit id) U st a w hI hk hs h)
  | .ret, _, Qs, Q, hQ, U, st, a, w, hI, hk, hs, h => wp_ret (hQ .ret U st a w hI hk hs h)
  | .region id ops d, hok, Qs, Q, hQ, U, st, a, w, hI, hk, hs, h => by
    simp only [codeOk, Bool.and_eq_true, List.all_eq_true] at hok
    have hN : ∀ o ∈ ops.toList, ∀ t, o.dst = some t → t < N := fun o mo t ht => by
      have := hok.1 o mo
      rw [ht] at this
      exact Nat.le_of_ble_eq_true this
    have hend : ∀ U' st' a' w', Inv W U' st' a' w' → (∀ k, st.n + 16 * ops.toList.length ≤ k → ¬ U' k) → a'.tmps.size = N → endK (st.n + 16 * ops.toList.length) (Qs .normal) st' → Q .normal a' w' := fun U' st' a' w' h1 h2 h3 h4 =>
      hQ .normal U' { st' with n := st.n + 16 * ops.toList.length } a' w' ⟨h1.ex, ⟨h1.wf.sl, h1.wf.ob, h1.wf.gone⟩, h1.defers⟩ h2 h3 h4
    have h' : opsS tt (Sound P) ops.toList st.n ops.toList (endK (st.n + 16 * ops.toList.length) (Qs .normal)) st := h
    cases d with
    | false =>
      refine wp_region ?_
      have := ops_sound (Q := Q) htt hN ops.toList 0 st.n U st a w (by simp) h' hI hk hs hend
      rw [List.range_eq_range']
      simpa using this
    | true =>
      have hdr : drawOk ops = true := by simpa using hok.2
      refine wp_region_any hmix ?_
      have h2 := opsI_of (tt := tt) (S := Sound P) (all := ops.toList) (base := st.n) (K := endK (st.n + 16 * ops.toList.length) (Qs .normal)) ops.toList 0 st (by simp) (by simpa using h')
      rw [← List.range_eq_range'] at h2
      have hI' : Inv W U st a { w with drawn := w.drawn + 1 } := by
        obtain ⟨⟨g, hH, hS⟩, hU, hdef⟩ := hI
        have hw : ∀ b, b < w.heap.size → ¬ g.own b → ({ w with drawn := w.drawn + 1 } : World).heap[b]? = w.heap[b]? := fun _ _ _ => rfl
        refine ⟨⟨g, hH.step (U := U) (fun _ => False) ⟨hH.below.os, hH.below.tape, hH.below.output, hH.below.size, hH.below.block⟩ (fun _ _ _ => rfl) (fun _ _ => ⟨rfl, rfl, rfl, rfl⟩) hU.ob (fun _ _ => rfl) (fun _ h => .inl h) (fun _ h => h.elim), fun t => ?_⟩, hU, hdef⟩
        exact (hS t).move (hU.sl t) (fun _ _ => rfl) hw (fun _ h => .inl h) (Nat.le_refl _)
      refine any_sound (base := st.n) htt hN hdr (fun U' st' a' w' h1 h2 h3 h4 => hend U' st' a' w' h1 (by simpa using h2) h3 h4) ops.size (List.range ops.toList.length) (Array.replicate ops.size false) U st a _ (by simp) (List.pairwise_lt_range) (by simp) (fun i => ?_) (fun i o ho hl => ?_) h2 hI' (fun j _ k hk' _ => hk k (by omega)) (fun k hk' => hk k (by omega)) hs
      · simp only [List.mem_range, Array.length_toList]
        constructor
        · intro hi; exact ⟨hi, by simp [Array.getD_eq_getD_getElem?, hi]⟩
        · exact fun hi => hi.1
      · exfalso
        have hi : i < ops.size := (Array.getElem?_eq_some_iff.1 ho).1
        simp [Array.getD_eq_getD_getElem?, hi] at hl
  | .seq x y, hok, Qs, Q, hQ, U, st, a, w, hI, hk, hs, h => by
    simp only [codeOk, Bool.and_eq_true] at hok
    refine wp_seq (swp_sound htt hmix x hok.1 (thenK (swp tt (Sound P) y Qs) Qs) _ ?_ U st a w hI hk hs h)
    intro ex U' st' a' w' h1 h2 h3 h4
    cases ex with
    | normal => exact swp_sound htt hmix y hok.2 Qs Q hQ U' st' a' w' h1 h2 h3 h4
    | exit id => exact hQ (.exit id) U' st' a' w' h1 h2 h3 h4
    | ret => exact hQ .ret U' st' a' w' h1 h2 h3 h4
  | .cond c x y, hok, Qs, Q, hQ, U, st, a, w, hI, hk, hs, h => by
    simp only [codeOk, Bool.and_eq_true] at hok
    simp only [swp, condK] at h
    split at h
    · rename_i hb
      obtain ⟨b, hb'⟩ : ∃ b, st.ev tt 0 c = .p false [.c (.bool b)] := by
        unfold isBool at hb
        split at hb
        · rename_i b he; exact ⟨b, he⟩
        · simp at hb
      obtain ⟨g, hH, hS⟩ := hI.ex
      have hv := (ev_ok (P := P) htt hS hI.wf 0 c).1
      rw [hb'] at hv
      have hv' := bool_of hv
      refine wp_cond hv' ?_
      cases b with
      | true => rw [if_pos (by rw [hb']; rfl)] at h; exact swp_sound htt hmix x hok.1 Qs Q hQ U st a w hI hk hs h
      | false => rw [if_neg (by rw [hb']; simp [getBool])] at h; exact swp_sound htt hmix y hok.2 Qs Q hQ U st a w hI hk hs h
    · exact h.elim
  | .block id x, hok, Qs, Q, hQ, U, st, a, w, hI, hk, hs, h => by
    refine wp_block (swp_sound htt hmix x hok (blockK id Qs) _ ?_ U st a w hI hk hs h)
    intro ex U' st' a' w' h1 h2 h3 h4
    cases ex with
    | normal => exact hQ .normal U' st' a' w' h1 h2 h3 h4
    | exit j =>
      show Exit.inBlock id Q (.exit j) a' w'
      simp only [blockK] at h4
      simp only [Exit.inBlock]
      split
      · rename_i e; rw [if_pos e] at h4; exact hQ .normal U' st' a' w' h1 h2 h3 h4
      · rename_i e; rw [if_neg e] at h4; exact hQ (.exit j) U' st' a' w' h1 h2 h3 h4
    | ret => exact hQ .ret U' st' a' w' h1 h2 h3 h4
  | .loop x, hok, Qs, Q, hQ, U, st, a, w, hI, hk, hs, h => by
    obtain ⟨n, hn⟩ := h
    refine wp_loop_n (fun n a w => ∃ U st, Inv W U st a w ∧ (∀ k, st.n ≤ k → ¬ U k) ∧ a.tmps.size = N ∧ loopN (swp tt (Sound P) x) Qs n st) n ⟨U, st, hI, hk, hs, hn⟩ ?_
    rintro n a w ⟨U, st, hI, hk, hs, hn⟩
    cases n with
    | zero => exact hn.elim
    | succ n =>
      obtain ⟨ms, ρ, hρ, hb⟩ := hn
      obtain ⟨U2, hI2⟩ := mats_inv ms hI hk
      refine swp_sound htt hmix x hok (thenK (loopN (swp tt (Sound P) x) Qs n) Qs) _ ?_ _ ((st.mats ms).ren ρ) a w (ren_inv hI2 hρ) (fun k hk' hU => by simp only [St.ren] at hk'; omega) hs hb
      intro ex U' st' a' w' h1 h2 h3 h4
      cases ex with
      | normal => exact ⟨n, by omega, U', st', h1, h2, h3, h4⟩
      | exit id => exact hQ (.exit id) U' st' a' w' h1 h2 h3 h4
      | ret => exact hQ .ret U' st' a' w' h1 h2 h3 h4
  | .rangeFunc _ _ _ _, hok, _, _, _, _, _, _, _, _, _, _, _ => by simp [codeOk] at hok
  | .scope _, hok, _, _, _, _, _, _, _, _, _, _, _ => by simp [codeOk] at hok
  | .label _, hok, _, _, _, _, _, _, _, _, _, _, _ => by simp [codeOk] at hok
  | .goto _, hok, _, _, _, _, _, _, _, _, _, _, _ => by simp [codeOk] at hok
  | .refuse _, hok, _, _, _, _, _, _, _, _, _, _, _ => by simp [codeOk] at hok
end
end Go.Proofs.Ytfmplnebdldpdaa
