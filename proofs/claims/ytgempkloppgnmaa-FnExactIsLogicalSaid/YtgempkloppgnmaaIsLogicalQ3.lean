/- Texts of this proof, joined: BFn, BTok, DT, Shelf, SortH, Ext, Dp0, Dp1, Dp4, Dp5, Dp6, Dp8, Dp10, Dp11, Dp12, Dp13, Dp14. What each holds is said at its theorems. -/
import Derived.Test.YtgempkloppgnmaaIsLogicalQ2
import Derived.Test.YtgempkloppgnmaaIsLogicalQ1
import Derived.Test.YtgempkloppgnmaaProg
import Derived.Shelf.Small.Bits
import Derived.Shelf.Strconv.Itoa0
import Derived.Shelf.Sort.Plain
import Derived.Ground.Names2Prog
import Derived.Shelf.Slices.SearchI
import Derived.Shelf.Slices.In.SortNone
import Derived.Shelf.Slices.In.SortNone2
set_option linter.unusedSimpArgs false
set_option linter.unusedVariables false
namespace Go.Proofs.Ytgempkloppgnmaa
open Go.RowKit
section
variable {P : Program} {J : World → Prop} {JF : Nat → Prop} {W : Base} {U : Nat → Prop} {st : St} {w w' : World} {a : Act} {tt : Nat → Option TI} {g : Gh}
/-- the blocks that are written to behind the call: those of calls below, and those of the rows that are given -/
def nK (g : Gh) (K : Nat → Prop) (b : Nat) : Prop := g.Z b ∨ ∃ k, K k ∧ b ∈ g.O k
theorem own_base {k e m n B : Nat} {cs : List Value} (h : w.ownsRow 0 e m (g.val k) n cs) (hB : ∀ b ∈ (g.val k).ownBlock.toList, B ≤ b) : w.ownsRow B e m (g.val k) n cs := by
  refine ⟨h.1, ?_⟩
  rcases h.2 with h0 | ⟨q, cap, cur, hv, hg, r⟩
  · exact .inl h0
  · exact .inr ⟨q, cap, cur, hv, hB q (by simp [hv, Value.ownBlock]), r⟩
variable {K : Nat → Prop}
theorem resAV_ok (hI : HI W g st.ob w) (hK : ∀ k, K k → ∀ e m xs d, st.ob k = .row e m xs d → d = 2) {x : AV} {ct : Bool × CT} {ks : List Nat} {v : Value} (h : resAV st x = some (ct, ks)) (hks : ∀ k ∈ ks, K k ∧ ∀ b ∈ g.O k ++ g.D k, W.heap.size ≤ b) (hx : AVR g w x v) : OC w W.heap.size (nK g K) ct v (g.F ks) := by
  have hsub : ∀ b, nK g K b → g.own b := fun b hb => by
    rcases hb with hz | ⟨k, _, mk⟩
    · exact .inr hz
    · exact .inl ⟨k, mk⟩
  cases x with
  | c y =>
    obtain ⟨L, h1, h2⟩ := hx
    cases y <;> simp only [resAV, Option.some.injEq, Prod.mk.injEq] at h <;> obtain ⟨rfl, rfl⟩ := h
    · exact ⟨⟨h1.1, rfl⟩, by simp [Gh.F]⟩
    · exact ⟨⟨h1.1, rfl⟩, by simp [Gh.F]⟩
    · exact ⟨⟨h1.1, rfl, h1.2.2⟩, by simp [Gh.F]⟩
    · exact ⟨by simp [Gh.F], L, h1, fun b mb hb => h2 b mb (hsub b hb)⟩
  | row k =>
    simp only [resAV] at h
    split at h
    · rename_i e m xs d hk
      obtain ⟨hm, cs, L, o1, o2, o3, o5⟩ := hI.deep hk
      split at h
      · rename_i hd
        simp only [Option.some.injEq, Prod.mk.injEq] at h
        obtain ⟨rfl, rfl⟩ := h
        have hKk := hks k (by simp)
        rcases o5 with ⟨_, q1, q2⟩ | ⟨q, _⟩ | ⟨q, _⟩
        · refine ⟨hm, cs, L, by rw [hx.1]; exact own_base o1 fun b mb => hKk.2 b (by simp [q1, mb]), o2, by simp [Gh.F, q1, q2, hx.1], fun b mb => .inr ⟨k, hKk.1, by rw [q1]; rw [hx.1] at mb; exact mb⟩⟩
        · omega
        · omega
      · rename_i hd
        simp only [Option.some.injEq, Prod.mk.injEq] at h
        obtain ⟨rfl, rfl⟩ := h
        have hnK : ¬ K k := fun h => hd (hK k h e m xs d hk)
        obtain ⟨A, cap, L0, s1, s2, s3, s4, s5⟩ := Sl.row o1
        refine ⟨by simp [Gh.F], L0 ++ L, ⟨A, cap, cs, L0, L, by rw [hx.1, s1], s2, s3, rfl, hm, s4, o2⟩, fun b mb hb => ?_⟩
        rcases List.mem_append.1 mb with m1 | m1
        · have m2 := s5.subset m1
          rcases o5 with ⟨q, _⟩ | ⟨_, q1, q2⟩ | ⟨_, _, _, q⟩
          · exact hd q
          · have mk : b ∈ g.O k ++ g.D k := by simp [q1, m2]
            rcases hb with hz | ⟨j, hj, mj⟩
            · exact hI.nz mk hz
            · exact hI.apart k j (fun e => hnK (e ▸ hj)) b mk (by simp [mj])
          · exact q b m2 (hsub b hb)
        · exact o3 b m1 (hsub b hb)
    · simp at h
  | nil e m =>
    simp only [resAV] at h
    split at h
    · rename_i hm
      simp only [Option.some.injEq, Prod.mk.injEq] at h
      obtain ⟨rfl, rfl⟩ := h
      have hx' : v = .slice none 0 0 := hx
      subst hx'
      exact ⟨hm, [], [], World.ownsRow_nil _ _ _ _, ⟨rfl, rfl⟩, by simp [Gh.F, Value.ownBlock], by simp [Value.ownBlock]⟩
    · simp at h
  | dead => simp [resAV] at h
theorem resAVs_ok (hI : HI W g st.ob w) (hK : ∀ k, K k → ∀ e m xs d, st.ob k = .row e m xs d → d = 2) : ∀ {xs : List AV} {cts : List (Bool × CT)} {ks : List Nat} {vs : List Value}, resAVs st xs = some (cts, ks) → (∀ k ∈ ks, K k ∧ ∀ b ∈ g.O k ++ g.D k, W.heap.size ≤ b) → All2 (AVR g w) xs vs → OCs w W.heap.size (nK g K) cts vs (g.F ks)
  | [], _, _, [], h, _, _ => by
    simp only [resAVs, Option.some.injEq, Prod.mk.injEq] at h
    obtain ⟨rfl, rfl⟩ := h
    exact ⟨rfl, by simp [Gh.F]⟩
  | [], _, _, _ :: _, _, _, h => h.elim
  | _ :: _, _, _, [], _, _, h => h.elim
  | x :: r, cts, ks, v :: vs, h, hks, hr => by
    simp only [resAVs] at h
    obtain ⟨⟨c1, k1⟩, h1, h⟩ := Option.bind_eq_some_iff.1 h
    obtain ⟨⟨c2, k2⟩, h2, h⟩ := Option.map_eq_some_iff.1 h
    simp only [Prod.mk.injEq] at h
    obtain ⟨rfl, rfl⟩ := h
    exact ⟨v, vs, g.F k1, g.F k2, rfl, by simp [Gh.F], resAV_ok hI hK h1 (fun k mk => hks k (by simp [mk])) hr.1, resAVs_ok hI hK h2 (fun k mk => hks k (by simp [mk])) hr.2⟩
theorem resPV_ok (hI : HI W g st.ob w) (hK : ∀ k, K k → ∀ e m xs d, st.ob k = .row e m xs d → d = 2) {ag : Bool} {cs : List AV} {cts : List (Bool × CT)} {ks : List Nat} {v : Value} (h : resAVs st cs = some (cts, ks)) (hks : ∀ k ∈ ks, K k ∧ ∀ b ∈ g.O k ++ g.D k, W.heap.size ≤ b) (hx : PVR g w ag cs v) : OP w W.heap.size (nK g K) (ag, cts) v (g.F ks) := by
  cases ag with
  | true => obtain ⟨vs, rfl, h2⟩ := hx; exact .inl ⟨rfl, vs, rfl, resAVs_ok hI hK h hks h2⟩
  | false =>
    obtain ⟨x, rfl, h2⟩ := hx
    simp only [resAVs] at h
    obtain ⟨⟨c1, k1⟩, h1, h⟩ := Option.bind_eq_some_iff.1 h
    simp at h
    obtain ⟨rfl, rfl⟩ := h
    exact .inr ⟨rfl, c1, rfl, resAV_ok hI hK h1 hks h2⟩
/- what is given is said to be lent -/
theorem wkC_ok {B : Nat} {n : Nat → Prop} : ∀ {r res : List (Bool × CT)} {vs : List Value} {F : List Nat}, OCs w B n r vs F → wkC r res → F.Nodup → ∃ F', F'.Sublist F ∧ ∀ m : Nat → Prop, (∀ b ∈ F', n b → m b) → (∀ b, m b → n b) → (∀ b ∈ F, m b → b ∈ F') → OCs w B m res vs F'
  | [], [], vs, F, h, _, _ => ⟨[], by simp, fun m _ _ _ => ⟨h.1, rfl⟩⟩
  | [], _ :: _, _, _, _, h, _ => h.elim
  | _ :: _, [], _, _, _, h, _ => h.elim
  | x :: r, y :: res, _, _, ⟨v, vs, F1, F2, rfl, rfl, h1, h2⟩, ⟨e1, e2, hw⟩, hnd => by
    rw [List.nodup_append] at hnd
    obtain ⟨F2', s2, h2'⟩ := wkC_ok h2 hw hnd.2.1
    have key : ∃ F1', F1'.Sublist F1 ∧ ∀ m : Nat → Prop, (∀ b ∈ F1', n b → m b) → (∀ b, m b → n b) → (∀ b ∈ F1, m b → b ∈ F1') → OC w B m y v F1' := by
      obtain ⟨b1, x⟩ := x
      obtain ⟨b2, y⟩ := y
      simp only at e1 e2
      subst e1
      cases b1 with
      | true =>
        have : b2 = true := by rcases e2 with e | e <;> simp_all
        subst this
        obtain ⟨rfl, L, q1, q2⟩ := h1
        exact ⟨[], by simp, fun m _ m2 _ => ⟨rfl, L, q1, fun b mb hb => q2 b mb (m2 b hb)⟩⟩
      | false =>
        cases b2 with
        | false =>
          refine ⟨F1, List.Sublist.refl _, fun m m1 _ _ => ?_⟩
          cases x with
          | sl e q xs =>
            obtain ⟨hm, cs, L, o1, o2, o3, o4⟩ := h1
            exact ⟨hm, cs, L, o1, o2, o3, fun b mb => m1 b (by simp [o3, mb]) (o4 b mb)⟩
          | int k i => exact h1
          | bool b => exact h1
          | str s => exact h1
        | true =>
          refine ⟨[], by simp, fun m _ _ m3 => ⟨rfl, ?_⟩⟩
          cases x with
          | sl e q xs =>
            obtain ⟨hm, cs, L, o1, o2, o3, o4⟩ := h1
            obtain ⟨A, cap, L0, s1, s2, s3, s4, s5⟩ := Sl.row o1
            refine ⟨L0 ++ L, ⟨A, cap, cs, L0, L, s1, s2, s3, rfl, hm, s4, o2⟩, fun b mb hb => ?_⟩
            have : b ∈ F1 := by
              rw [o3]
              rcases List.mem_append.1 mb with m1 | m1
              · exact List.mem_append.2 (.inl (s5.subset m1))
              · exact List.mem_append.2 (.inr m1)
            have := m3 b this hb
            simp at this
          | int k i => exact ⟨[], h1.1, by simp⟩
          | bool b => exact ⟨[], h1.1, by simp⟩
          | str s => exact ⟨[], h1.1, by simp⟩
    obtain ⟨F1', s1, h1'⟩ := key
    refine ⟨F1' ++ F2', List.Sublist.append s1 s2, fun m m1 m2 m3 => ⟨v, vs, F1', F2', rfl, rfl, h1' m (fun b mb => m1 b (by simp [mb])) m2 (fun b mb hb => ?_), h2' m (fun b mb => m1 b (by simp [mb])) m2 (fun b mb hb => ?_)⟩⟩
    · rcases List.mem_append.1 (m3 b (by simp [mb]) hb) with h | h
      · exact h
      · exact absurd rfl (hnd.2.2 b mb b (s2.subset h))
    · rcases List.mem_append.1 (m3 b (by simp [mb]) hb) with h | h
      · exact absurd rfl (hnd.2.2 b (s1.subset h) b mb)
      · exact h
theorem wkP_ok {B : Nat} {n : Nat → Prop} {x y : RT} {v : Value} {F : List Nat} (h : OP w B n x v F) (e1 : x.1 = y.1) (hw : wkC x.2 y.2) (hnd : F.Nodup) : ∃ F', F'.Sublist F ∧ ∀ m : Nat → Prop, (∀ b ∈ F', n b → m b) → (∀ b, m b → n b) → (∀ b ∈ F, m b → b ∈ F') → OP w B m y v F' := by
  rcases h with ⟨h1, vs, rfl, h2⟩ | ⟨h1, ct, h2, h3⟩
  · obtain ⟨F', s, h⟩ := wkC_ok h2 hw hnd
    exact ⟨F', s, fun m a b c => .inl ⟨e1 ▸ h1, vs, rfl, h m a b c⟩⟩
  · obtain ⟨F', s, h⟩ := wkC_ok (r := x.2) (vs := [v]) (F := F) (by rw [h2]; exact ⟨v, [], F, [], rfl, by simp, h3, rfl, rfl⟩) hw hnd
    refine ⟨F', s, fun m p1 p2 p3 => .inr ⟨e1 ▸ h1, ?_⟩⟩
    have h4 := h m p1 p2 p3
    generalize y.2 = l at h4 hw
    cases l with
    | nil => rw [h2] at hw; exact hw.elim
    | cons c l =>
      cases l with
      | nil =>
        obtain ⟨v', vs', F1, F2, q1, rfl, q3, q4⟩ := h4
        simp only [List.cons.injEq] at q1
        obtain ⟨rfl, rfl⟩ := q1
        obtain ⟨_, rfl⟩ := q4
        exact ⟨c, rfl, by simpa using q3⟩
      | cons _ _ => rw [h2] at hw; exact hw.2.2.elim
theorem wkR_ok {B : Nat} {n : Nat → Prop} : ∀ {r res : List RT} {vs : List Value} {F : List Nat}, OPs w B n r vs F → wkR r res → F.Nodup → ∃ F', F'.Sublist F ∧ ∀ m : Nat → Prop, (∀ b ∈ F', n b → m b) → (∀ b, m b → n b) → (∀ b ∈ F, m b → b ∈ F') → OPs w B m res vs F'
  | [], [], vs, F, h, _, _ => ⟨[], by simp, fun m _ _ _ => ⟨h.1, rfl⟩⟩
  | [], _ :: _, _, _, _, h, _ => h.elim
  | _ :: _, [], _, _, _, h, _ => h.elim
  | x :: r, y :: res, _, _, ⟨v, vs, F1, F2, rfl, rfl, h1, h2⟩, ⟨e1, e2, hw⟩, hnd => by
    rw [List.nodup_append] at hnd
    obtain ⟨F2', s2, h2'⟩ := wkR_ok h2 hw hnd.2.1
    obtain ⟨F1', s1, h1'⟩ := wkP_ok h1 e1 e2 hnd.1
    refine ⟨F1' ++ F2', List.Sublist.append s1 s2, fun m m1 m2 m3 => ⟨v, vs, F1', F2', rfl, rfl, h1' m (fun b mb => m1 b (by simp [mb])) m2 (fun b mb hb => ?_), h2' m (fun b mb => m1 b (by simp [mb])) m2 (fun b mb hb => ?_)⟩⟩
    · rcases List.mem_append.1 (m3 b (by simp [mb]) hb) with h | h
      · exact h
      · exact absurd rfl (hnd.2.2 b mb b (s2.subset h))
    · rcases List.mem_append.1 (m3 b (by simp [mb]) hb) with h | h
      · exact absurd rfl (hnd.2.2 b (s1.subset h) b mb)
      · exact h
def resRun (tmps : Array Value) : ResultVar → Sem Value
  | .tmp t => pure (tmps.getD t undef)
  | .cell b t => do loadVar t (← asAddr (tmps.getD b undef))
theorem results_eq (fn : Func) (tmps : Array Value) : results fn tmps = (do let vs ← fn.results.mapM (resRun tmps); pure (if h : vs.size = 1 then vs[0] else .tuple vs)) := by
  unfold results
  congr 1
theorem resOf_ok (htt : ∀ t i, tt t = some i → TOk P t i) (hI : HI W g st.ob w) (hS : ∀ t, SVR g w (st.sl t) (a.tmps.getD t undef)) (hU : StU U st) (hK : ∀ k, K k → ∀ e m xs d, st.ob k = .row e m xs d → d = 2) : ∀ {rs : List ResultVar} {res : List RT} {ks : List Nat}, resOf tt st rs = some (res, ks) → (∀ k ∈ ks, K k ∧ ∀ b ∈ g.O k ++ g.D k, W.heap.size ≤ b) →
    ∃ vs : List Value, (rs.mapM (resRun a.tmps)).run P w = .ok vs w ∧ OPs w W.heap.size (nK g K) res vs (g.F ks)
  | [], res, ks, h, _ => by
    simp only [resOf, Option.some.injEq, Prod.mk.injEq] at h
    obtain ⟨rfl, rfl⟩ := h
    exact ⟨[], by simp, rfl, by simp [Gh.F]⟩
  | .tmp t :: r, res, ks, h, hks => by
    simp only [resOf] at h
    split at h
    · rename_i ag cs hsl
      obtain ⟨⟨c1, k1⟩, h1, h⟩ := Option.bind_eq_some_iff.1 h
      obtain ⟨⟨c2, k2⟩, h2, h⟩ := Option.map_eq_some_iff.1 h
      simp only [Prod.mk.injEq] at h
      obtain ⟨rfl, rfl⟩ := h
      obtain ⟨vs, i1, i2⟩ := resOf_ok htt hI hS hU hK h2 (fun k mk => hks k (by simp [mk]))
      have hs := hS t
      rw [hsl] at hs
      refine ⟨a.tmps.getD t undef :: vs, ?_, _, vs, g.F k1, g.F k2, rfl, by simp [Gh.F], resPV_ok hI hK h1 (fun k mk => hks k (by simp [mk])) hs, i2⟩
      simp only [List.mapM_cons, resRun, Sem.run_bind, Sem.run_pure, Result.andThen_ok, i1]
    · simp at h
  | .cell t ty :: r, res, ks, h, hks => by
    simp only [resOf] at h
    split at h
    · rename_i ag cs hsl
      obtain ⟨⟨c1, k1⟩, h1, h⟩ := Option.bind_eq_some_iff.1 h
      obtain ⟨⟨c2, k2⟩, h2, h⟩ := Option.map_eq_some_iff.1 h
      simp only [Prod.mk.injEq] at h
      obtain ⟨rfl, rfl⟩ := h
      obtain ⟨vs, i1, i2⟩ := resOf_ok htt hI hS hU hK h2 (fun k mk => hks k (by simp [mk]))
      obtain ⟨cv, l1, l2, _⟩ := load_ok (P := P) (U := U) htt hI hU hsl (hS t)
      have hl : (do loadVar ty (← asAddr (a.tmps.getD t undef)) : Sem Value).run P w = .ok cv w := by
        have : ∃ b, a.tmps.getD t undef = .pointer (some b) := by
          have hs := hS t
          cases hsl' : st.sl t with
          | bp k off => rw [hsl'] at hs; obtain ⟨b, _, hv⟩ := hs; exact ⟨_, hv⟩
          | rp k m i off => rw [hsl'] at hs; obtain ⟨b, _, _, _, hv⟩ := hs; exact ⟨_, hv⟩
          | ep e off => rw [hsl'] at hs; obtain ⟨b, _, _, _, hv, _⟩ := hs; exact ⟨_, hv⟩
          | _ => rw [hsl'] at hsl; simp [loadV] at hsl
        obtain ⟨b, hb⟩ := this
        rw [hb] at l1 ⊢
        simpa [Instr.loadAt, Instr.sureAddr, asAddr] using l1
      refine ⟨cv :: vs, ?_, _, vs, g.F k1, g.F k2, rfl, by simp [Gh.F], resPV_ok hI hK h1 (fun k mk => hks k (by simp [mk])) l2, i2⟩
      have hl' : (resRun a.tmps (.cell t ty)).run P w = .ok cv w := hl
      simp only [List.mapM_cons, Sem.run_bind, hl', i1, Sem.run_pure, Result.andThen_ok]
    · simp at h
theorem ks_row : ∀ {xs : List AV} {cts : List (Bool × CT)} {ks : List Nat}, resAVs st xs = some (cts, ks) → ∀ k ∈ ks, ∃ e m xs, st.ob k = .row e m xs 2
  | [], _, _, h, k, mk => by
    simp only [resAVs, Option.some.injEq, Prod.mk.injEq] at h
    rw [← h.2] at mk; simp at mk
  | x :: r, cts, ks, h, k, mk => by
    simp only [resAVs] at h
    obtain ⟨⟨c1, k1⟩, h1, h⟩ := Option.bind_eq_some_iff.1 h
    obtain ⟨⟨c2, k2⟩, h2, h⟩ := Option.map_eq_some_iff.1 h
    simp only [Prod.mk.injEq] at h
    obtain ⟨rfl, rfl⟩ := h
    rcases List.mem_append.1 mk with mk | mk
    · cases x with
      | c y => cases y <;> simp only [resAV, Option.some.injEq, Prod.mk.injEq] at h1 <;> (rw [← h1.2] at mk; simp at mk)
      | row j =>
        simp only [resAV] at h1
        split at h1
        · rename_i e m xs d hk
          split at h1
          · rename_i hd
            simp only [Option.some.injEq, Prod.mk.injEq] at h1
            rw [← h1.2] at mk
            simp at mk
            subst mk
            exact ⟨e, m, xs, by rw [hk, hd]⟩
          · simp only [Option.some.injEq, Prod.mk.injEq] at h1
            rw [← h1.2] at mk; simp at mk
        · simp at h1
      | nil e m =>
        simp only [resAV] at h1
        split at h1
        · simp only [Option.some.injEq, Prod.mk.injEq] at h1
          rw [← h1.2] at mk; simp at mk
        · simp at h1
      | dead => simp [resAV] at h1
    · exact ks_row h2 k mk
theorem ks_rows : ∀ {rs : List ResultVar} {res : List RT} {ks : List Nat}, resOf tt st rs = some (res, ks) → ∀ k ∈ ks, ∃ e m xs, st.ob k = .row e m xs 2
  | [], _, _, h, k, mk => by
    simp only [resOf, Option.some.injEq, Prod.mk.injEq] at h
    rw [← h.2] at mk; simp at mk
  | .tmp t :: r, res, ks, h, k, mk => by
    simp only [resOf] at h
    split at h
    · obtain ⟨⟨c1, k1⟩, h1, h⟩ := Option.bind_eq_some_iff.1 h
      obtain ⟨⟨c2, k2⟩, h2, h⟩ := Option.map_eq_some_iff.1 h
      simp only [Prod.mk.injEq] at h
      obtain ⟨rfl, rfl⟩ := h
      rcases List.mem_append.1 mk with mk | mk
      · exact ks_row h1 k mk
      · exact ks_rows h2 k mk
    · simp at h
  | .cell t ty :: r, res, ks, h, k, mk => by
    simp only [resOf] at h
    split at h
    · obtain ⟨⟨c1, k1⟩, h1, h⟩ := Option.bind_eq_some_iff.1 h
      obtain ⟨⟨c2, k2⟩, h2, h⟩ := Option.map_eq_some_iff.1 h
      simp only [Prod.mk.injEq] at h
      obtain ⟨rfl, rfl⟩ := h
      rcases List.mem_append.1 mk with mk | mk
      · exact ks_row h1 k mk
      · exact ks_rows h2 k mk
    · simp at h
theorem arg_SVR {z : Nat → Prop} {x : Bool × List CT} {v : Value} (hg : ∀ b, g.own b → z b) (h : ArgR w z x v) : SVR g w (.p x.1 (x.2.map .c)) v := by
  rcases h with ⟨h1, vs, L, rfl, h2, h4⟩ | ⟨h1, ct, L, h2, h3, h4⟩
  · rw [h1]; exact ⟨vs, rfl, h2.avr fun b mb hb => h4 b mb (hg b hb)⟩
  · rw [h1, h2]; exact ⟨_, rfl, L, h3, fun b mb hb => h4 b mb (hg b hb)⟩
/-- the results of a call whose code has run to its end -/
theorem ret_ok (htt : ∀ t i, tt t = some i → TOk P t i) {fn : Func} {res : List RT} (hI : Inv W U st a w) (hH : HI W g st.ob w) (hS : ∀ t, SVR g w (st.sl t) (a.tmps.getD t undef)) {r : List RT} {ks : List Nat} (hx : resOf tt st fn.results.toList = some (r, ks)) (hnd : ks.Nodup) (hw : wkR r res)
    (hB : ∀ k ∈ ks, ∀ b ∈ g.O k ++ g.D k, W.heap.size ≤ b) (K0 : Nat → Prop) (hK0 : ∀ k, K0 k → ∀ e m xs d, st.ob k = .row e m xs d → d = 2) :
    ∃ v m, (results fn a.tmps).run P w = .ok v w ∧ ResR w W.heap.size m res v ∧ (∀ b, m b → g.own b) ∧ (∀ b, m b → g.Z b ∨ (∃ k, (k ∈ ks ∨ K0 k) ∧ b ∈ g.O k)) ∧ ∀ b, b ∉ g.F ks → (g.Z b ∨ ∃ k, K0 k ∧ b ∈ g.O k) → m b := by
  obtain ⟨us, r1, r2⟩ := resOf_ok (K := fun k => k ∈ ks ∨ K0 k) htt hH hS hI.wf (fun k hk e m xs d he => by
    rcases hk with hk | hk
    · obtain ⟨e', m', xs', h'⟩ := ks_rows hx k hk
      rw [he] at h'
      simp only [Ob.row.injEq] at h'
      exact h'.2.2.2
    · exact hK0 k hk e m xs d he) hx (fun k mk => ⟨.inl mk, hB k mk⟩)
  have hndF := hH.nodupF hnd
  obtain ⟨F', s, hF⟩ := wkR_ok r2 hw hndF
  have hge : ∀ b ∈ g.F ks, W.heap.size ≤ b := fun b mb => by
    obtain ⟨k, hk, mk⟩ := mem_F mb
    exact hB k hk b mk
  refine ⟨(if h : us.toArray.size = 1 then us.toArray[0] else .tuple us.toArray), fun b => nK g (fun k => k ∈ ks ∨ K0 k) b ∧ (b ∈ g.F ks → b ∈ F'), ?_, ⟨us, F', hF _ (fun b mb hb => ⟨hb, fun _ => mb⟩) (fun b hb => hb.1) (fun b mb hb => hb.2 mb), ⟨hndF.sublist s, fun b mb => hge b (s.subset mb), fun b mb => ?_⟩, rfl⟩, fun b hb => ?_, fun b hb => hb.1, fun b hb hn => ⟨?_, fun mb => absurd mb hb⟩⟩
  · rw [results_eq]
    have e : fn.results.mapM (resRun a.tmps) = List.toArray <$> fn.results.toList.mapM (resRun a.tmps) := by
      rw [← List.mapM_toArray]
    have e2 : (List.toArray <$> fn.results.toList.mapM (resRun a.tmps)).run P w = .ok us.toArray w := by
      rw [map_eq_pure_bind]
      simp only [Sem.run_bind, r1, Result.andThen_ok, Sem.run_pure]
    rw [e]
    simp only [Sem.run_bind, e2, Result.andThen_ok, Sem.run_pure]
  · obtain ⟨k, _, mk⟩ := mem_F (s.subset mb)
    exact (hH.plain k b mk).2
  · rcases hb.1 with hz | ⟨k, _, mk⟩
    · exact .inr hz
    · exact .inl ⟨k, mk⟩
  · rcases hn with hz | ⟨k, hk, mk⟩
    · exact .inl hz
    · exact .inr ⟨k, .inr hk, mk⟩
/-- how the world's premise bears the changes of a call -/
structure JOk (J : World → Prop) (JF : Nat → Prop) : Prop where
  below : ∀ (x : Nat → Prop) (w w' : World), J w → (∀ b, x b → JF b) → w'.os = w.os → w'.tape = w.tape → w'.output = w.output → w.heap.size ≤ w'.heap.size → (∀ k, k < w.heap.size → ¬ x k → w'.heap[k]? = w.heap[k]?) → J w'
  new : ∀ (w : World) b, J w → w.heap.size ≤ b → JF b
theorem slot_arg {args : List (Bool × List CT)} {vs : List Value} {N t o : Nat} (h : vs.length ≤ N) (v : Value) (hv : vs[t]? = some v) : (vs.toArray ++ Array.replicate (N - vs.toArray.size) undef).getD t undef = v := by
  have hl : t < vs.length := (List.getElem?_eq_some_iff.1 hv).1
  simp only [Array.getD_eq_getD_getElem?, Array.getElem?_append, List.size_toArray, hl, if_true, List.getElem?_toArray, hv, Option.getD_some]
theorem slot_und {vs : List Value} {N t : Nat} (ht : vs.length ≤ t) : (vs.toArray ++ Array.replicate (N - vs.toArray.size) undef).getD t undef = undef := by
  simp only [Array.getD_eq_getD_getElem?, Array.getElem?_append, List.size_toArray, show ¬ t < vs.length by omega, if_false, Array.getElem?_replicate]
  split <;> rfl
theorem fn_sound (htt : ∀ t i, tt t = some i → TOk P t i) (hJ : JOk J JF) (hmix : P.follows .mixedOrders = true) {hds : FuncId → Nat} {f : FuncId} {fn : Func} {c : Code} {args : List (Bool × List CT)} {res : List RT} (hf : P.funcs[f]? = some fn) (hname : (fn.name == "runtime.NumGoroutine") = false) (hb : fn.body = some c)
    (hok : codeOk tt hds false fn.ntmps c = true) (hlen : Nat.ble args.length fn.ntmps = true) (h : fnS tt (SC P J JF hds) fn.results.toList c args res) : Sound P J f args res := by
  refine ⟨⟨fn, hf, hname, by rw [hb]; rfl⟩, fun w z vs hj hz hargs => ?_⟩
  have hlen' : args.length ≤ fn.ntmps := Nat.le_of_ble_eq_true hlen
  have hvl := hargs.len
  refine calls_of_wp hf hb ?_
  let W : Base := { w with z := z, x := fun _ => False, hv := none }
  let g0 : Gh := ⟨fun _ => undef, fun _ => [], fun _ => [], z⟩
  have hg0 : ∀ b, g0.own b → z b := fun b hb => by
    rcases hb with ⟨k, m⟩ | h
    · simp [g0] at m
    · exact h
  have hI0 : Inv W (fun _ => False) (argSt args) { tmps := vs.toArray ++ Array.replicate (fn.ntmps - vs.toArray.size) undef, defers := [] } w := by
    refine ⟨⟨g0, ⟨⟨rfl, rfl, rfl, Nat.le_refl _, fun _ _ _ => rfl⟩, fun k => ⟨rfl, rfl⟩, fun k => by simp [g0], fun k j _ b m => by simp [g0] at m, fun k b m => by simp [g0] at m, rfl, fun b hb => ⟨hz b hb, fun h => h⟩⟩, fun t => ?_⟩, ⟨fun t => ?_, fun k => trivial, fun k _ => rfl⟩, rfl, fun v hv => by simp [W] at hv⟩
    · show SVR g0 w (match args[t]? with | some x => .p x.1 (x.2.map .c) | none => .und) _
      cases ht : args[t]? with
      | none => exact slot_und (by have : args.length ≤ t := by simpa using ht
                                   omega)
      | some x =>
        obtain ⟨v, hv, hr⟩ := hargs.at ht
        show SVR g0 w (.p x.1 (x.2.map .c)) ((vs.toArray ++ Array.replicate (fn.ntmps - vs.toArray.size) undef).getD t undef)
        rw [slot_arg (args := args) (o := 0) (by omega) v hv]
        exact arg_SVR hg0 hr
    · show svU _ (match args[t]? with | some x => .p x.1 (x.2.map .c) | none => .und)
      split
      · exact svU_cs true _
      · trivial
  have hM : MOk P J JF W tt := ⟨htt, fun w' hb => hJ.below (fun _ => False) w w' hj (fun _ h => h.elim) hb.os hb.tape hb.output hb.size (fun k hk hx => hb.block k hk hx), fun b hb => hJ.new w b hj hb, fun b h => h.elim⟩
  refine swp_sound (W := W) hM hmix (.inl rfl) c hok (retK tt fn.results.toList fun _ r _ => wkR r res) _ ?_ _ (argSt args) _ w hI0 (fun _ _ h => h) (by simp; omega) h
  intro ex U' st' a' w' hI' _ _ hK
  have fin : (match resOf tt st' fn.results.toList with | some x => x.2.Nodup ∧ wkR x.1 res | none => False) → a'.defers = [] ∧ ∃ v, (results fn a'.tmps).run P w' = .ok v w' ∧ ∃ u n, Ending.returned v = .returned u ∧ ResR w' w.heap.size n res u ∧ (∀ b, z b → n b) ∧ Below w.heap.size w w' := fun hK => by
    split at hK
    · rename_i x hx
      obtain ⟨r, ks⟩ := x
      obtain ⟨hnd, hw⟩ := hK
      obtain ⟨g, hH, hS⟩ := hI'.ex
      have hBg : ∀ k ∈ ks, ∀ b ∈ g.O k ++ g.D k, W.heap.size ≤ b := fun k _ b mb => (hH.plain k b mb).1.resolve_right fun h => h
      obtain ⟨v, m, e1, e2, _, _, e4⟩ := ret_ok htt hI' hH hS hx hnd hw hBg (fun _ => False) (fun _ h => h.elim)
      have hbel := hH.below
      exact ⟨hI'.defers, v, e1, v, m, rfl, e2, fun b hb => e4 b (fun mb => by obtain ⟨k, hk, mk⟩ := mem_F mb; have := hBg k hk b mk; have := hz b hb; have e : W.heap.size = w.heap.size := rfl; omega) (.inl (by rw [hH.gz]; exact hb)), hbel.os, hbel.tape, hbel.output, hbel.size, fun k hk => hbel.block k hk fun h => h⟩
    · exact hK.elim
  cases ex with
  | normal => exact fin hK
  | exit id => exact hK.elim
  | ret => exact fin hK
theorem fn_soundH (htt : ∀ t i, tt t = some i → TOk P t i) (hJ : JOk J JF) (hmix : P.follows .mixedOrders = true) {hds : FuncId → Nat} {f : FuncId} {fn : Func} {c : Code} {h h' : Hand} {args : List (Bool × List CT)} {res : List RT} (hf : P.funcs[f]? = some fn) (hname : (fn.name == "runtime.NumGoroutine") = false) (hb : fn.body = some c)
    (hok : codeOk tt hds true fn.ntmps c = true) (hlen : Nat.blt args.length fn.ntmps = true) (hh : fnH tt (SC P J JF hds) fn.results.toList c h args res h') : SoundH P J JF f h args res h' := by
  refine ⟨⟨fn, hf, hname, by rw [hb]; rfl⟩, fun w z q v0 vs hj hqf hz hhand hargs => ?_⟩
  have hlen' : args.length < fn.ntmps := Nat.le_of_ble_eq_true hlen
  have hvl := hargs.len
  refine calls_of_wp hf hb ?_
  let W : Base := { w with z := z, x := fun b => q = some b, hv := some v0 }
  let g0 : Gh := ⟨fun k => if k = 0 then v0 else undef, fun k => if k = 0 then q.toList else [], fun _ => [], z⟩
  have hg0 : ∀ b, g0.own b → inQ z q b := fun b hb => by
    rcases hb with ⟨k, m⟩ | h
    · simp only [g0] at m
      split at m
      · exact .inr (by simpa using m)
      · simp at m
    · exact .inl h
  have hqlt : ∀ b, q = some b → ∃ cur e, w.heap[b]? = some (.cells cur e (0, 0)) := fun b hb => by
    cases h with
    | row e m xs =>
      obtain ⟨_, _, h3, cs, h4, _⟩ := hhand
      rcases h4.2 with ⟨h0, _⟩ | ⟨gg, cap, cur, hv, _, hcc, _⟩
      · rw [h0] at h3; simp [Value.ownBlock] at h3; rw [← h3] at hb; simp at hb
      · rw [hv] at h3; simp only [Value.ownBlock] at h3; rw [hb] at h3; simp at h3; subst h3; exact ⟨_, _, hcc⟩
    | box t cs =>
      obtain ⟨b', vs, L, h1, h2, h3, _⟩ := hhand
      rw [hb] at h1; simp at h1; subst h1
      exact ⟨_, _, h3⟩
  have hob0 : ObR g0 w 0 (handOb h) := by
    cases h with
    | row e m xs =>
      obtain ⟨h1, h2, h3, cs, h4, h5⟩ := hhand
      exact ⟨h2, cs, [], by simpa [g0] using h4, h5, .inl ⟨rfl, by simp [g0, h3], by simp [g0]⟩⟩
    | box t cs =>
      obtain ⟨b, vs, L, h1, h2, h3, h4, h5⟩ := hhand
      exact ⟨b, vs, by simpa [g0] using h2, by simp [g0, h1], by simp [g0], h3, h4.avr fun x mx hx => h5 x mx (hg0 x hx)⟩
  have hsv0 : SVR g0 w (handSV h) v0 := by
    cases h with
    | row e m xs =>
      obtain ⟨h1, h2, h3, cs, h4, h5⟩ := hhand
      obtain ⟨A, cap, hv⟩ := own_val h4
      exact ⟨_, rfl, by simp [g0], by simp [hv, Value.oneCell']⟩
    | box t cs =>
      obtain ⟨b, vs, L, h1, h2, h3, h4, h5⟩ := hhand
      exact ⟨b, by simpa [g0] using h2, h2⟩
  have hI0 : Inv W (fun k => k = 0) (handSt h args) { tmps := (v0 :: vs).toArray ++ Array.replicate (fn.ntmps - (v0 :: vs).toArray.size) undef, defers := [] } w := by
    refine ⟨⟨g0, ⟨⟨rfl, rfl, rfl, Nat.le_refl _, fun _ _ _ => rfl⟩, fun k => ?_, fun k => ?_, fun k j hkj b m => ?_, fun k b m => ?_, rfl, fun b hb => ⟨(hz b hb).1, (hz b hb).2⟩⟩, fun t => ?_⟩, ⟨fun t => ?_, fun k => ?_, fun k hk => by simp [handSt, hk]⟩, rfl, fun v hv => ?_⟩
    · show ObR g0 w k (if k = 0 then handOb h else .gone)
      by_cases hk : k = 0
      · subst hk; exact hob0
      · rw [if_neg hk]; exact ⟨by simp [g0, hk], rfl⟩
    · by_cases hk : k = 0
      · subst hk; cases q <;> simp [g0]
      · simp [g0, hk]
    · by_cases hk : k = 0
      · have : ¬ j = 0 := fun e => hkj (by omega)
        simp [g0, this]
      · simp [g0, hk] at m
    · by_cases hk : k = 0
      · subst hk
        have hb : q = some b := by simpa [g0] using m
        exact ⟨.inr hb, hqlt b hb⟩
      · simp [g0, hk] at m
    · show SVR g0 w (match t with | 0 => handSV h | t + 1 => (match args[t]? with | some x => .p x.1 (x.2.map .c) | none => .und)) _
      cases t with
      | zero =>
        show SVR g0 w (handSV h) (((v0 :: vs).toArray ++ Array.replicate (fn.ntmps - (v0 :: vs).toArray.size) undef).getD 0 undef)
        rw [slot_arg (args := args) (o := 0) (by simp; omega) v0 rfl]
        exact hsv0
      | succ t =>
        show SVR g0 w (match args[t]? with | some x => .p x.1 (x.2.map .c) | none => .und) _
        cases ht : args[t]? with
        | none => exact slot_und (by have : args.length ≤ t := by simpa using ht
                                     simp; omega)
        | some x =>
          obtain ⟨v, hv, hr⟩ := hargs.at ht
          show SVR g0 w (.p x.1 (x.2.map .c)) (((v0 :: vs).toArray ++ Array.replicate (fn.ntmps - (v0 :: vs).toArray.size) undef).getD (t + 1) undef)
          rw [slot_arg (args := args) (o := 0) (by simp; omega) v (by simpa using hv)]
          exact arg_SVR hg0 hr
    · show svU _ (match t with | 0 => handSV h | t + 1 => (match args[t]? with | some x => .p x.1 (x.2.map .c) | none => .und))
      cases t with
      | zero => cases h with
        | row e m xs => intro y my; simp at my; subst my; rfl
        | box t cs => rfl
      | succ t =>
        show svU _ (match args[t]? with | some x => .p x.1 (x.2.map .c) | none => .und)
        split
        · exact svU_cs true _
        · trivial
    · show obU _ (if k = 0 then handOb h else .gone)
      by_cases hk : k = 0
      · rw [if_pos hk]
        cases h with
        | row e m xs => trivial
        | box t cs => exact svU_cs true _
      · rw [if_neg hk]; trivial
    · have : v0 = v := by simpa [W] using hv
      subst this
      exact slot_arg (args := args) (o := 0) (by simp; omega) v0 rfl
  have hM : MOk P J JF W tt := ⟨htt, fun w' hb => hJ.below (fun b => q = some b) w w' hj hqf hb.os hb.tape hb.output hb.size (fun k hk hx => hb.block k hk hx), fun b hb => hJ.new w b hj hb, hqf⟩
  refine swp_sound (W := W) hM hmix (.inr rfl) c hok (retK tt fn.results.toList fun st r ks => wkR r res ∧ handBack st ks h') _ ?_ _ (handSt h args) _ w hI0 (fun k hk h0 => by simp [handSt] at hk; omega) (by simp; omega) hh
  intro ex U' st' a' w' hI' _ _ hK
  have fin : (match resOf tt st' fn.results.toList with | some x => x.2.Nodup ∧ wkR x.1 res ∧ handBack st' x.2 h' | none => False) → a'.defers = [] ∧ ∃ v, (results fn a'.tmps).run P w' = .ok v w' ∧ ∃ u n, Ending.returned v = .returned u ∧ ResR w' w.heap.size n res u ∧ (∀ b, inQ z q b → n b) ∧ HandR w' n q h' v0 ∧ BelQ q w w' := fun hK => by
    split at hK
    · rename_i x hx
      obtain ⟨r, ks⟩ := x
      obtain ⟨hnd, hw, hbk⟩ := hK
      obtain ⟨g, hH, hS⟩ := hI'.ex
      have hv0 : a'.tmps.getD 0 undef = v0 := hI'.hand v0 rfl
      have hS0 := hS 0
      rw [hv0] at hS0
      -- the key of what was handed in
      have hkey : ∃ k, g.val k = v0 ∧ g.O k = q.toList ∧ g.D k = [] ∧ k ∉ ks ∧ (∀ e m xs d, st'.ob k = .row e m xs d → d = 2) ∧ ∀ n : Nat → Prop, (∀ b, n b → g.own b) → HandR w' n q h' v0 := by
        cases h' with
        | row e m xs =>
          obtain ⟨k, hk1, hk2, hk3, hk4⟩ := hbk
          rw [hk1] at hS0
          obtain ⟨x, hx1, hx2⟩ := hS0
          simp only [List.cons.injEq, and_true] at hx1
          subst hx1
          have hob := hH.obs k
          rw [hk2] at hob
          obtain ⟨hm, cs, L, o1, o2, o3⟩ := hob
          obtain rfl := REs_flat o2 hk3
          rcases o3 with ⟨_, q1, q2⟩ | ⟨q1, _⟩ | ⟨q1, _⟩
          · have hq : v0.ownBlock = q := by
              cases h with
              | row e1 m1 xs1 => exact hhand.2.2.1
              | box t1 cs1 =>
                obtain ⟨b, vs, L, h1, h2, _⟩ := hhand
                obtain ⟨A, cap, hv⟩ := own_val o1
                rw [← hx2.1, h2] at hv
                simp at hv
            exact ⟨k, hx2.1.symm, by rw [q1, ← hx2.1, hq], q2, hk4, fun e' m' xs' d' h => by rw [hk2] at h; simp only [Ob.row.injEq] at h; exact h.2.2.2.symm, fun n _ => ⟨hk3, hm, hq, cs, by rw [hx2.1]; exact o1, o2⟩⟩
          · omega
          · omega
        | box t cs =>
          obtain ⟨k, ds, hk1, hk2, hk3, hk4⟩ := hbk
          rw [hk1] at hS0
          obtain ⟨b, hb1, hb2⟩ := hS0
          have hob := hH.obs k
          rw [hk2] at hob
          obtain ⟨b', vs', o1, o2, o3, o4, o5⟩ := hob
          have hbb : b' = b := by rw [hb1] at o1; simpa using o1.symm
          subst hbb
          have hq : q = some b' := by
            cases h with
            | row e1 m1 xs1 =>
              obtain ⟨_, _, _, cs1, h4, _⟩ := hhand
              obtain ⟨A, cap, hv⟩ := own_val h4
              rw [hv] at hb2
              simp at hb2
            | box t1 cs1 =>
              obtain ⟨b2, vs2, L2, h1, h2, _⟩ := hhand
              rw [h2] at hb2
              simp at hb2
              rw [h1, hb2]
          obtain ⟨L, hL, hL2⟩ := avArgs_ok hH hk4 o5
          refine ⟨k, by rw [o1, hb2], by rw [o2, hq]; rfl, o3, fun mk => ?_, fun e' m' xs' d' h => by rw [hk2] at h; simp at h, fun n hn => ⟨b', vs', L, hq, hb2, o4, hL, fun x mx hx => hL2 (fun y my => ?_) x mx (hn x hx)⟩⟩
          · obtain ⟨e', m', xs', h'⟩ := ks_rows hx k mk
            rw [hk2] at h'
            simp at h'
          · have := List.all_eq_true.1 hk3 y my
            cases y <;> simp [avNoRow] at this <;> trivial
      obtain ⟨k0, c1, c2, c3, c4, c5, c6⟩ := hkey
      have hBg : ∀ k ∈ ks, ∀ b ∈ g.O k ++ g.D k, W.heap.size ≤ b := fun k hk b mb => (hH.plain k b mb).1.resolve_right fun h => hH.apart k k0 (fun e => c4 (e ▸ hk)) b mb (by rw [c2]; simp; exact .inl h)
      obtain ⟨v, m, e1, e2, e3, _, e4⟩ := ret_ok htt hI' hH hS hx hnd hw hBg (fun k => k = k0) (fun k hk => hk ▸ c5)
      have hbel := hH.below
      refine ⟨hI'.defers, v, e1, v, m, rfl, e2, fun b hb => ?_, c6 m e3, hbel.os, hbel.tape, hbel.output, hbel.size, fun k hk hq => hbel.block k hk hq⟩
      refine e4 b (fun mb => ?_) ?_
      · obtain ⟨k, hk, mk⟩ := mem_F mb
        have hge := hBg k hk b mk
        have e : W.heap.size = w.heap.size := rfl
        rcases hb with hb | hb
        · have := (hz b hb).1; omega
        · obtain ⟨cur, e', hc⟩ := hqlt b hb
          have := (Array.getElem?_eq_some_iff.1 hc).1
          omega
      · rcases hb with hb | hb
        · exact .inl (by rw [hH.gz]; exact hb)
        · exact .inr ⟨k0, rfl, by rw [c2, hb]; simp⟩
    · exact hK.elim
  cases ex with
  | normal => exact fin hK
  | exit id => exact hK.elim
  | ret => exact fin hK
end
end Go.Proofs.Ytgempkloppgnmaa

namespace Go.Proofs.Ytgempkloppgnmaa
open Go.RowKit
def all2B {α β : Type} (f : α → β → Bool) : List α → List β → Bool
  | [], [] => true
  | a :: l, b :: r => f a b && all2B f l r
  | _, _ => false
theorem all2B_ok {α β : Type} {f : α → β → Bool} {R : α → β → Prop} (h : ∀ a b, f a b = true → R a b) : ∀ {l : List α} {r : List β}, all2B f l r = true → All2 R l r
  | [], [], _ => trivial
  | a :: l, b :: r, hh => by
    simp only [all2B, Bool.and_eq_true] at hh
    exact ⟨h a b hh.1, all2B_ok h hh.2⟩
  | [], _ :: _, hh => by simp [all2B] at hh
  | _ :: _, [], hh => by simp [all2B] at hh
def fieldB (P : Program) (fi : FI) (f : Field) : Bool :=
  f.offset == fi.off && !(fi.size == 0) && match P.info? f.type, P.underlying f.type with
    | some j, some d => j.size == fi.size && (aggD d == fi.agg)
    | _, _ => false
def nilB : Value → Bool
  | .slice none 0 0 => true
  | _ => false
def tOk (P : Program) (t : TypeId) (ti : TI) : Bool :=
  match P.underlying t, P.info? t with
  | some d, some i => match ti with
    | .atom z => kindB d z && i.size == 1 && match i.zero with | some zv => constB z zv | none => false
    | .strct fs n z => match d with
      | .struct fields => i.size == n && (match i.zero with | some (.agg zvs) => all2B constB z zvs.toList | _ => false) && all2B (fieldB P) fs fields.toList
      | _ => false
    | .slice e m bytes z => match d with
      | .slice e' => e == e' && Nat.blt 0 m && Nat.ble bytes 131072 && (match P.info? e with
          | some ie => ie.size == m && ie.bytes == bytes && (match ie.zero with | some zv => all2B constB z zv.cells.toList | none => false)
          | none => false) && z.length == m && i.size == 1 && (match i.zero with | some zv => nilB zv | none => false)
      | _ => false
  | _, _ => false
theorem nilB_ok {v : Value} (h : nilB v = true) : v = .slice none 0 0 := by
  unfold nilB at h
  split at h
  · rfl
  · simp at h
theorem tOk_ok {P : Program} {t : TypeId} {ti : TI} (h : tOk P t ti = true) : TOk P t ti := by
  unfold tOk at h
  split at h
  · rename_i d i hd hi
    cases ti with
    | atom z =>
      simp only [Bool.and_eq_true, beq_iff_eq] at h
      obtain ⟨⟨h1, h2⟩, h3⟩ := h
      split at h3
      · rename_i zv hz; exact ⟨d, zv, i, hd, h1, hi, hz, h2, h3⟩
      · simp at h3
    | strct fs n z =>
      simp only at h
      split at h
      · rename_i fields
        simp only [Bool.and_eq_true, beq_iff_eq] at h
        obtain ⟨⟨h1, h2⟩, h3⟩ := h
        split at h2
        · rename_i zvs hz
          refine ⟨fields, i, zvs, hd, hi, h1, hz, all2B_ok (fun _ _ h => h) h2, all2B_ok (fun fi f hf => ?_) h3⟩
          unfold fieldB at hf
          simp only [Bool.and_eq_true, beq_iff_eq, Bool.not_eq_true', beq_eq_false_iff_ne] at hf
          obtain ⟨⟨f1, f2⟩, f3⟩ := hf
          split at f3
          · rename_i j d' hj hd'
            simp only [Bool.and_eq_true, beq_iff_eq] at f3
            exact ⟨f1, f2, j, d', hj, f3.1, hd', f3.2⟩
          · simp at f3
        · simp at h2
      · simp at h
    | slice e m bytes z =>
      simp only at h
      split at h
      · rename_i e'
        simp only [Bool.and_eq_true, beq_iff_eq] at h
        obtain ⟨⟨⟨⟨⟨⟨h1, h2⟩, h3⟩, h4⟩, h5⟩, h6⟩, h7⟩ := h
        subst h1
        split at h4
        · rename_i ie hie
          simp only [Bool.and_eq_true, beq_iff_eq] at h4
          obtain ⟨⟨k1, k2⟩, k3⟩ := h4
          split at k3
          · rename_i zv hz
            split at h7
            · rename_i zv' hz'
              exact ⟨hd, Nat.le_of_ble_eq_true h2, Nat.le_of_ble_eq_true h3, ⟨ie, zv, hie, k1, k2, hz, all2B_ok (fun _ _ h => h) k3, h5⟩, i, hi, h6, by rw [hz', nilB_ok h7]⟩
            · simp at h7
          · simp at k3
        · simp at h4
      · simp at h
  · simp at h
def look : List (Nat × TI) → Nat → Option TI
  | [], _ => none
  | p :: r, t => if p.1 = t then some p.2 else look r t
theorem tts_ok {P : Program} : ∀ (l : List (Nat × TI)), (l.all fun p => tOk P p.1 p.2) = true → ∀ t i, look l t = some i → TOk P t i
  | [], _, t, i, h => by simp [look] at h
  | p :: r, ha, t, i, h => by
    simp only [List.all_cons, Bool.and_eq_true] at ha
    simp only [look] at h
    split at h
    · rename_i e
      simp only [Option.some.injEq] at h
      subst h e
      exact tOk_ok ha.1
    · exact tts_ok r ha.2 t i h
end Go.Proofs.Ytgempkloppgnmaa

namespace Go.Proofs.Ytgempkloppgnmaa
open Go.RowKit
def ttL : List (Nat × TI) := [
  (2, .atom (.c (.int .i64 0))),
  (3, .atom (.c (.int .i64 0))),
  (4, .atom (.c (.bool false))),
  (5, .atom (.c (.int .u8 0))),
  (9, .atom (.c (.str ⟨#[]⟩))),
  (12, .atom (.c (.int .u64 0))),
  (14, .strct [⟨0, 1, false⟩, ⟨1, 1, false⟩] 2 [.c (.str ⟨#[]⟩), .c (.int .u64 0)]),
  (21, .atom (.c (.int .i32 0))),
  (22, .slice 88 4 80 [.c (.str ⟨#[]⟩), .nil 9 1, .c (.str ⟨#[]⟩), .nil 3 1]),
  (24, .slice 9 1 16 [.c (.str ⟨#[]⟩)]),
  (26, .slice 91 4 80 [.c (.str ⟨#[]⟩), .nil 9 1, .c (.str ⟨#[]⟩), .nil 3 1]),
  (33, .slice 70 4 72 [.c (.str ⟨#[]⟩), .c (.int .i64 0), .nil 116 5, .nil 166 3]),
  (36, .slice 75 4 72 [.c (.str ⟨#[]⟩), .c (.int .i64 0), .nil 120 5, .nil 128 3]),
  (40, .slice 173 3 56 [.c (.int .i64 0), .nil 3 1, .nil 3 1]),
  (42, .strct [⟨0, 1, false⟩, ⟨1, 1, false⟩] 2 [.c (.int .i64 0), .nil 173 3]),
  (43, .slice 3 1 8 [.c (.int .i64 0)]),
  (45, .strct [⟨0, 2, true⟩, ⟨2, 1, false⟩, ⟨3, 1, false⟩] 4 [.c (.int .i64 0), .nil 173 3, .nil 3 1, .nil 3 1]),
  (48, .slice 147 3 56 [.c (.int .i64 0), .nil 3 1, .nil 3 1]),
  (50, .strct [⟨0, 1, false⟩, ⟨1, 1, false⟩] 2 [.c (.int .i64 0), .nil 147 3]),
  (52, .strct [⟨0, 2, true⟩, ⟨2, 1, false⟩, ⟨3, 1, false⟩] 4 [.c (.int .i64 0), .nil 147 3, .nil 3 1, .nil 3 1]),
  (59, .slice 116 5 80 [.c (.int .i64 0), .c (.str ⟨#[]⟩), .nil 9 1, .c (.str ⟨#[]⟩), .c (.str ⟨#[]⟩)]),
  (62, .slice 120 5 80 [.c (.int .i64 0), .c (.str ⟨#[]⟩), .nil 9 1, .c (.str ⟨#[]⟩), .c (.str ⟨#[]⟩)]),
  (68, .slice 166 3 48 [.c (.int .i64 0), .c (.str ⟨#[]⟩), .nil 9 1]),
  (70, .strct [⟨0, 1, false⟩, ⟨1, 1, false⟩, ⟨2, 1, false⟩, ⟨3, 1, false⟩] 4 [.c (.str ⟨#[]⟩), .c (.int .i64 0), .nil 116 5, .nil 166 3]),
  (73, .slice 128 3 48 [.c (.int .i64 0), .c (.str ⟨#[]⟩), .nil 9 1]),
  (75, .strct [⟨0, 1, false⟩, ⟨1, 1, false⟩, ⟨2, 1, false⟩, ⟨3, 1, false⟩] 4 [.c (.str ⟨#[]⟩), .c (.int .i64 0), .nil 120 5, .nil 128 3]),
  (86, .strct [⟨0, 1, false⟩, ⟨1, 1, false⟩] 2 [.c (.str ⟨#[]⟩), .nil 9 1]),
  (88, .strct [⟨0, 2, true⟩, ⟨2, 1, false⟩, ⟨3, 1, false⟩] 4 [.c (.str ⟨#[]⟩), .nil 9 1, .c (.str ⟨#[]⟩), .nil 3 1]),
  (89, .strct [⟨0, 1, false⟩, ⟨1, 1, false⟩] 2 [.c (.str ⟨#[]⟩), .nil 9 1]),
  (91, .strct [⟨0, 2, true⟩, ⟨2, 1, false⟩, ⟨3, 1, false⟩] 4 [.c (.str ⟨#[]⟩), .nil 9 1, .c (.str ⟨#[]⟩), .nil 3 1]),
  (108, .slice 4 1 1 [.c (.bool false)]),
  (114, .strct [⟨0, 1, false⟩, ⟨1, 1, false⟩] 2 [.c (.str ⟨#[]⟩), .nil 9 1]),
  (116, .strct [⟨0, 1, false⟩, ⟨1, 2, true⟩, ⟨3, 1, false⟩, ⟨4, 1, false⟩] 5 [.c (.int .i64 0), .c (.str ⟨#[]⟩), .nil 9 1, .c (.str ⟨#[]⟩), .c (.str ⟨#[]⟩)]),
  (118, .strct [⟨0, 1, false⟩, ⟨1, 1, false⟩] 2 [.c (.str ⟨#[]⟩), .nil 9 1]),
  (120, .strct [⟨0, 1, false⟩, ⟨1, 2, true⟩, ⟨3, 1, false⟩, ⟨4, 1, false⟩] 5 [.c (.int .i64 0), .c (.str ⟨#[]⟩), .nil 9 1, .c (.str ⟨#[]⟩), .c (.str ⟨#[]⟩)]),
  (128, .strct [⟨0, 1, false⟩, ⟨1, 2, true⟩] 3 [.c (.int .i64 0), .c (.str ⟨#[]⟩), .nil 9 1]),
  (138, .slice 5 1 1 [.c (.int .u8 0)]),
  (147, .strct [⟨0, 1, false⟩, ⟨1, 1, false⟩, ⟨2, 1, false⟩] 3 [.c (.int .i64 0), .nil 3 1, .nil 3 1]),
  (166, .strct [⟨0, 1, false⟩, ⟨1, 2, true⟩] 3 [.c (.int .i64 0), .c (.str ⟨#[]⟩), .nil 9 1]),
  (173, .strct [⟨0, 1, false⟩, ⟨1, 1, false⟩, ⟨2, 1, false⟩] 3 [.c (.int .i64 0), .nil 3 1, .nil 3 1]),
  (182, .atom (.c (.int .u64 0))),
  (185, .slice 206 2 32 [.c (.str ⟨#[]⟩), .c (.str ⟨#[]⟩)]),
  (197, .atom (.c (.int .u32 0))),
  (199, .atom (.c (.int .u64 0))),
  (206, .strct [⟨0, 1, false⟩, ⟨1, 1, false⟩] 2 [.c (.str ⟨#[]⟩), .c (.str ⟨#[]⟩)])]
def tt (t : Nat) : Option TI := look ttL t
theorem htt : ∀ t i, tt t = some i → TOk Try.prog t i := tts_ok ttL (by kernel_rfl)
theorem hmix : Try.prog.follows .mixedOrders = true := by kernel_rfl
def J0 : World → Prop := fun _ => True
def JF0 : Nat → Prop := fun _ => True
theorem hJ0 : JOk J0 JF0 := ⟨fun _ _ _ _ _ _ _ _ _ _ => trivial, fun _ _ _ _ => trivial⟩
def hdL : List (Nat × Nat) := [(82, 2), (107, 1), (121, 1)]
def hlook : List (Nat × Nat) → Nat → Nat
  | [], _ => 0
  | p :: r, f => match Nat.beq p.1 f with | true => p.2 | false => hlook r f
def hds (f : FuncId) : Nat := hlook hdL f
theorem hd_12 : (SC Try.prog J0 JF0 hds).hd 12 = 0 := _root_.id (by kernel_rfl)
theorem hd_14 : (SC Try.prog J0 JF0 hds).hd 14 = 0 := _root_.id (by kernel_rfl)
theorem hd_21 : (SC Try.prog J0 JF0 hds).hd 21 = 0 := _root_.id (by kernel_rfl)
theorem hd_26 : (SC Try.prog J0 JF0 hds).hd 26 = 0 := _root_.id (by kernel_rfl)
theorem hd_35 : (SC Try.prog J0 JF0 hds).hd 35 = 0 := _root_.id (by kernel_rfl)
theorem hd_37 : (SC Try.prog J0 JF0 hds).hd 37 = 0 := _root_.id (by kernel_rfl)
theorem hd_39 : (SC Try.prog J0 JF0 hds).hd 39 = 0 := _root_.id (by kernel_rfl)
theorem hd_42 : (SC Try.prog J0 JF0 hds).hd 42 = 0 := _root_.id (by kernel_rfl)
theorem hd_44 : (SC Try.prog J0 JF0 hds).hd 44 = 0 := _root_.id (by kernel_rfl)
theorem hd_46 : (SC Try.prog J0 JF0 hds).hd 46 = 0 := _root_.id (by kernel_rfl)
theorem hd_50 : (SC Try.prog J0 JF0 hds).hd 50 = 0 := _root_.id (by kernel_rfl)
theorem hd_53 : (SC Try.prog J0 JF0 hds).hd 53 = 0 := _root_.id (by kernel_rfl)
theorem hd_55 : (SC Try.prog J0 JF0 hds).hd 55 = 0 := _root_.id (by kernel_rfl)
theorem hd_58 : (SC Try.prog J0 JF0 hds).hd 58 = 0 := _root_.id (by kernel_rfl)
theorem hd_59 : (SC Try.prog J0 JF0 hds).hd 59 = 0 := _root_.id (by kernel_rfl)
theorem hd_60 : (SC Try.prog J0 JF0 hds).hd 60 = 0 := _root_.id (by kernel_rfl)
theorem hd_64 : (SC Try.prog J0 JF0 hds).hd 64 = 0 := _root_.id (by kernel_rfl)
theorem hd_65 : (SC Try.prog J0 JF0 hds).hd 65 = 0 := _root_.id (by kernel_rfl)
theorem hd_66 : (SC Try.prog J0 JF0 hds).hd 66 = 0 := _root_.id (by kernel_rfl)
theorem hd_69 : (SC Try.prog J0 JF0 hds).hd 69 = 0 := _root_.id (by kernel_rfl)
theorem hd_70 : (SC Try.prog J0 JF0 hds).hd 70 = 0 := _root_.id (by kernel_rfl)
theorem hd_73 : (SC Try.prog J0 JF0 hds).hd 73 = 0 := _root_.id (by kernel_rfl)
theorem hd_74 : (SC Try.prog J0 JF0 hds).hd 74 = 0 := _root_.id (by kernel_rfl)
theorem hd_78 : (SC Try.prog J0 JF0 hds).hd 78 = 0 := _root_.id (by kernel_rfl)
theorem hd_79 : (SC Try.prog J0 JF0 hds).hd 79 = 0 := _root_.id (by kernel_rfl)
theorem hd_81 : (SC Try.prog J0 JF0 hds).hd 81 = 0 := _root_.id (by kernel_rfl)
theorem hd_82 : (SC Try.prog J0 JF0 hds).hd 82 = 2 := _root_.id (by kernel_rfl)
theorem hd_84 : (SC Try.prog J0 JF0 hds).hd 84 = 0 := _root_.id (by kernel_rfl)
theorem hd_87 : (SC Try.prog J0 JF0 hds).hd 87 = 0 := _root_.id (by kernel_rfl)
theorem hd_88 : (SC Try.prog J0 JF0 hds).hd 88 = 0 := _root_.id (by kernel_rfl)
theorem hd_89 : (SC Try.prog J0 JF0 hds).hd 89 = 0 := _root_.id (by kernel_rfl)
theorem hd_91 : (SC Try.prog J0 JF0 hds).hd 91 = 0 := _root_.id (by kernel_rfl)
theorem hd_92 : (SC Try.prog J0 JF0 hds).hd 92 = 0 := _root_.id (by kernel_rfl)
theorem hd_93 : (SC Try.prog J0 JF0 hds).hd 93 = 0 := _root_.id (by kernel_rfl)
theorem hd_94 : (SC Try.prog J0 JF0 hds).hd 94 = 0 := _root_.id (by kernel_rfl)
theorem hd_96 : (SC Try.prog J0 JF0 hds).hd 96 = 0 := _root_.id (by kernel_rfl)
theorem hd_97 : (SC Try.prog J0 JF0 hds).hd 97 = 0 := _root_.id (by kernel_rfl)
theorem hd_98 : (SC Try.prog J0 JF0 hds).hd 98 = 0 := _root_.id (by kernel_rfl)
theorem hd_103 : (SC Try.prog J0 JF0 hds).hd 103 = 0 := _root_.id (by kernel_rfl)
theorem hd_104 : (SC Try.prog J0 JF0 hds).hd 104 = 0 := _root_.id (by kernel_rfl)
theorem hd_107 : (SC Try.prog J0 JF0 hds).hd 107 = 1 := _root_.id (by kernel_rfl)
theorem hd_109 : (SC Try.prog J0 JF0 hds).hd 109 = 0 := _root_.id (by kernel_rfl)
theorem hd_111 : (SC Try.prog J0 JF0 hds).hd 111 = 0 := _root_.id (by kernel_rfl)
theorem hd_112 : (SC Try.prog J0 JF0 hds).hd 112 = 0 := _root_.id (by kernel_rfl)
theorem hd_113 : (SC Try.prog J0 JF0 hds).hd 113 = 0 := _root_.id (by kernel_rfl)
theorem hd_114 : (SC Try.prog J0 JF0 hds).hd 114 = 0 := _root_.id (by kernel_rfl)
theorem hd_115 : (SC Try.prog J0 JF0 hds).hd 115 = 0 := _root_.id (by kernel_rfl)
theorem hd_117 : (SC Try.prog J0 JF0 hds).hd 117 = 0 := _root_.id (by kernel_rfl)
theorem hd_118 : (SC Try.prog J0 JF0 hds).hd 118 = 0 := _root_.id (by kernel_rfl)
theorem hd_119 : (SC Try.prog J0 JF0 hds).hd 119 = 0 := _root_.id (by kernel_rfl)
theorem hd_120 : (SC Try.prog J0 JF0 hds).hd 120 = 0 := _root_.id (by kernel_rfl)
theorem hd_121 : (SC Try.prog J0 JF0 hds).hd 121 = 1 := _root_.id (by kernel_rfl)
theorem hd_122 : (SC Try.prog J0 JF0 hds).hd 122 = 0 := _root_.id (by kernel_rfl)
theorem hd_123 : (SC Try.prog J0 JF0 hds).hd 123 = 0 := _root_.id (by kernel_rfl)
theorem hd_124 : (SC Try.prog J0 JF0 hds).hd 124 = 0 := _root_.id (by kernel_rfl)
theorem hd_128 : (SC Try.prog J0 JF0 hds).hd 128 = 0 := _root_.id (by kernel_rfl)
theorem hd_129 : (SC Try.prog J0 JF0 hds).hd 129 = 0 := _root_.id (by kernel_rfl)
theorem hd_130 : (SC Try.prog J0 JF0 hds).hd 130 = 0 := _root_.id (by kernel_rfl)
theorem hd_131 : (SC Try.prog J0 JF0 hds).hd 131 = 0 := _root_.id (by kernel_rfl)
theorem hd_132 : (SC Try.prog J0 JF0 hds).hd 132 = 0 := _root_.id (by kernel_rfl)
theorem hd_133 : (SC Try.prog J0 JF0 hds).hd 133 = 0 := _root_.id (by kernel_rfl)
theorem hd_134 : (SC Try.prog J0 JF0 hds).hd 134 = 0 := _root_.id (by kernel_rfl)
theorem hd_135 : (SC Try.prog J0 JF0 hds).hd 135 = 0 := _root_.id (by kernel_rfl)
theorem hd_137 : (SC Try.prog J0 JF0 hds).hd 137 = 0 := _root_.id (by kernel_rfl)
theorem hd_138 : (SC Try.prog J0 JF0 hds).hd 138 = 0 := _root_.id (by kernel_rfl)
theorem hd_139 : (SC Try.prog J0 JF0 hds).hd 139 = 0 := _root_.id (by kernel_rfl)
theorem hd_140 : (SC Try.prog J0 JF0 hds).hd 140 = 0 := _root_.id (by kernel_rfl)
theorem hd_141 : (SC Try.prog J0 JF0 hds).hd 141 = 0 := _root_.id (by kernel_rfl)
theorem hd_142 : (SC Try.prog J0 JF0 hds).hd 142 = 0 := _root_.id (by kernel_rfl)
theorem hd_144 : (SC Try.prog J0 JF0 hds).hd 144 = 0 := _root_.id (by kernel_rfl)
theorem hd_145 : (SC Try.prog J0 JF0 hds).hd 145 = 0 := _root_.id (by kernel_rfl)
theorem hd_147 : (SC Try.prog J0 JF0 hds).hd 147 = 0 := _root_.id (by kernel_rfl)
theorem hd_149 : (SC Try.prog J0 JF0 hds).hd 149 = 0 := _root_.id (by kernel_rfl)
theorem hd_151 : (SC Try.prog J0 JF0 hds).hd 151 = 0 := _root_.id (by kernel_rfl)
theorem hd_152 : (SC Try.prog J0 JF0 hds).hd 152 = 0 := _root_.id (by kernel_rfl)
theorem hd_153 : (SC Try.prog J0 JF0 hds).hd 153 = 0 := _root_.id (by kernel_rfl)
theorem hd_154 : (SC Try.prog J0 JF0 hds).hd 154 = 0 := _root_.id (by kernel_rfl)
theorem hd_155 : (SC Try.prog J0 JF0 hds).hd 155 = 0 := _root_.id (by kernel_rfl)
theorem hd_160 : (SC Try.prog J0 JF0 hds).hd 160 = 0 := _root_.id (by kernel_rfl)
theorem hd_161 : (SC Try.prog J0 JF0 hds).hd 161 = 0 := _root_.id (by kernel_rfl)
theorem hd_164 : (SC Try.prog J0 JF0 hds).hd 164 = 0 := _root_.id (by kernel_rfl)
theorem hd_165 : (SC Try.prog J0 JF0 hds).hd 165 = 0 := _root_.id (by kernel_rfl)
theorem hd_167 : (SC Try.prog J0 JF0 hds).hd 167 = 0 := _root_.id (by kernel_rfl)
theorem hd_168 : (SC Try.prog J0 JF0 hds).hd 168 = 0 := _root_.id (by kernel_rfl)
theorem hd_169 : (SC Try.prog J0 JF0 hds).hd 169 = 0 := _root_.id (by kernel_rfl)
theorem hd_170 : (SC Try.prog J0 JF0 hds).hd 170 = 0 := _root_.id (by kernel_rfl)
theorem hd_171 : (SC Try.prog J0 JF0 hds).hd 171 = 0 := _root_.id (by kernel_rfl)
theorem hd_172 : (SC Try.prog J0 JF0 hds).hd 172 = 0 := _root_.id (by kernel_rfl)
theorem hd_173 : (SC Try.prog J0 JF0 hds).hd 173 = 0 := _root_.id (by kernel_rfl)
theorem hd_174 : (SC Try.prog J0 JF0 hds).hd 174 = 0 := _root_.id (by kernel_rfl)
theorem hd_175 : (SC Try.prog J0 JF0 hds).hd 175 = 0 := _root_.id (by kernel_rfl)
theorem hd_176 : (SC Try.prog J0 JF0 hds).hd 176 = 0 := _root_.id (by kernel_rfl)
theorem hd_177 : (SC Try.prog J0 JF0 hds).hd 177 = 0 := _root_.id (by kernel_rfl)
theorem hd_178 : (SC Try.prog J0 JF0 hds).hd 178 = 0 := _root_.id (by kernel_rfl)
theorem hd_179 : (SC Try.prog J0 JF0 hds).hd 179 = 0 := _root_.id (by kernel_rfl)
theorem hd_183 : (SC Try.prog J0 JF0 hds).hd 183 = 0 := _root_.id (by kernel_rfl)
theorem hd_184 : (SC Try.prog J0 JF0 hds).hd 184 = 0 := _root_.id (by kernel_rfl)
theorem hd_185 : (SC Try.prog J0 JF0 hds).hd 185 = 0 := _root_.id (by kernel_rfl)
theorem hd_186 : (SC Try.prog J0 JF0 hds).hd 186 = 0 := _root_.id (by kernel_rfl)
theorem tt2 : tt 2 = some (.atom (.c (.int .i64 0))) := _root_.id rfl
theorem tt3 : tt 3 = some (.atom (.c (.int .i64 0))) := _root_.id rfl
theorem tt4 : tt 4 = some (.atom (.c (.bool false))) := _root_.id rfl
theorem tt5 : tt 5 = some (.atom (.c (.int .u8 0))) := _root_.id rfl
theorem tt9 : tt 9 = some (.atom (.c (.str ⟨#[]⟩))) := _root_.id rfl
theorem tt12 : tt 12 = some (.atom (.c (.int .u64 0))) := _root_.id rfl
theorem tt14 : tt 14 = some (.strct [⟨0, 1, false⟩, ⟨1, 1, false⟩] 2 [.c (.str ⟨#[]⟩), .c (.int .u64 0)]) := _root_.id rfl
theorem tt21 : tt 21 = some (.atom (.c (.int .i32 0))) := _root_.id rfl
theorem tt22 : tt 22 = some (.slice 88 4 80 [.c (.str ⟨#[]⟩), .nil 9 1, .c (.str ⟨#[]⟩), .nil 3 1]) := _root_.id rfl
theorem tt24 : tt 24 = some (.slice 9 1 16 [.c (.str ⟨#[]⟩)]) := _root_.id rfl
theorem tt26 : tt 26 = some (.slice 91 4 80 [.c (.str ⟨#[]⟩), .nil 9 1, .c (.str ⟨#[]⟩), .nil 3 1]) := _root_.id rfl
theorem tt33 : tt 33 = some (.slice 70 4 72 [.c (.str ⟨#[]⟩), .c (.int .i64 0), .nil 116 5, .nil 166 3]) := _root_.id rfl
theorem tt36 : tt 36 = some (.slice 75 4 72 [.c (.str ⟨#[]⟩), .c (.int .i64 0), .nil 120 5, .nil 128 3]) := _root_.id rfl
theorem tt40 : tt 40 = some (.slice 173 3 56 [.c (.int .i64 0), .nil 3 1, .nil 3 1]) := _root_.id rfl
theorem tt42 : tt 42 = some (.strct [⟨0, 1, false⟩, ⟨1, 1, false⟩] 2 [.c (.int .i64 0), .nil 173 3]) := _root_.id rfl
theorem tt43 : tt 43 = some (.slice 3 1 8 [.c (.int .i64 0)]) := _root_.id rfl
theorem tt45 : tt 45 = some (.strct [⟨0, 2, true⟩, ⟨2, 1, false⟩, ⟨3, 1, false⟩] 4 [.c (.int .i64 0), .nil 173 3, .nil 3 1, .nil 3 1]) := _root_.id rfl
theorem tt48 : tt 48 = some (.slice 147 3 56 [.c (.int .i64 0), .nil 3 1, .nil 3 1]) := _root_.id rfl
theorem tt50 : tt 50 = some (.strct [⟨0, 1, false⟩, ⟨1, 1, false⟩] 2 [.c (.int .i64 0), .nil 147 3]) := _root_.id rfl
theorem tt52 : tt 52 = some (.strct [⟨0, 2, true⟩, ⟨2, 1, false⟩, ⟨3, 1, false⟩] 4 [.c (.int .i64 0), .nil 147 3, .nil 3 1, .nil 3 1]) := _root_.id rfl
theorem tt59 : tt 59 = some (.slice 116 5 80 [.c (.int .i64 0), .c (.str ⟨#[]⟩), .nil 9 1, .c (.str ⟨#[]⟩), .c (.str ⟨#[]⟩)]) := _root_.id rfl
theorem tt62 : tt 62 = some (.slice 120 5 80 [.c (.int .i64 0), .c (.str ⟨#[]⟩), .nil 9 1, .c (.str ⟨#[]⟩), .c (.str ⟨#[]⟩)]) := _root_.id rfl
theorem tt68 : tt 68 = some (.slice 166 3 48 [.c (.int .i64 0), .c (.str ⟨#[]⟩), .nil 9 1]) := _root_.id rfl
theorem tt70 : tt 70 = some (.strct [⟨0, 1, false⟩, ⟨1, 1, false⟩, ⟨2, 1, false⟩, ⟨3, 1, false⟩] 4 [.c (.str ⟨#[]⟩), .c (.int .i64 0), .nil 116 5, .nil 166 3]) := _root_.id rfl
theorem tt73 : tt 73 = some (.slice 128 3 48 [.c (.int .i64 0), .c (.str ⟨#[]⟩), .nil 9 1]) := _root_.id rfl
theorem tt75 : tt 75 = some (.strct [⟨0, 1, false⟩, ⟨1, 1, false⟩, ⟨2, 1, false⟩, ⟨3, 1, false⟩] 4 [.c (.str ⟨#[]⟩), .c (.int .i64 0), .nil 120 5, .nil 128 3]) := _root_.id rfl
theorem tt86 : tt 86 = some (.strct [⟨0, 1, false⟩, ⟨1, 1, false⟩] 2 [.c (.str ⟨#[]⟩), .nil 9 1]) := _root_.id rfl
theorem tt88 : tt 88 = some (.strct [⟨0, 2, true⟩, ⟨2, 1, false⟩, ⟨3, 1, false⟩] 4 [.c (.str ⟨#[]⟩), .nil 9 1, .c (.str ⟨#[]⟩), .nil 3 1]) := _root_.id rfl
theorem tt89 : tt 89 = some (.strct [⟨0, 1, false⟩, ⟨1, 1, false⟩] 2 [.c (.str ⟨#[]⟩), .nil 9 1]) := _root_.id rfl
theorem tt91 : tt 91 = some (.strct [⟨0, 2, true⟩, ⟨2, 1, false⟩, ⟨3, 1, false⟩] 4 [.c (.str ⟨#[]⟩), .nil 9 1, .c (.str ⟨#[]⟩), .nil 3 1]) := _root_.id rfl
theorem tt108 : tt 108 = some (.slice 4 1 1 [.c (.bool false)]) := _root_.id rfl
theorem tt114 : tt 114 = some (.strct [⟨0, 1, false⟩, ⟨1, 1, false⟩] 2 [.c (.str ⟨#[]⟩), .nil 9 1]) := _root_.id rfl
theorem tt116 : tt 116 = some (.strct [⟨0, 1, false⟩, ⟨1, 2, true⟩, ⟨3, 1, false⟩, ⟨4, 1, false⟩] 5 [.c (.int .i64 0), .c (.str ⟨#[]⟩), .nil 9 1, .c (.str ⟨#[]⟩), .c (.str ⟨#[]⟩)]) := _root_.id rfl
theorem tt118 : tt 118 = some (.strct [⟨0, 1, false⟩, ⟨1, 1, false⟩] 2 [.c (.str ⟨#[]⟩), .nil 9 1]) := _root_.id rfl
theorem tt120 : tt 120 = some (.strct [⟨0, 1, false⟩, ⟨1, 2, true⟩, ⟨3, 1, false⟩, ⟨4, 1, false⟩] 5 [.c (.int .i64 0), .c (.str ⟨#[]⟩), .nil 9 1, .c (.str ⟨#[]⟩), .c (.str ⟨#[]⟩)]) := _root_.id rfl
theorem tt128 : tt 128 = some (.strct [⟨0, 1, false⟩, ⟨1, 2, true⟩] 3 [.c (.int .i64 0), .c (.str ⟨#[]⟩), .nil 9 1]) := _root_.id rfl
theorem tt138 : tt 138 = some (.slice 5 1 1 [.c (.int .u8 0)]) := _root_.id rfl
theorem tt147 : tt 147 = some (.strct [⟨0, 1, false⟩, ⟨1, 1, false⟩, ⟨2, 1, false⟩] 3 [.c (.int .i64 0), .nil 3 1, .nil 3 1]) := _root_.id rfl
theorem tt166 : tt 166 = some (.strct [⟨0, 1, false⟩, ⟨1, 2, true⟩] 3 [.c (.int .i64 0), .c (.str ⟨#[]⟩), .nil 9 1]) := _root_.id rfl
theorem tt173 : tt 173 = some (.strct [⟨0, 1, false⟩, ⟨1, 1, false⟩, ⟨2, 1, false⟩] 3 [.c (.int .i64 0), .nil 3 1, .nil 3 1]) := _root_.id rfl
theorem tt182 : tt 182 = some (.atom (.c (.int .u64 0))) := _root_.id rfl
theorem tt185 : tt 185 = some (.slice 206 2 32 [.c (.str ⟨#[]⟩), .c (.str ⟨#[]⟩)]) := _root_.id rfl
theorem tt197 : tt 197 = some (.atom (.c (.int .u32 0))) := _root_.id rfl
theorem tt199 : tt 199 = some (.atom (.c (.int .u64 0))) := _root_.id rfl
theorem tt206 : tt 206 = some (.strct [⟨0, 1, false⟩, ⟨1, 1, false⟩] 2 [.c (.str ⟨#[]⟩), .c (.str ⟨#[]⟩)]) := _root_.id rfl
theorem fnk {f : FuncId} {fn : Func} {c : Code} {args : List (Bool × List CT)} {res : List RT} (hf : Try.prog.funcs[f]? = some fn) (hname : (fn.name == "runtime.NumGoroutine") = false) (hb : fn.body = some c) (hok : codeOk tt hds false fn.ntmps c = true) (hlen : Nat.ble args.length fn.ntmps = true) (h : fnS tt (SC Try.prog J0 JF0 hds) fn.results.toList c args res) : Sound Try.prog J0 f args res := fn_sound htt hJ0 hmix hf hname hb hok hlen h
theorem fnh {f : FuncId} {fn : Func} {c : Code} {h h' : Hand} {args : List (Bool × List CT)} {res : List RT} (hf : Try.prog.funcs[f]? = some fn) (hname : (fn.name == "runtime.NumGoroutine") = false) (hb : fn.body = some c) (hok : codeOk tt hds true fn.ntmps c = true) (hlen : Nat.blt args.length fn.ntmps = true) (hh : fnH tt (SC Try.prog J0 JF0 hds) fn.results.toList c h args res h') : SoundH Try.prog J0 JF0 f h args res h' := fn_soundH htt hJ0 hmix hf hname hb hok hlen hh
def eReason (x : ReasonD) : List CT := [.int .i64 x.for_, .sl 3 1 (List.map eInt x.inn), .sl 3 1 (List.map eInt x.outs)]
theorem eReason_eq (x : ReasonD) : eReason x = [.int .i64 x.for_, .sl 3 1 (List.map eInt x.inn), .sl 3 1 (List.map eInt x.outs)] := _root_.id rfl
def eBeliefs (x : BeliefsD) : List CT := [.int .i64 x.nodes, .sl 147 3 (List.map eReason x.reasons)]
theorem eBeliefs_eq (x : BeliefsD) : eBeliefs x = [.int .i64 x.nodes, .sl 147 3 (List.map eReason x.reasons)] := _root_.id rfl
def eFrame (x : FrameD) : List CT := [.int .i64 x.beliefs.nodes, .sl 147 3 (List.map eReason x.beliefs.reasons), .sl 3 1 (List.map eInt x.assumed), .sl 3 1 (List.map eInt x.bad)]
theorem eFrame_eq (x : FrameD) : eFrame x = [.int .i64 x.beliefs.nodes, .sl 147 3 (List.map eReason x.beliefs.reasons), .sl 3 1 (List.map eInt x.assumed), .sl 3 1 (List.map eInt x.bad)] := _root_.id rfl
def ePattern (x : PatternD) : List CT := [.str x.rel, .sl 9 1 (List.map eStr x.args)]
theorem ePattern_eq (x : PatternD) : ePattern x = [.str x.rel, .sl 9 1 (List.map eStr x.args)] := _root_.id rfl
def eCond (x : CondD) : List CT := [.int .i64 x.kind, .str x.pattern.rel, .sl 9 1 (List.map eStr x.pattern.args), .str x.left, .str x.right]
theorem eCond_eq (x : CondD) : eCond x = [.int .i64 x.kind, .str x.pattern.rel, .sl 9 1 (List.map eStr x.pattern.args), .str x.left, .str x.right] := _root_.id rfl
def eAction (x : ActionD) : List CT := [.int .i64 x.kind, .str x.pattern.rel, .sl 9 1 (List.map eStr x.pattern.args)]
theorem eAction_eq (x : ActionD) : eAction x = [.int .i64 x.kind, .str x.pattern.rel, .sl 9 1 (List.map eStr x.pattern.args)] := _root_.id rfl
def eRule (x : RuleD) : List CT := [.str x.name, .int .i64 x.priority, .sl 120 5 (List.map eCond x.cond), .sl 128 3 (List.map eAction x.thn)]
theorem eRule_eq (x : RuleD) : eRule x = [.str x.name, .int .i64 x.priority, .sl 120 5 (List.map eCond x.cond), .sl 128 3 (List.map eAction x.thn)] := _root_.id rfl
def eFact (x : FactD) : List CT := [.str x.rel, .sl 9 1 (List.map eStr x.args)]
theorem eFact_eq (x : FactD) : eFact x = [.str x.rel, .sl 9 1 (List.map eStr x.args)] := _root_.id rfl
def eStep (x : StepD) : List CT := [.str x.fact.rel, .sl 9 1 (List.map eStr x.fact.args), .str x.rule, .sl 3 1 (List.map eInt x.uses)]
theorem eStep_eq (x : StepD) : eStep x = [.str x.fact.rel, .sl 9 1 (List.map eStr x.fact.args), .str x.rule, .sl 3 1 (List.map eInt x.uses)] := _root_.id rfl
def ePair (x : PairD) : List CT := [.str x.var, .str x.value]
theorem ePair_eq (x : PairD) : ePair x = [.str x.var, .str x.value] := _root_.id rfl
theorem ePair_flat (l : List PairD) : flatEs (l.map ePair) = true := flatEs_map (fun _ => rfl) l
attribute [go_sem] tt2 tt3 tt4 tt5 tt9 tt12 tt14 tt21 tt22 tt24 tt26 tt33 tt36 tt40 tt42 tt43 tt45 tt48 tt50 tt52 tt59 tt62 tt68 tt70 tt73 tt75 tt86 tt88 tt89 tt91 tt108 tt114 tt116 tt118 tt120 tt128 tt138 tt147 tt166 tt173
attribute [go_sem] tt182 tt185 tt197 tt199 tt206 hd_12 hd_14 hd_21 hd_26 hd_35 hd_37 hd_39 hd_42 hd_44 hd_46 hd_50 hd_53 hd_55 hd_58 hd_59 hd_60 hd_64 hd_65 hd_66 hd_69 hd_70 hd_73 hd_74 hd_78 hd_79 hd_81 hd_82 hd_84 hd_87 hd_88 hd_89 hd_91 hd_92 hd_93 hd_94
attribute [go_sem] hd_96 hd_97 hd_98 hd_103 hd_104 hd_107 hd_109 hd_111 hd_112 hd_113 hd_114 hd_115 hd_117 hd_118 hd_119 hd_120 hd_121 hd_122 hd_123 hd_124 hd_128 hd_129 hd_130 hd_131 hd_132 hd_133 hd_134 hd_135 hd_137 hd_138 hd_139 hd_140 hd_141 hd_142 hd_144 hd_145 hd_147 hd_149 hd_151 hd_152
attribute [go_sem] hd_153 hd_154 hd_155 hd_160 hd_161 hd_164 hd_165 hd_167 hd_168 hd_169 hd_170 hd_171 hd_172 hd_173 hd_174 hd_175 hd_176 hd_177 hd_178 hd_179 hd_183 hd_184 hd_185 hd_186 eReason_eq eBeliefs_eq eFrame_eq ePattern_eq eCond_eq eAction_eq eRule_eq eFact_eq eStep_eq ePair_flat ePair_eq
end Go.Proofs.Ytgempkloppgnmaa

namespace Go.Proofs
open Go.Shelf
def Try.lays192_ren : Go.Shelf.Ren := ⟨fun | 192 => 107 | 190 => 158 | 125 => 181 | 258 => 180 | 128 => 196 | 129 => 197 | 302 => 187 | 303 => 188 | 304 => 189 | 305 => 190 | 306 => 191 | 307 => 192 | 308 => 193 | 309 => 194 | 310 => 195 | 333 => 207 | 329 => 208 | 330 => 209 | 334 => 210 | 335 => 211 | 336 => 212 | 344 => 217 | n => n, fun | 31 => 24 | 0 => 0 | 9 => 9 | 3 => 3 | 46 => 182 | 51 => 197 | 53 => 199 | 4 => 4 | 183 => 189 | 182 => 188 | 131 => 194 | 5 => 5 | 218 => 207 | 222 => 211 | 228 => 215 | 229 => 216 | n => n, fun | n => n⟩
theorem Try.lays192 : Go.Proofs.Lays.n192 Try.prog Try.lays192_ren := {
  mixed := by kernel_rfl
  f125 := Try.func181.trans (congrArg some (by kernel_rfl))
  f128 := Try.func196.trans (congrArg some (by kernel_rfl))
  f129 := Try.func197.trans (congrArg some (by kernel_rfl))
  f190 := Try.func158.trans (congrArg some (by kernel_rfl))
  f192 := Try.func107.trans (congrArg some (by kernel_rfl))
  f258 := Try.func180.trans (congrArg some (by kernel_rfl))
  f302 := Try.func187.trans (congrArg some (by kernel_rfl))
  f303 := Try.func188.trans (congrArg some (by kernel_rfl))
  f304 := Try.func189.trans (congrArg some (by kernel_rfl))
  f305 := Try.func190.trans (congrArg some (by kernel_rfl))
  f306 := Try.func191.trans (congrArg some (by kernel_rfl))
  f307 := Try.func192.trans (congrArg some (by kernel_rfl))
  f308 := Try.func193.trans (congrArg some (by kernel_rfl))
  f309 := Try.func194.trans (congrArg some (by kernel_rfl))
  f310 := Try.func195.trans (congrArg some (by kernel_rfl))
  f329 := Try.func208.trans (congrArg some (by kernel_rfl))
  f330 := Try.func209.trans (congrArg some (by kernel_rfl))
  f333 := Try.func207.trans (congrArg some (by kernel_rfl))
  f334 := Try.func210.trans (congrArg some (by kernel_rfl))
  f335 := Try.func211.trans (congrArg some (by kernel_rfl))
  f336 := Try.func212.trans (congrArg some (by kernel_rfl))
  f344 := Try.func217.trans (congrArg some (by kernel_rfl))
  t0 := Try.underlying0
  a0 := Try.isAgg0
  z0 := Try.sizeOf0
  v0 := Try.zeroValue0
  t3 := Try.underlying3
  a3 := Try.isAgg3
  z3 := Try.sizeOf3
  v3 := Try.zeroValue3
  t4 := Try.underlying4
  a4 := Try.isAgg4
  z4 := Try.sizeOf4
  v4 := Try.zeroValue4
  t5 := Try.underlying5
  a5 := Try.isAgg5
  z5 := Try.sizeOf5
  v5 := Try.zeroValue5
  t9 := Try.underlying9
  a9 := Try.isAgg9
  z9 := Try.sizeOf9
  v9 := Try.zeroValue9
  t31 := Try.underlying24
  a31 := Try.isAgg24
  z31 := Try.sizeOf24
  v31 := Try.zeroValue24
  t46 := Try.underlying182
  a46 := Try.isAgg182
  z46 := Try.sizeOf182
  v46 := Try.zeroValue182
  t51 := Try.underlying197
  a51 := Try.isAgg197
  z51 := Try.sizeOf197
  v51 := Try.zeroValue197
  t53 := Try.underlying199
  a53 := Try.isAgg199
  z53 := Try.sizeOf199
  v53 := Try.zeroValue199
  t131 := Try.underlying194
  a131 := Try.isAgg194
  z131 := Try.sizeOf194
  v131 := Try.zeroValue194
  t182 := Try.underlying188
  a182 := Try.isAgg188
  z182 := Try.sizeOf188
  v182 := Try.zeroValue188
  t183 := Try.underlying189
  a183 := Try.isAgg189
  z183 := Try.sizeOf189
  v183 := Try.zeroValue189
  t218 := Try.underlying207
  a218 := Try.isAgg207
  z218 := Try.sizeOf207
  v218 := Try.zeroValue207
  t222 := Try.underlying211
  a222 := Try.isAgg211
  z222 := Try.sizeOf211
  v222 := Try.zeroValue211
  t228 := Try.underlying215
  a228 := Try.isAgg215
  z228 := Try.sizeOf215
  v228 := Try.zeroValue215
  t229 := Try.underlying216
  a229 := Try.isAgg216
  z229 := Try.sizeOf216
  v229 := Try.zeroValue216 }
open Go.Sort Go.RowKit in
theorem Try.sort_Strings (blk off cap : Nat) (ss : List (List UInt8)) (w : World) (hH : Holds encStr w blk off ss.toArray) (hblk : blk < w.heap.size) (hsz : ss.length < 4611686018427387904) :
    Calls Try.prog 107 #[.slice (some ⟨blk, off, none⟩) ss.length cap] w fun e w' =>
      e = .returned (.tuple #[]) ∧ ∃ n os, w' = grow (putRow encStr (Sort.ahead w n) blk off (ss.mergeSort fun x y => decide (x ≤ y)).toArray) os := Any.sort_Strings Try.lays192 blk off cap ss w hH hblk hsz
open Go.RowKit Go.Sort in
/-- .. and plain. (LAID: no walk: one application.) -/
theorem Try.sort_Strings_none (p : Option Addr) (cap : Nat) (w : World) :
    Calls Try.prog 107 #[.slice p 0 cap] w fun e w' => e = .returned (.tuple #[]) ∧ w' = w := Any.sort_Strings_none Try.lays192 p cap w
end Go.Proofs

namespace Go.Proofs.Ytgempkloppgnmaa
open Go.RowKit Go.Sort
theorem sort_hand {α : Type} [Inhabited α] {P : Program} {J : World → Prop} {JF : Nat → Prop} (enc : α → Value) (el : α → List CT) (hel : ∀ (w : World) x v L, RCs w (el x) v L → v = [enc x]) (hmv : ∀ (w w' : World) x, RCs w (el x) [enc x] [] → RCs w' (el x) [enc x] []) (hflat : ∀ l : List α, flatEs (l.map el) = true) {f : FuncId} {e : TypeId} {zs d : List α} (hc : Callable P f) (hd : d.length = zs.length) (hsub : ∀ x ∈ d, x ∈ zs)
    (hN : ∀ p cap w, Calls P f #[.slice p 0 cap] w fun e w' => e = .returned (.tuple #[]) ∧ w' = w)
    (hC : ∀ blk cap w, Holds enc w blk 0 zs.toArray → blk < w.heap.size → Calls P f #[.slice (some ⟨blk, 0, none⟩) zs.length cap] w fun e w' => e = .returned (.tuple #[]) ∧ ∃ n os, w' = grow (putRow enc (Sort.ahead w n) blk 0 d.toArray) os) :
    SoundH P J JF f (.row e 1 (zs.map el)) [] [] (.row e 1 (d.map el)) := by
  refine ⟨hc, fun w z q v0 vs hj hqf hz hh ha => ?_⟩
  cases vs with
  | cons _ _ => exact ha.elim
  | nil =>
  obtain ⟨hfl, hm, hq, cs, hown, hre⟩ := hh
  have hcs : ∀ (l : List α) (cs : List Value) (L : List Nat), REs w 1 (l.map el) cs L → cs = l.map enc ∧ (L = [] → ∀ x ∈ l, RCs w (el x) [enc x] []) := by
    intro l
    induction l with
    | nil => intro cs L h; exact ⟨h.1, fun _ x mx => by simp at mx⟩
    | cons x l ih =>
      rintro cs L ⟨c1, c2, L1, L2, rfl, rfl, h3, h4⟩
      obtain ⟨i1, i2⟩ := ih _ _ h4
      have e1 := hel _ _ _ _ h3.1
      refine ⟨by rw [e1, i1]; rfl, fun hL y my => ?_⟩
      obtain ⟨l1, l2⟩ := List.append_eq_nil_iff.1 hL
      rcases List.mem_cons.1 my with rfl | my
      · rw [← e1, ← l1]; exact h3.1
      · exact i2 l2 y my
  obtain ⟨e1, e2⟩ := hcs zs cs [] hre
  have e2 := e2 rfl
  subst e1
  have hre' : ∀ (w' : World) (l : List α), (∀ x ∈ l, x ∈ zs) → REs w' 1 (l.map el) (l.map enc) [] := by
    intro w' l
    induction l with
    | nil => intro _; exact ⟨rfl, rfl⟩
    | cons x l ih => intro hl; exact ⟨[enc x], l.map enc, [], [], rfl, rfl, ⟨hmv w w' x (e2 x (hl x (by simp))), rfl⟩, ih fun y my => hl y (by simp [my])⟩
  have hzl : (zs.map el).length = zs.length := by simp
  rw [hzl] at hown
  have done : ∀ w' : World, w'.os = w.os → w'.tape = w.tape → w'.output = w.output → w.heap.size ≤ w'.heap.size → (∀ k, k < w.heap.size → ¬ q = some k → w'.heap[k]? = w.heap[k]?) → w'.ownsRow 0 e 1 v0 d.length (d.map enc) → ∃ v n, Ending.returned (.tuple #[]) = .returned v ∧ ResR w' w.heap.size n [] v ∧ (∀ b, inQ z q b → n b) ∧ HandR w' n q (.row e 1 (d.map el)) v0 ∧ BelQ q w w' :=
    fun w' h1 h2 h3 h4 h5 h6 => ⟨_, inQ z q, rfl, ⟨[], [], ⟨rfl, rfl⟩, Own.nil _ _, rfl⟩, fun _ h => h, ⟨hflat d, by omega, hq, d.map enc, by simpa using h6, hre' w' d hsub⟩, ⟨h1, h2, h3, h4, h5⟩⟩
  rcases Nat.eq_zero_or_pos zs.length with h0 | h0
  · have hz0 : zs = [] := List.eq_nil_of_length_eq_zero h0
    have hd0 : d = [] := List.eq_nil_of_length_eq_zero (hd.trans h0)
    obtain ⟨A, cap, hv⟩ := own_val hown
    rw [h0] at hv
    subst hv
    refine (hN A cap w).mono ?_
    rintro e' w' ⟨rfl, rfl⟩
    exact done w' rfl rfl rfl (Nat.le_refl _) (fun _ _ _ => rfl) (by rw [hd0]; rw [hz0] at hown; exact hown)
  · rcases hown.2 with ⟨h', hl0⟩ | ⟨g, cap, cur, h', hb, hg, hnc, hcm, hcsz, htake⟩
    · omega
    · subst h'
      have hlt : g < w.heap.size := (Array.getElem?_eq_some_iff.1 hg).1
      have hcur : ∀ j, j < zs.length → cur[j]? = some (enc zs[j]!) := fun j hj => by
        have := congrArg (fun l => l[j]?) htake
        simp only [Nat.mul_one, List.getElem?_take, hj, if_true, Array.getElem?_toList, List.getElem?_map] at this
        rw [this]
        simp [List.getElem!_eq_getElem?_getD, hj]
      refine (hC g cap w (fun j hj => ?_) hlt).mono ?_
      · have hj' : j < zs.length := by simpa using hj
        refine ⟨?_, by simp [World.frozen?, hg]⟩
        simp only [World.cell?, hg, Option.isSome_none, Bool.false_eq_true, if_false, Nat.zero_add]
        rw [hcur j hj']
        simp [hj']
      · rintro e' w' ⟨rfl, n, os, rfl⟩
        have hh : (putRow enc (Sort.ahead w n) g 0 d.toArray).heap[g]? = some (.cells (putCells enc 0 d.toArray cur) e (0, 0)) := by
          simp only [putRow, mapBlock, heap_ahead, Array.getElem?_modify, if_true, hg, Option.map_some, onCells]
        refine done _ rfl rfl rfl (by simp) (fun k hk hqk => ?_) ⟨by simp, .inr ⟨g, cap, putCells enc 0 d.toArray cur, by rw [hd], by omega, ?_, by omega, hcm, by simpa [putCells] using hcsz, ?_⟩⟩
        · rw [heap_grow_old _ _ (by simpa using hk)]
          simp only [putRow, mapBlock, heap_ahead, Array.getElem?_modify]
          rw [if_neg (fun e => hqk (by rw [← hq]; simp [Value.ownBlock, e]))]
        · rw [heap_grow_old _ _ (by simpa using hlt)]; exact hh
        · apply List.ext_getElem?
          intro j
          simp only [Nat.mul_one, List.getElem?_take, List.getElem?_map, Array.getElem?_toList, putCells, Array.getElem?_mapIdx, List.size_toArray]
          by_cases hj : j < d.length
          · have hjc : j < cur.size := by omega
            simp [hj, hjc]
          · simp [hj]
theorem sortStrings_H {J : World → Prop} {JF : Nat → Prop} {l r : List ByteArray} (h : x_sortStrings l = some r) : SoundH Try.prog J JF 107 (.row 9 1 (l.map eStr)) [] [] (.row 9 1 (r.map eStr)) := by
  obtain ⟨h1, h2⟩ := chk_K h
  obtain rfl := Option.some.inj h2
  have e1 : l.map eStr = (l.map toL).map fun x => eStr (ofL x) := by rw [List.map_map]; exact List.map_congr_left fun x _ => by simp [ofL_toL]
  have e2 : (sortB l).map eStr = ((l.map toL).mergeSort fun x y => decide (x ≤ y)).map fun x => eStr (ofL x) := by simp [sortB, List.map_map, Function.comp_def]
  rw [e1, e2]
  refine sort_hand encStr (fun x => eStr (ofL x)) (fun w x v L h => ?_) (fun w w' x h => h) (fun l => flatEs_map (fun _ => rfl) l) ⟨Try.f107, Try.func107, by kernel_rfl, by kernel_rfl⟩ (by simp) (fun x hx => by simpa using hx) (fun p cap w => Try.sort_Strings_none p cap w) (fun blk cap w hH hb => Try.sort_Strings blk 0 cap (l.map toL) w hH hb (by simp; omega))
  obtain ⟨u, vs, L1, L2, rfl, rfl, q1, rfl, rfl⟩ := h
  rw [q1.1]
  rfl
end Go.Proofs.Ytgempkloppgnmaa

namespace Go.Proofs.Ytgempkloppgnmaa
theorem x_sortStrings_ok {l r : List ByteArray} (h : x_sortStrings l = some r) : SoundH Try.prog J0 JF0 107 (.row 9 1 (l.map eStr)) [] [] (.row 9 1 (r.map eStr)) := sortStrings_H h
end Go.Proofs.Ytgempkloppgnmaa

namespace Go.Proofs.Ytgempkloppgnmaa
open Go.Proofs.Try
set_option linter.unusedSimpArgs false
set_option linter.unusedVariables false
set_option maxRecDepth 10000
set_option maxHeartbeats 4000000
theorem s_l1Put_ok {l_0 : (List ByteArray)} {s_1 : ByteArray} {r : (List ByteArray)} (h : s_l1Put l_0 s_1 = some r) : Sound Try.prog J0 53 [(false, [.sl 9 1 (List.map eStr l_0)]), (false, [.str s_1])] [(false, [(false, .sl 9 1 (List.map eStr r))])] := by
  refine fnk Try.func53 (by kernel_rfl) rfl (by kernel_rfl) (by kernel_rfl) ?_
  unfold s_l1Put at h
  simp only [fnS, f53, argSt, go_sem, Nat.reduceAdd, Nat.reduceMul, Nat.reduceEqDiff, Nat.reduceLeDiff, Nat.reduceLT, Nat.reduceBEq, reduceCtorEq, reduceIte]
  refine swp_for h (fun i s st => match s with | (row_2, done_5) => IV [(0, .p false [.c (.sl 9 1 (List.map eStr l_0))]), (1, .p false [.c (.str s_1)]), (5, .p false [.row 0]), (6, .p false [.c (.bool done_5)]), (7, .p false [.c (.int .i64 ((i : Nat) : Int))])] [.row 9 1 (List.map eStr row_2) 2] st) [] [16] (by decide) ?_ ?_ ?_
  · simp only [go_sem, Nat.reduceAdd, Nat.reduceMul, Nat.reduceEqDiff, Nat.reduceLeDiff, Nat.reduceLT, Nat.reduceBEq, reduceCtorEq, reduceIte, IV, sts_cons, sts_nil, obs_cons, obs_nil]
  · rintro i8 x9 ⟨row_2, done_5⟩ ⟨sl, ob, n⟩ y1 hx2 hI3 hW4 h hy1
    simp only [IV, sts_cons, sts_nil, obs_cons, obs_nil, and_true, true_and, Nat.reduceAdd, str_len] at hI3
    obtain ⟨⟨g5_0, g5_1, g5_5, g5_6, g5_7⟩, og5_0, hn⟩ := hI3
    subst hn
    have hlhx2 := WF.slotL hW4 g5_0 (j := 0) rfl
    simp only [go_sem, Nat.reduceAdd, Nat.reduceMul, Nat.reduceEqDiff, Nat.reduceLeDiff, Nat.reduceLT, Nat.reduceBEq, reduceCtorEq, reduceIte, hx2, lt_t hx2, lt_p hx2, nat_in (lt_n hx2) hlhx2, g5_0, g5_1, g5_5, g5_6, g5_7, og5_0]
    refine ite_K h (fun c6 h => ?_) (fun c6 h => ?_)
    · obtain ⟨p7, h⟩ := chk_K h
      try simp only [Nat.reduceLeDiff] at p7
      simp only [go_sem, Nat.reduceAdd, Nat.reduceMul, Nat.reduceEqDiff, Nat.reduceLeDiff, Nat.reduceLT, Nat.reduceBEq, reduceCtorEq, reduceIte, hx2, lt_t hx2, lt_p hx2, nat_in (lt_n hx2) hlhx2, c6, p7, g5_0, g5_1, g5_5, g5_6, g5_7, og5_0]
      refine ⟨_, [], [321], (Option.some.inj h).symm, by decide, ?_⟩
      simp only [go_sem, Nat.reduceAdd, Nat.reduceMul, Nat.reduceEqDiff, Nat.reduceLeDiff, Nat.reduceLT, Nat.reduceBEq, reduceCtorEq, reduceIte, hx2, lt_t hx2, lt_p hx2, nat_in (lt_n hx2) hlhx2, c6, p7, g5_0, g5_1, g5_5, g5_6, g5_7, og5_0, IV, sts_cons, sts_nil, obs_cons, obs_nil]
    · simp only [go_sem, Nat.reduceAdd, Nat.reduceMul, Nat.reduceEqDiff, Nat.reduceLeDiff, Nat.reduceLT, Nat.reduceBEq, reduceCtorEq, reduceIte, hx2, lt_t hx2, lt_p hx2, nat_in (lt_n hx2) hlhx2, c6, g5_0, g5_1, g5_5, g5_6, g5_7, og5_0]
      refine ite_K h (fun c8 h => ?_) (fun c8 h => ?_)
      · obtain ⟨p9, h⟩ := chk_K h
        try simp only [Nat.reduceLeDiff] at p9
        simp only [go_sem, Nat.reduceAdd, Nat.reduceMul, Nat.reduceEqDiff, Nat.reduceLeDiff, Nat.reduceLT, Nat.reduceBEq, reduceCtorEq, reduceIte, hx2, lt_t hx2, lt_p hx2, nat_in (lt_n hx2) hlhx2, c6, c8, p9, g5_0, g5_1, g5_5, g5_6, g5_7, og5_0]
        refine ⟨_, [], [321], (Option.some.inj h).symm, by decide, ?_⟩
        simp only [go_sem, Nat.reduceAdd, Nat.reduceMul, Nat.reduceEqDiff, Nat.reduceLeDiff, Nat.reduceLT, Nat.reduceBEq, reduceCtorEq, reduceIte, hx2, lt_t hx2, lt_p hx2, nat_in (lt_n hx2) hlhx2, c6, c8, p9, g5_0, g5_1, g5_5, g5_6, g5_7, og5_0, IV, sts_cons, sts_nil, obs_cons, obs_nil]
      · simp only [go_sem, Nat.reduceAdd, Nat.reduceMul, Nat.reduceEqDiff, Nat.reduceLeDiff, Nat.reduceLT, Nat.reduceBEq, reduceCtorEq, reduceIte, hx2, lt_t hx2, lt_p hx2, nat_in (lt_n hx2) hlhx2, c6, c8, g5_0, g5_1, g5_5, g5_6, g5_7, og5_0]
        refine ite_K h (fun c10 h => ?_) (fun c10 h => ?_)
        · obtain ⟨p11, h⟩ := chk_K h
          try simp only [Nat.reduceLeDiff] at p11
          simp only [go_sem, Nat.reduceAdd, Nat.reduceMul, Nat.reduceEqDiff, Nat.reduceLeDiff, Nat.reduceLT, Nat.reduceBEq, reduceCtorEq, reduceIte, hx2, lt_t hx2, lt_p hx2, nat_in (lt_n hx2) hlhx2, c6, c8, c10, p11, g5_0, g5_1, g5_5, g5_6, g5_7, og5_0]
          refine ⟨_, [], [433], (Option.some.inj h).symm, by decide, ?_⟩
          simp only [go_sem, Nat.reduceAdd, Nat.reduceMul, Nat.reduceEqDiff, Nat.reduceLeDiff, Nat.reduceLT, Nat.reduceBEq, reduceCtorEq, reduceIte, hx2, lt_t hx2, lt_p hx2, nat_in (lt_n hx2) hlhx2, c6, c8, c10, p11, g5_0, g5_1, g5_5, g5_6, g5_7, og5_0, IV, sts_cons, sts_nil, obs_cons, obs_nil]
        · obtain ⟨p12, h⟩ := chk_K h
          try simp only [Nat.reduceLeDiff] at p12
          obtain ⟨p13, h⟩ := chk_K h
          try simp only [Nat.reduceLeDiff] at p13
          simp only [go_sem, Nat.reduceAdd, Nat.reduceMul, Nat.reduceEqDiff, Nat.reduceLeDiff, Nat.reduceLT, Nat.reduceBEq, reduceCtorEq, reduceIte, hx2, lt_t hx2, lt_p hx2, nat_in (lt_n hx2) hlhx2, c6, c8, c10, p12, p13, g5_0, g5_1, g5_5, g5_6, g5_7, og5_0]
          refine ⟨_, [], [513], (Option.some.inj h).symm, by decide, ?_⟩
          simp only [go_sem, Nat.reduceAdd, Nat.reduceMul, Nat.reduceEqDiff, Nat.reduceLeDiff, Nat.reduceLT, Nat.reduceBEq, reduceCtorEq, reduceIte, hx2, lt_t hx2, lt_p hx2, nat_in (lt_n hx2) hlhx2, c6, c8, c10, p12, p13, g5_0, g5_1, g5_5, g5_6, g5_7, og5_0, IV, sts_cons, sts_nil, obs_cons, obs_nil]
  · rintro ⟨row_2, done_5⟩ ⟨sl, ob, n⟩ hI14 hW15 h
    simp only [IV, sts_cons, sts_nil, obs_cons, obs_nil, and_true, true_and, Nat.reduceAdd, str_len] at hI14
    obtain ⟨⟨g16_0, g16_1, g16_5, g16_6, g16_7⟩, og16_0, hn⟩ := hI14
    subst hn
    simp only [go_sem, Nat.reduceAdd, Nat.reduceMul, Nat.reduceEqDiff, Nat.reduceLeDiff, Nat.reduceLT, Nat.reduceBEq, reduceCtorEq, reduceIte, lt_f (l_0.length), g16_0, g16_1, g16_5, g16_6, g16_7, og16_0]
    refine ite_K h (fun c17 h => ?_) (fun c17 h => ?_)
    · obtain rfl := Option.some.inj h
      simp only [go_sem, Nat.reduceAdd, Nat.reduceMul, Nat.reduceEqDiff, Nat.reduceLeDiff, Nat.reduceLT, Nat.reduceBEq, reduceCtorEq, reduceIte, lt_f (l_0.length), c17, g16_0, g16_1, g16_5, g16_6, g16_7, og16_0]
    · obtain ⟨p18, h⟩ := chk_K h
      try simp only [Nat.reduceLeDiff] at p18
      obtain rfl := Option.some.inj h
      simp only [go_sem, Nat.reduceAdd, Nat.reduceMul, Nat.reduceEqDiff, Nat.reduceLeDiff, Nat.reduceLT, Nat.reduceBEq, reduceCtorEq, reduceIte, lt_f (l_0.length), c17, p18, g16_0, g16_1, g16_5, g16_6, g16_7, og16_0]
theorem i_SortedTexts_ok {l_0 : (List ByteArray)} {r : (List ByteArray)} (h : i_SortedTexts l_0 = some r) : Sound Try.prog J0 55 [(false, [.sl 9 1 (List.map eStr l_0)])] [(false, [(false, .sl 9 1 (List.map eStr r))])] := by
  refine fnk Try.func55 (by kernel_rfl) rfl (by kernel_rfl) (by kernel_rfl) ?_
  unfold i_SortedTexts at h
  simp only [fnS, f55, argSt, go_sem, Nat.reduceAdd, Nat.reduceMul, Nat.reduceEqDiff, Nat.reduceLeDiff, Nat.reduceLT, Nat.reduceBEq, reduceCtorEq, reduceIte]
  obtain ⟨p1, h⟩ := chk_K h
  try simp only [Nat.reduceLeDiff] at p1
  simp only [go_sem, Nat.reduceAdd, Nat.reduceMul, Nat.reduceEqDiff, Nat.reduceLeDiff, Nat.reduceLT, Nat.reduceBEq, reduceCtorEq, reduceIte, p1]
  obtain ⟨v1, e2, h⟩ := bind_K h
  refine hand_K (by first | exact x_sortStrings_ok e2 | simpa only [go_sem, Nat.reduceAdd, Nat.reduceMul, Nat.reduceEqDiff, Nat.reduceLeDiff, Nat.reduceLT, Nat.reduceBEq, reduceCtorEq, reduceIte, p1] using x_sortStrings_ok e2) ?_
  simp only [go_sem, Nat.reduceAdd, Nat.reduceMul, Nat.reduceEqDiff, Nat.reduceLeDiff, Nat.reduceLT, Nat.reduceBEq, reduceCtorEq, reduceIte, p1]
  refine swp_for h (fun i row_6 st => IV [(3, .p false [.row 0]), (4, .p false [.row 1]), (11, .p false [.row 0]), (12, .p false [.c (.int .i64 ((v1.length : Nat) : Int))]), (13, .p false [.c (.int .i64 ((i : Nat) : Int))])] [.row 9 1 (List.map eStr v1) 2, .row 9 1 (List.map eStr row_6) 2] st) [(false, 4, 0)] [32, 160] (by decide) ?_ ?_ ?_
  · simp only [go_sem, Nat.reduceAdd, Nat.reduceMul, Nat.reduceEqDiff, Nat.reduceLeDiff, Nat.reduceLT, Nat.reduceBEq, reduceCtorEq, reduceIte, IV, sts_cons, sts_nil, obs_cons, obs_nil, p1]
  · rintro i10 x11 row_6 ⟨sl, ob, n⟩ y3 hx4 hI5 hW6 h hy3
    simp only [IV, sts_cons, sts_nil, obs_cons, obs_nil, and_true, true_and, Nat.reduceAdd, str_len] at hI5
    obtain ⟨⟨g7_3, g7_4, g7_11, g7_12, g7_13⟩, og7_0, og7_1, hn⟩ := hI5
    subst hn
    have hlhx4 := WF.rowL hW6 og7_0
    simp only [go_sem, Nat.reduceAdd, Nat.reduceMul, Nat.reduceEqDiff, Nat.reduceLeDiff, Nat.reduceLT, Nat.reduceBEq, reduceCtorEq, reduceIte, p1, hx4, lt_t hx4, lt_p hx4, nat_in (lt_n hx4) hlhx4, g7_3, g7_4, g7_11, g7_12, g7_13, og7_0, og7_1]
    refine ite_K h (fun c8 h => ?_) (fun c8 h => ?_)
    · obtain ⟨p9, h⟩ := chk_K h
      try simp only [Nat.reduceLeDiff] at p9
      simp only [go_sem, Nat.reduceAdd, Nat.reduceMul, Nat.reduceEqDiff, Nat.reduceLeDiff, Nat.reduceLT, Nat.reduceBEq, reduceCtorEq, reduceIte, p1, hx4, lt_t hx4, lt_p hx4, nat_in (lt_n hx4) hlhx4, c8, p9, g7_3, g7_4, g7_11, g7_12, g7_13, og7_0, og7_1]
      refine ⟨_, [], [0, 322], (Option.some.inj h).symm, by decide, ?_⟩
      simp only [go_sem, Nat.reduceAdd, Nat.reduceMul, Nat.reduceEqDiff, Nat.reduceLeDiff, Nat.reduceLT, Nat.reduceBEq, reduceCtorEq, reduceIte, p1, hx4, lt_t hx4, lt_p hx4, nat_in (lt_n hx4) hlhx4, c8, p9, g7_3, g7_4, g7_11, g7_12, g7_13, og7_0, og7_1, IV, sts_cons, sts_nil, obs_cons, obs_nil]
    · obtain ⟨p10, h⟩ := chk_K h
      obtain ⟨x12, e11, h⟩ := bind_K h
      simp only [go_sem, Nat.reduceAdd, Nat.reduceMul, Nat.reduceEqDiff, Nat.reduceLeDiff, Nat.reduceLT, Nat.reduceBEq, reduceCtorEq, reduceIte, p1, hx4, lt_t hx4, lt_p hx4, nat_in (lt_n hx4) hlhx4, c8, p10.1, p10.2, e11, g7_3, g7_4, g7_11, g7_12, g7_13, og7_0, og7_1]
      refine ite_K h (fun c12 h => ?_) (fun c12 h => ?_)
      · simp only [go_sem, Nat.reduceAdd, Nat.reduceMul, Nat.reduceEqDiff, Nat.reduceLeDiff, Nat.reduceLT, Nat.reduceBEq, reduceCtorEq, reduceIte, p1, hx4, lt_t hx4, lt_p hx4, nat_in (lt_n hx4) hlhx4, c8, p10.1, p10.2, e11, c12, g7_3, g7_4, g7_11, g7_12, g7_13, og7_0, og7_1]
        refine ⟨_, [], [0, 1], (Option.some.inj h).symm, by decide, ?_⟩
        simp only [go_sem, Nat.reduceAdd, Nat.reduceMul, Nat.reduceEqDiff, Nat.reduceLeDiff, Nat.reduceLT, Nat.reduceBEq, reduceCtorEq, reduceIte, p1, hx4, lt_t hx4, lt_p hx4, nat_in (lt_n hx4) hlhx4, c8, p10.1, p10.2, e11, c12, g7_3, g7_4, g7_11, g7_12, g7_13, og7_0, og7_1, IV, sts_cons, sts_nil, obs_cons, obs_nil]
      · obtain ⟨p13, h⟩ := chk_K h
        try simp only [Nat.reduceLeDiff] at p13
        simp only [go_sem, Nat.reduceAdd, Nat.reduceMul, Nat.reduceEqDiff, Nat.reduceLeDiff, Nat.reduceLT, Nat.reduceBEq, reduceCtorEq, reduceIte, p1, hx4, lt_t hx4, lt_p hx4, nat_in (lt_n hx4) hlhx4, c8, p10.1, p10.2, e11, c12, p13, g7_3, g7_4, g7_11, g7_12, g7_13, og7_0, og7_1]
        refine ⟨_, [], [0, 322], (Option.some.inj h).symm, by decide, ?_⟩
        simp only [go_sem, Nat.reduceAdd, Nat.reduceMul, Nat.reduceEqDiff, Nat.reduceLeDiff, Nat.reduceLT, Nat.reduceBEq, reduceCtorEq, reduceIte, p1, hx4, lt_t hx4, lt_p hx4, nat_in (lt_n hx4) hlhx4, c8, p10.1, p10.2, e11, c12, p13, g7_3, g7_4, g7_11, g7_12, g7_13, og7_0, og7_1, IV, sts_cons, sts_nil, obs_cons, obs_nil]
  · rintro row_6 ⟨sl, ob, n⟩ hI14 hW15 h
    simp only [IV, sts_cons, sts_nil, obs_cons, obs_nil, and_true, true_and, Nat.reduceAdd, str_len] at hI14
    obtain ⟨⟨g16_3, g16_4, g16_11, g16_12, g16_13⟩, og16_0, og16_1, hn⟩ := hI14
    subst hn
    obtain rfl := Option.some.inj h
    simp only [go_sem, Nat.reduceAdd, Nat.reduceMul, Nat.reduceEqDiff, Nat.reduceLeDiff, Nat.reduceLT, Nat.reduceBEq, reduceCtorEq, reduceIte, p1, lt_f (v1.length), g16_3, g16_4, g16_11, g16_12, g16_13, og16_0, og16_1]
theorem s_l1HasText_ok {l_0 : (List ByteArray)} {s_1 : ByteArray} {r : Bool} (h : s_l1HasText l_0 s_1 = some r) : Sound Try.prog J0 58 [(false, [.sl 9 1 (List.map eStr l_0)]), (false, [.str s_1])] [(false, [(false, .bool r)])] := by
  refine fnk Try.func58 (by kernel_rfl) rfl (by kernel_rfl) (by kernel_rfl) ?_
  unfold s_l1HasText at h
  simp only [fnS, f58, argSt, go_sem, Nat.reduceAdd, Nat.reduceMul, Nat.reduceEqDiff, Nat.reduceLeDiff, Nat.reduceLT, Nat.reduceBEq, reduceCtorEq, reduceIte]
  refine swp_for h (fun i _ st => IV [(0, .p false [.c (.sl 9 1 (List.map eStr l_0))]), (1, .p false [.c (.str s_1)]), (5, .p false [.c (.int .i64 ((i : Nat) : Int))])] [] st) [] [] (by decide) ?_ ?_ ?_
  · simp only [go_sem, Nat.reduceAdd, Nat.reduceMul, Nat.reduceEqDiff, Nat.reduceLeDiff, Nat.reduceLT, Nat.reduceBEq, reduceCtorEq, reduceIte, IV, sts_cons, sts_nil, obs_cons, obs_nil]
  · rintro i4 x5 ⟨⟩ ⟨sl, ob, n⟩ y1 hx2 hI3 hW4 h hy1
    simp only [IV, sts_cons, sts_nil, obs_cons, obs_nil, and_true, true_and, Nat.reduceAdd, str_len] at hI3
    obtain ⟨⟨g5_0, g5_1, g5_5⟩, hn⟩ := hI3
    subst hn
    have hlhx2 := WF.slotL hW4 g5_0 (j := 0) rfl
    simp only [go_sem, Nat.reduceAdd, Nat.reduceMul, Nat.reduceEqDiff, Nat.reduceLeDiff, Nat.reduceLT, Nat.reduceBEq, reduceCtorEq, reduceIte, hx2, lt_t hx2, lt_p hx2, nat_in (lt_n hx2) hlhx2, g5_0, g5_1, g5_5]
    refine ite_K h (fun c6 h => ?_) (fun c6 h => ?_)
    · replace h := inr_K h hy1
      obtain rfl := Option.some.inj h
      simp only [go_sem, Nat.reduceAdd, Nat.reduceMul, Nat.reduceEqDiff, Nat.reduceLeDiff, Nat.reduceLT, Nat.reduceBEq, reduceCtorEq, reduceIte, hx2, lt_t hx2, lt_p hx2, nat_in (lt_n hx2) hlhx2, c6, g5_0, g5_1, g5_5]
    · simp only [go_sem, Nat.reduceAdd, Nat.reduceMul, Nat.reduceEqDiff, Nat.reduceLeDiff, Nat.reduceLT, Nat.reduceBEq, reduceCtorEq, reduceIte, hx2, lt_t hx2, lt_p hx2, nat_in (lt_n hx2) hlhx2, c6, g5_0, g5_1, g5_5]
      refine ⟨_, [], [], (Option.some.inj h).symm, by decide, ?_⟩
      simp only [go_sem, Nat.reduceAdd, Nat.reduceMul, Nat.reduceEqDiff, Nat.reduceLeDiff, Nat.reduceLT, Nat.reduceBEq, reduceCtorEq, reduceIte, hx2, lt_t hx2, lt_p hx2, nat_in (lt_n hx2) hlhx2, c6, g5_0, g5_1, g5_5, IV, sts_cons, sts_nil, obs_cons, obs_nil]
  · rintro ⟨⟩ ⟨sl, ob, n⟩ hI7 hW8 h
    simp only [IV, sts_cons, sts_nil, obs_cons, obs_nil, and_true, true_and, Nat.reduceAdd, str_len] at hI7
    obtain ⟨⟨g9_0, g9_1, g9_5⟩, hn⟩ := hI7
    subst hn
    obtain rfl := Option.some.inj h
    simp only [go_sem, Nat.reduceAdd, Nat.reduceMul, Nat.reduceEqDiff, Nat.reduceLeDiff, Nat.reduceLT, Nat.reduceBEq, reduceCtorEq, reduceIte, lt_f (l_0.length), g9_0, g9_1, g9_5]
theorem i_hasText_ok {l_0 : (List ByteArray)} {s_1 : ByteArray} {r : Bool} (h : i_hasText l_0 s_1 = some r) : Sound Try.prog J0 94 [(false, [.sl 9 1 (List.map eStr l_0)]), (false, [.str s_1])] [(false, [(false, .bool r)])] := by
  refine fnk Try.func94 (by kernel_rfl) rfl (by kernel_rfl) (by kernel_rfl) ?_
  unfold i_hasText at h
  simp only [fnS, f94, argSt, go_sem, Nat.reduceAdd, Nat.reduceMul, Nat.reduceEqDiff, Nat.reduceLeDiff, Nat.reduceLT, Nat.reduceBEq, reduceCtorEq, reduceIte]
  refine swp_for h (fun i _ st => IV [(1, .p false [.c (.str s_1)]), (7, .p false [.c (.sl 9 1 (List.map eStr l_0))]), (8, .p false [.c (.int .i64 ((l_0.length : Nat) : Int))]), (9, .p false [.c (.int .i64 ((i : Nat) : Int))])] [] st) [] [] (by decide) ?_ ?_ ?_
  · simp only [go_sem, Nat.reduceAdd, Nat.reduceMul, Nat.reduceEqDiff, Nat.reduceLeDiff, Nat.reduceLT, Nat.reduceBEq, reduceCtorEq, reduceIte, IV, sts_cons, sts_nil, obs_cons, obs_nil]
  · rintro i4 x5 ⟨⟩ ⟨sl, ob, n⟩ y1 hx2 hI3 hW4 h hy1
    simp only [IV, sts_cons, sts_nil, obs_cons, obs_nil, and_true, true_and, Nat.reduceAdd, str_len] at hI3
    obtain ⟨⟨g5_1, g5_7, g5_8, g5_9⟩, hn⟩ := hI3
    subst hn
    have hlhx2 := WF.slotL hW4 g5_7 (j := 0) rfl
    simp only [go_sem, Nat.reduceAdd, Nat.reduceMul, Nat.reduceEqDiff, Nat.reduceLeDiff, Nat.reduceLT, Nat.reduceBEq, reduceCtorEq, reduceIte, hx2, lt_t hx2, lt_p hx2, nat_in (lt_n hx2) hlhx2, g5_1, g5_7, g5_8, g5_9]
    refine ite_K h (fun c6 h => ?_) (fun c6 h => ?_)
    · replace h := inr_K h hy1
      obtain rfl := Option.some.inj h
      simp only [go_sem, Nat.reduceAdd, Nat.reduceMul, Nat.reduceEqDiff, Nat.reduceLeDiff, Nat.reduceLT, Nat.reduceBEq, reduceCtorEq, reduceIte, hx2, lt_t hx2, lt_p hx2, nat_in (lt_n hx2) hlhx2, c6, g5_1, g5_7, g5_8, g5_9]
    · simp only [go_sem, Nat.reduceAdd, Nat.reduceMul, Nat.reduceEqDiff, Nat.reduceLeDiff, Nat.reduceLT, Nat.reduceBEq, reduceCtorEq, reduceIte, hx2, lt_t hx2, lt_p hx2, nat_in (lt_n hx2) hlhx2, c6, g5_1, g5_7, g5_8, g5_9]
      refine ⟨_, [], [], (Option.some.inj h).symm, by decide, ?_⟩
      simp only [go_sem, Nat.reduceAdd, Nat.reduceMul, Nat.reduceEqDiff, Nat.reduceLeDiff, Nat.reduceLT, Nat.reduceBEq, reduceCtorEq, reduceIte, hx2, lt_t hx2, lt_p hx2, nat_in (lt_n hx2) hlhx2, c6, g5_1, g5_7, g5_8, g5_9, IV, sts_cons, sts_nil, obs_cons, obs_nil]
  · rintro ⟨⟩ ⟨sl, ob, n⟩ hI7 hW8 h
    simp only [IV, sts_cons, sts_nil, obs_cons, obs_nil, and_true, true_and, Nat.reduceAdd, str_len] at hI7
    obtain ⟨⟨g9_1, g9_7, g9_8, g9_9⟩, hn⟩ := hI7
    subst hn
    obtain rfl := Option.some.inj h
    simp only [go_sem, Nat.reduceAdd, Nat.reduceMul, Nat.reduceEqDiff, Nat.reduceLeDiff, Nat.reduceLT, Nat.reduceBEq, reduceCtorEq, reduceIte, lt_f (l_0.length), g9_1, g9_7, g9_8, g9_9]
theorem s_l1In_ok {x_0 : Int} {least_1 : Int} {most_2 : Int} {r : Bool} (h : s_l1In x_0 least_1 most_2 = some r) : Sound Try.prog J0 112 [(false, [.int .i64 x_0]), (false, [.int .i64 least_1]), (false, [.int .i64 most_2])] [(false, [(false, .bool r)])] := by
  refine fnk Try.func112 (by kernel_rfl) rfl (by kernel_rfl) (by kernel_rfl) ?_
  unfold s_l1In at h
  simp only [fnS, f112, argSt, go_sem, Nat.reduceAdd, Nat.reduceMul, Nat.reduceEqDiff, Nat.reduceLeDiff, Nat.reduceLT, Nat.reduceBEq, reduceCtorEq, reduceIte]
  refine ite_K h (fun c1 h => ?_) (fun c1 h => ?_)
  · obtain rfl := Option.some.inj h
    simp only [go_sem, Nat.reduceAdd, Nat.reduceMul, Nat.reduceEqDiff, Nat.reduceLeDiff, Nat.reduceLT, Nat.reduceBEq, reduceCtorEq, reduceIte, c1]
  · obtain rfl := Option.some.inj h
    simp only [go_sem, Nat.reduceAdd, Nat.reduceMul, Nat.reduceEqDiff, Nat.reduceLeDiff, Nat.reduceLT, Nat.reduceBEq, reduceCtorEq, reduceIte, c1]
end Go.Proofs.Ytgempkloppgnmaa

namespace Go.Proofs.Ytgempkloppgnmaa
open Go.Proofs.Try
set_option linter.unusedSimpArgs false
set_option linter.unusedVariables false
set_option maxRecDepth 10000
set_option maxHeartbeats 4000000
theorem i_IsAtom_ok {s_0 : ByteArray} {r : Bool} (h : i_IsAtom s_0 = some r) : Sound Try.prog J0 171 [(false, [.str s_0])] [(false, [(false, .bool r)])] := by
  refine fnk Try.func171 (by kernel_rfl) rfl (by kernel_rfl) (by kernel_rfl) ?_
  unfold i_IsAtom at h
  simp only [fnS, f171, argSt, go_sem, Nat.reduceAdd, Nat.reduceMul, Nat.reduceEqDiff, Nat.reduceLeDiff, Nat.reduceLT, Nat.reduceBEq, reduceCtorEq, reduceIte]
  refine ite_K h (fun c1 h => ?_) (fun c1 h => ?_)
  · obtain rfl := Option.some.inj h
    simp only [go_sem, Nat.reduceAdd, Nat.reduceMul, Nat.reduceEqDiff, Nat.reduceLeDiff, Nat.reduceLT, Nat.reduceBEq, reduceCtorEq, reduceIte, c1]
  · simp only [go_sem, Nat.reduceAdd, Nat.reduceMul, Nat.reduceEqDiff, Nat.reduceLeDiff, Nat.reduceLT, Nat.reduceBEq, reduceCtorEq, reduceIte, c1]
    refine ite_K h (fun c2 h => ?_) (fun c2 h => ?_)
    · obtain rfl := Option.some.inj h
      simp only [go_sem, Nat.reduceAdd, Nat.reduceMul, Nat.reduceEqDiff, Nat.reduceLeDiff, Nat.reduceLT, Nat.reduceBEq, reduceCtorEq, reduceIte, c1, c2]
    · simp only [go_sem, Nat.reduceAdd, Nat.reduceMul, Nat.reduceEqDiff, Nat.reduceLeDiff, Nat.reduceLT, Nat.reduceBEq, reduceCtorEq, reduceIte, c1, c2]
      refine swp_for h (fun i _ st => IV [(0, .p false [.c (.str s_0)]), (3, .p false [.c (.int .i64 ((i : Nat) : Int))])] [] st) [] [] (by decide) ?_ ?_ ?_
      · simp only [go_sem, Nat.reduceAdd, Nat.reduceMul, Nat.reduceEqDiff, Nat.reduceLeDiff, Nat.reduceLT, Nat.reduceBEq, reduceCtorEq, reduceIte, IV, sts_cons, sts_nil, obs_cons, obs_nil, c1, c2]
      · rintro i4 x5 ⟨⟩ ⟨sl, ob, n⟩ y3 hx4 hI5 hW6 h hy3
        simp only [IV, sts_cons, sts_nil, obs_cons, obs_nil, and_true, true_and, Nat.reduceAdd, str_len] at hI5
        obtain ⟨⟨g7_0, g7_3⟩, hn⟩ := hI5
        subst hn
        have hlhx4 := WF.slotS hW6 g7_0 (j := 0) rfl
        simp only [go_sem, Nat.reduceAdd, Nat.reduceMul, Nat.reduceEqDiff, Nat.reduceLeDiff, Nat.reduceLT, Nat.reduceBEq, reduceCtorEq, reduceIte, c1, c2, str_at hx4, slt_t hx4, nat_in (slt_n hx4) hlhx4, g7_0, g7_3]
        refine ite_K h (fun c8 h => ?_) (fun c8 h => ?_)
        · simp only [go_sem, Nat.reduceAdd, Nat.reduceMul, Nat.reduceEqDiff, Nat.reduceLeDiff, Nat.reduceLT, Nat.reduceBEq, reduceCtorEq, reduceIte, c1, c2, str_at hx4, slt_t hx4, nat_in (slt_n hx4) hlhx4, c8, g7_0, g7_3]
          refine ite_K h (fun c9 h => ?_) (fun c9 h => ?_)
          · replace h := inr_K h hy3
            obtain rfl := Option.some.inj h
            simp only [go_sem, Nat.reduceAdd, Nat.reduceMul, Nat.reduceEqDiff, Nat.reduceLeDiff, Nat.reduceLT, Nat.reduceBEq, reduceCtorEq, reduceIte, c1, c2, str_at hx4, slt_t hx4, nat_in (slt_n hx4) hlhx4, c8, c9, g7_0, g7_3]
          · simp only [go_sem, Nat.reduceAdd, Nat.reduceMul, Nat.reduceEqDiff, Nat.reduceLeDiff, Nat.reduceLT, Nat.reduceBEq, reduceCtorEq, reduceIte, c1, c2, str_at hx4, slt_t hx4, nat_in (slt_n hx4) hlhx4, c8, c9, g7_0, g7_3]
            refine ite_K h (fun c10 h => ?_) (fun c10 h => ?_)
            · replace h := inr_K h hy3
              obtain rfl := Option.some.inj h
              simp only [go_sem, Nat.reduceAdd, Nat.reduceMul, Nat.reduceEqDiff, Nat.reduceLeDiff, Nat.reduceLT, Nat.reduceBEq, reduceCtorEq, reduceIte, c1, c2, str_at hx4, slt_t hx4, nat_in (slt_n hx4) hlhx4, c8, c9, c10, g7_0, g7_3]
            · simp only [go_sem, Nat.reduceAdd, Nat.reduceMul, Nat.reduceEqDiff, Nat.reduceLeDiff, Nat.reduceLT, Nat.reduceBEq, reduceCtorEq, reduceIte, c1, c2, str_at hx4, slt_t hx4, nat_in (slt_n hx4) hlhx4, c8, c9, c10, g7_0, g7_3]
              refine ⟨_, [], [], (Option.some.inj h).symm, by decide, ?_⟩
              simp only [go_sem, Nat.reduceAdd, Nat.reduceMul, Nat.reduceEqDiff, Nat.reduceLeDiff, Nat.reduceLT, Nat.reduceBEq, reduceCtorEq, reduceIte, c1, c2, str_at hx4, slt_t hx4, nat_in (slt_n hx4) hlhx4, c8, c9, c10, g7_0, g7_3, IV, sts_cons, sts_nil, obs_cons, obs_nil]
        · simp only [go_sem, Nat.reduceAdd, Nat.reduceMul, Nat.reduceEqDiff, Nat.reduceLeDiff, Nat.reduceLT, Nat.reduceBEq, reduceCtorEq, reduceIte, c1, c2, str_at hx4, slt_t hx4, nat_in (slt_n hx4) hlhx4, c8, g7_0, g7_3]
          refine ite_K h (fun c11 h => ?_) (fun c11 h => ?_)
          · simp only [go_sem, Nat.reduceAdd, Nat.reduceMul, Nat.reduceEqDiff, Nat.reduceLeDiff, Nat.reduceLT, Nat.reduceBEq, reduceCtorEq, reduceIte, c1, c2, str_at hx4, slt_t hx4, nat_in (slt_n hx4) hlhx4, c8, c11, g7_0, g7_3]
            refine ite_K h (fun c12 h => ?_) (fun c12 h => ?_)
            · replace h := inr_K h hy3
              obtain rfl := Option.some.inj h
              simp only [go_sem, Nat.reduceAdd, Nat.reduceMul, Nat.reduceEqDiff, Nat.reduceLeDiff, Nat.reduceLT, Nat.reduceBEq, reduceCtorEq, reduceIte, c1, c2, str_at hx4, slt_t hx4, nat_in (slt_n hx4) hlhx4, c8, c11, c12, g7_0, g7_3]
            · simp only [go_sem, Nat.reduceAdd, Nat.reduceMul, Nat.reduceEqDiff, Nat.reduceLeDiff, Nat.reduceLT, Nat.reduceBEq, reduceCtorEq, reduceIte, c1, c2, str_at hx4, slt_t hx4, nat_in (slt_n hx4) hlhx4, c8, c11, c12, g7_0, g7_3]
              refine ite_K h (fun c13 h => ?_) (fun c13 h => ?_)
              · replace h := inr_K h hy3
                obtain rfl := Option.some.inj h
                simp only [go_sem, Nat.reduceAdd, Nat.reduceMul, Nat.reduceEqDiff, Nat.reduceLeDiff, Nat.reduceLT, Nat.reduceBEq, reduceCtorEq, reduceIte, c1, c2, str_at hx4, slt_t hx4, nat_in (slt_n hx4) hlhx4, c8, c11, c12, c13, g7_0, g7_3]
              · simp only [go_sem, Nat.reduceAdd, Nat.reduceMul, Nat.reduceEqDiff, Nat.reduceLeDiff, Nat.reduceLT, Nat.reduceBEq, reduceCtorEq, reduceIte, c1, c2, str_at hx4, slt_t hx4, nat_in (slt_n hx4) hlhx4, c8, c11, c12, c13, g7_0, g7_3]
                refine ⟨_, [], [], (Option.some.inj h).symm, by decide, ?_⟩
                simp only [go_sem, Nat.reduceAdd, Nat.reduceMul, Nat.reduceEqDiff, Nat.reduceLeDiff, Nat.reduceLT, Nat.reduceBEq, reduceCtorEq, reduceIte, c1, c2, str_at hx4, slt_t hx4, nat_in (slt_n hx4) hlhx4, c8, c11, c12, c13, g7_0, g7_3, IV, sts_cons, sts_nil, obs_cons, obs_nil]
          · simp only [go_sem, Nat.reduceAdd, Nat.reduceMul, Nat.reduceEqDiff, Nat.reduceLeDiff, Nat.reduceLT, Nat.reduceBEq, reduceCtorEq, reduceIte, c1, c2, str_at hx4, slt_t hx4, nat_in (slt_n hx4) hlhx4, c8, c11, g7_0, g7_3]
            refine ⟨_, [], [], (Option.some.inj h).symm, by decide, ?_⟩
            simp only [go_sem, Nat.reduceAdd, Nat.reduceMul, Nat.reduceEqDiff, Nat.reduceLeDiff, Nat.reduceLT, Nat.reduceBEq, reduceCtorEq, reduceIte, c1, c2, str_at hx4, slt_t hx4, nat_in (slt_n hx4) hlhx4, c8, c11, g7_0, g7_3, IV, sts_cons, sts_nil, obs_cons, obs_nil]
      · rintro ⟨⟩ ⟨sl, ob, n⟩ hI14 hW15 h
        simp only [IV, sts_cons, sts_nil, obs_cons, obs_nil, and_true, true_and, Nat.reduceAdd, str_len] at hI14
        obtain ⟨⟨g16_0, g16_3⟩, hn⟩ := hI14
        subst hn
        obtain rfl := Option.some.inj h
        simp only [go_sem, Nat.reduceAdd, Nat.reduceMul, Nat.reduceEqDiff, Nat.reduceLeDiff, Nat.reduceLT, Nat.reduceBEq, reduceCtorEq, reduceIte, c1, c2, lt_f (s_0.size), g16_0, g16_3]
theorem i_zeroPattern_ok {p_0 : PatternD} {r : Bool} (h : i_zeroPattern p_0 = some r) : Sound Try.prog J0 174 [(true, ePattern p_0)] [(false, [(false, .bool r)])] := by
  refine fnk Try.func174 (by kernel_rfl) rfl (by kernel_rfl) (by kernel_rfl) ?_
  unfold i_zeroPattern at h
  have ks0 : strOk ⟨#[]⟩ = true := by decide
  simp only [fnS, f174, argSt, go_sem, Nat.reduceAdd, Nat.reduceMul, Nat.reduceEqDiff, Nat.reduceLeDiff, Nat.reduceLT, Nat.reduceBEq, reduceCtorEq, reduceIte, ks0]
  refine ite_K h (fun c1 h => ?_) (fun c1 h => ?_)
  · obtain rfl := Option.some.inj h
    simp only [go_sem, Nat.reduceAdd, Nat.reduceMul, Nat.reduceEqDiff, Nat.reduceLeDiff, Nat.reduceLT, Nat.reduceBEq, reduceCtorEq, reduceIte, ks0, c1]
  · obtain rfl := Option.some.inj h
    simp only [go_sem, Nat.reduceAdd, Nat.reduceMul, Nat.reduceEqDiff, Nat.reduceLeDiff, Nat.reduceLT, Nat.reduceBEq, reduceCtorEq, reduceIte, ks0, c1]
theorem i_copyTexts_ok {l_0 : (List ByteArray)} {r : (List ByteArray)} (h : i_copyTexts l_0 = some r) : Sound Try.prog J0 177 [(false, [.sl 9 1 (List.map eStr l_0)])] [(false, [(false, .sl 9 1 (List.map eStr r))])] := by
  refine fnk Try.func177 (by kernel_rfl) rfl (by kernel_rfl) (by kernel_rfl) ?_
  unfold i_copyTexts at h
  simp only [fnS, f177, argSt, go_sem, Nat.reduceAdd, Nat.reduceMul, Nat.reduceEqDiff, Nat.reduceLeDiff, Nat.reduceLT, Nat.reduceBEq, reduceCtorEq, reduceIte]
  obtain ⟨p1, h⟩ := chk_K h
  try simp only [Nat.reduceLeDiff] at p1
  obtain rfl := Option.some.inj h
  simp only [go_sem, Nat.reduceAdd, Nat.reduceMul, Nat.reduceEqDiff, Nat.reduceLeDiff, Nat.reduceLT, Nat.reduceBEq, reduceCtorEq, reduceIte, p1]
theorem i_onlyAdds_ok {r_0 : RuleD} {r : Bool} (h : i_onlyAdds r_0 = some r) : Sound Try.prog J0 91 [(true, eRule r_0)] [(false, [(false, .bool r)])] := by
  refine fnk Try.func91 (by kernel_rfl) rfl (by kernel_rfl) (by kernel_rfl) ?_
  unfold i_onlyAdds at h
  simp only [fnS, f91, argSt, go_sem, Nat.reduceAdd, Nat.reduceMul, Nat.reduceEqDiff, Nat.reduceLeDiff, Nat.reduceLT, Nat.reduceBEq, reduceCtorEq, reduceIte]
  refine swp_for h (fun i _ st => IV [(6, .p false [.c (.sl 128 3 (List.map eAction r_0.thn))]), (7, .p false [.c (.int .i64 ((r_0.thn.length : Nat) : Int))]), (8, .p false [.c (.int .i64 ((i : Nat) : Int))])] [] st) [] [] (by decide) ?_ ?_ ?_
  · simp only [go_sem, Nat.reduceAdd, Nat.reduceMul, Nat.reduceEqDiff, Nat.reduceLeDiff, Nat.reduceLT, Nat.reduceBEq, reduceCtorEq, reduceIte, IV, sts_cons, sts_nil, obs_cons, obs_nil]
  · rintro i4 x5 ⟨⟩ ⟨sl, ob, n⟩ y1 hx2 hI3 hW4 h hy1
    simp only [IV, sts_cons, sts_nil, obs_cons, obs_nil, and_true, true_and, Nat.reduceAdd, str_len] at hI3
    obtain ⟨⟨g5_6, g5_7, g5_8⟩, hn⟩ := hI3
    subst hn
    have hlhx2 := WF.slotL hW4 g5_6 (j := 0) rfl
    simp only [go_sem, Nat.reduceAdd, Nat.reduceMul, Nat.reduceEqDiff, Nat.reduceLeDiff, Nat.reduceLT, Nat.reduceBEq, reduceCtorEq, reduceIte, hx2, lt_t hx2, lt_p hx2, nat_in (lt_n hx2) hlhx2, g5_6, g5_7, g5_8]
    refine ite_K h (fun c6 h => ?_) (fun c6 h => ?_)
    · replace h := inr_K h hy1
      obtain rfl := Option.some.inj h
      simp only [go_sem, Nat.reduceAdd, Nat.reduceMul, Nat.reduceEqDiff, Nat.reduceLeDiff, Nat.reduceLT, Nat.reduceBEq, reduceCtorEq, reduceIte, hx2, lt_t hx2, lt_p hx2, nat_in (lt_n hx2) hlhx2, c6, g5_6, g5_7, g5_8]
    · simp only [go_sem, Nat.reduceAdd, Nat.reduceMul, Nat.reduceEqDiff, Nat.reduceLeDiff, Nat.reduceLT, Nat.reduceBEq, reduceCtorEq, reduceIte, hx2, lt_t hx2, lt_p hx2, nat_in (lt_n hx2) hlhx2, c6, g5_6, g5_7, g5_8]
      refine ⟨_, [], [], (Option.some.inj h).symm, by decide, ?_⟩
      simp only [go_sem, Nat.reduceAdd, Nat.reduceMul, Nat.reduceEqDiff, Nat.reduceLeDiff, Nat.reduceLT, Nat.reduceBEq, reduceCtorEq, reduceIte, hx2, lt_t hx2, lt_p hx2, nat_in (lt_n hx2) hlhx2, c6, g5_6, g5_7, g5_8, IV, sts_cons, sts_nil, obs_cons, obs_nil]
  · rintro ⟨⟩ ⟨sl, ob, n⟩ hI7 hW8 h
    simp only [IV, sts_cons, sts_nil, obs_cons, obs_nil, and_true, true_and, Nat.reduceAdd, str_len] at hI7
    obtain ⟨⟨g9_6, g9_7, g9_8⟩, hn⟩ := hI7
    subst hn
    obtain rfl := Option.some.inj h
    simp only [go_sem, Nat.reduceAdd, Nat.reduceMul, Nat.reduceEqDiff, Nat.reduceLeDiff, Nat.reduceLT, Nat.reduceBEq, reduceCtorEq, reduceIte, lt_f (r_0.thn.length), g9_6, g9_7, g9_8]
end Go.Proofs.Ytgempkloppgnmaa

namespace Go.Proofs.Ytgempkloppgnmaa
open Go.Proofs.Try
set_option linter.unusedSimpArgs false
set_option linter.unusedVariables false
set_option maxRecDepth 10000
set_option maxHeartbeats 4000000
theorem s_IsAtom_ok {s_0 : ByteArray} {r : Bool} (h : s_IsAtom s_0 = some r) : Sound Try.prog J0 167 [(false, [.str s_0])] [(false, [(false, .bool r)])] := by
  refine fnk Try.func167 (by kernel_rfl) rfl (by kernel_rfl) (by kernel_rfl) ?_
  unfold s_IsAtom at h
  simp only [fnS, f167, argSt, go_sem, Nat.reduceAdd, Nat.reduceMul, Nat.reduceEqDiff, Nat.reduceLeDiff, Nat.reduceLT, Nat.reduceBEq, reduceCtorEq, reduceIte]
  refine swp_for h (fun i _ st => IV [(0, .p false [.c (.str s_0)]), (3, .p false [.c (.int .i64 ((i : Nat) : Int))])] [] st) [] [] (by decide) ?_ ?_ ?_
  · simp only [go_sem, Nat.reduceAdd, Nat.reduceMul, Nat.reduceEqDiff, Nat.reduceLeDiff, Nat.reduceLT, Nat.reduceBEq, reduceCtorEq, reduceIte, IV, sts_cons, sts_nil, obs_cons, obs_nil]
  · rintro i9 x10 ⟨⟩ ⟨sl, ob, n⟩ y1 hx2 hI3 hW4 h hy1
    simp only [IV, sts_cons, sts_nil, obs_cons, obs_nil, and_true, true_and, Nat.reduceAdd, str_len] at hI3
    obtain ⟨⟨g5_0, g5_3⟩, hn⟩ := hI3
    subst hn
    have hlhx2 := WF.slotS hW4 g5_0 (j := 0) rfl
    simp only [go_sem, Nat.reduceAdd, Nat.reduceMul, Nat.reduceEqDiff, Nat.reduceLeDiff, Nat.reduceLT, Nat.reduceBEq, reduceCtorEq, reduceIte, str_at hx2, slt_t hx2, nat_in (slt_n hx2) hlhx2, g5_0, g5_3]
    obtain ⟨v11, e6, h⟩ := bind_K h
    refine call_K (by first | exact s_l1In_ok e6 | simpa only [go_sem, Nat.reduceAdd, Nat.reduceMul, Nat.reduceEqDiff, Nat.reduceLeDiff, Nat.reduceLT, Nat.reduceBEq, reduceCtorEq, reduceIte, str_at hx2, slt_t hx2, nat_in (slt_n hx2) hlhx2, g5_0, g5_3] using s_l1In_ok e6) ?_
    simp only [go_sem, Nat.reduceAdd, Nat.reduceMul, Nat.reduceEqDiff, Nat.reduceLeDiff, Nat.reduceLT, Nat.reduceBEq, reduceCtorEq, reduceIte, str_at hx2, slt_t hx2, nat_in (slt_n hx2) hlhx2, g5_0, g5_3]
    refine ite_K h (fun c7 h => ?_) (fun c7 h => ?_)
    · simp only [go_sem, Nat.reduceAdd, Nat.reduceMul, Nat.reduceEqDiff, Nat.reduceLeDiff, Nat.reduceLT, Nat.reduceBEq, reduceCtorEq, reduceIte, str_at hx2, slt_t hx2, nat_in (slt_n hx2) hlhx2, c7, g5_0, g5_3]
      refine ⟨_, [], [], (Option.some.inj h).symm, by decide, ?_⟩
      simp only [go_sem, Nat.reduceAdd, Nat.reduceMul, Nat.reduceEqDiff, Nat.reduceLeDiff, Nat.reduceLT, Nat.reduceBEq, reduceCtorEq, reduceIte, str_at hx2, slt_t hx2, nat_in (slt_n hx2) hlhx2, c7, g5_0, g5_3, IV, sts_cons, sts_nil, obs_cons, obs_nil]
    · simp only [go_sem, Nat.reduceAdd, Nat.reduceMul, Nat.reduceEqDiff, Nat.reduceLeDiff, Nat.reduceLT, Nat.reduceBEq, reduceCtorEq, reduceIte, str_at hx2, slt_t hx2, nat_in (slt_n hx2) hlhx2, c7, g5_0, g5_3]
      obtain ⟨v12, e8, h⟩ := bind_K h
      refine call_K (by first | exact s_l1In_ok e8 | simpa only [go_sem, Nat.reduceAdd, Nat.reduceMul, Nat.reduceEqDiff, Nat.reduceLeDiff, Nat.reduceLT, Nat.reduceBEq, reduceCtorEq, reduceIte, str_at hx2, slt_t hx2, nat_in (slt_n hx2) hlhx2, c7, g5_0, g5_3] using s_l1In_ok e8) ?_
      simp only [go_sem, Nat.reduceAdd, Nat.reduceMul, Nat.reduceEqDiff, Nat.reduceLeDiff, Nat.reduceLT, Nat.reduceBEq, reduceCtorEq, reduceIte, str_at hx2, slt_t hx2, nat_in (slt_n hx2) hlhx2, c7, g5_0, g5_3]
      refine ite_K h (fun c9 h => ?_) (fun c9 h => ?_)
      · simp only [go_sem, Nat.reduceAdd, Nat.reduceMul, Nat.reduceEqDiff, Nat.reduceLeDiff, Nat.reduceLT, Nat.reduceBEq, reduceCtorEq, reduceIte, str_at hx2, slt_t hx2, nat_in (slt_n hx2) hlhx2, c7, c9, g5_0, g5_3]
        refine ⟨_, [], [], (Option.some.inj h).symm, by decide, ?_⟩
        simp only [go_sem, Nat.reduceAdd, Nat.reduceMul, Nat.reduceEqDiff, Nat.reduceLeDiff, Nat.reduceLT, Nat.reduceBEq, reduceCtorEq, reduceIte, str_at hx2, slt_t hx2, nat_in (slt_n hx2) hlhx2, c7, c9, g5_0, g5_3, IV, sts_cons, sts_nil, obs_cons, obs_nil]
      · replace h := inr_K h hy1
        obtain rfl := Option.some.inj h
        simp only [go_sem, Nat.reduceAdd, Nat.reduceMul, Nat.reduceEqDiff, Nat.reduceLeDiff, Nat.reduceLT, Nat.reduceBEq, reduceCtorEq, reduceIte, str_at hx2, slt_t hx2, nat_in (slt_n hx2) hlhx2, c7, c9, g5_0, g5_3]
  · rintro ⟨⟩ ⟨sl, ob, n⟩ hI10 hW11 h
    simp only [IV, sts_cons, sts_nil, obs_cons, obs_nil, and_true, true_and, Nat.reduceAdd, str_len] at hI10
    obtain ⟨⟨g12_0, g12_3⟩, hn⟩ := hI10
    subst hn
    simp only [go_sem, Nat.reduceAdd, Nat.reduceMul, Nat.reduceEqDiff, Nat.reduceLeDiff, Nat.reduceLT, Nat.reduceBEq, reduceCtorEq, reduceIte, lt_f (s_0.size), g12_0, g12_3]
    obtain ⟨v13, e13, h⟩ := bind_K h
    refine call_K (by first | exact s_l1In_ok e13 | simpa only [go_sem, Nat.reduceAdd, Nat.reduceMul, Nat.reduceEqDiff, Nat.reduceLeDiff, Nat.reduceLT, Nat.reduceBEq, reduceCtorEq, reduceIte, lt_f (s_0.size), g12_0, g12_3] using s_l1In_ok e13) ?_
    obtain rfl := Option.some.inj h
    simp only [go_sem, Nat.reduceAdd, Nat.reduceMul, Nat.reduceEqDiff, Nat.reduceLeDiff, Nat.reduceLT, Nat.reduceBEq, reduceCtorEq, reduceIte, lt_f (s_0.size), g12_0, g12_3]
end Go.Proofs.Ytgempkloppgnmaa

namespace Go.Proofs.Ytgempkloppgnmaa
open Go.Proofs.Try
set_option linter.unusedSimpArgs false
set_option linter.unusedVariables false
set_option maxRecDepth 10000
set_option maxHeartbeats 4000000
theorem i_IsVar_ok {s_0 : ByteArray} {r : Bool} (h : i_IsVar s_0 = some r) : Sound Try.prog J0 176 [(false, [.str s_0])] [(false, [(false, .bool r)])] := by
  refine fnk Try.func176 (by kernel_rfl) rfl (by kernel_rfl) (by kernel_rfl) ?_
  unfold i_IsVar at h
  simp only [fnS, f176, argSt, go_sem, Nat.reduceAdd, Nat.reduceMul, Nat.reduceEqDiff, Nat.reduceLeDiff, Nat.reduceLT, Nat.reduceBEq, reduceCtorEq, reduceIte]
  refine ite_K h (fun c1 h => ?_) (fun c1 h => ?_)
  · obtain ⟨b1, a2, e3, h⟩ := sat_K h
    simp only [go_sem, Nat.reduceAdd, Nat.reduceMul, Nat.reduceEqDiff, Nat.reduceLeDiff, Nat.reduceLT, Nat.reduceBEq, reduceCtorEq, reduceIte, c1, a2, e3]
    refine ite_K h (fun c4 h => ?_) (fun c4 h => ?_)
    · obtain ⟨p5, h⟩ := chk_K h
      simp only [go_sem, Nat.reduceAdd, Nat.reduceMul, Nat.reduceEqDiff, Nat.reduceLeDiff, Nat.reduceLT, Nat.reduceBEq, reduceCtorEq, reduceIte, c1, a2, e3, c4, p5.1, p5.2]
      obtain ⟨v2, e6, h⟩ := bind_K h
      refine call_K (by first | exact i_IsAtom_ok e6 | simpa only [go_sem, Nat.reduceAdd, Nat.reduceMul, Nat.reduceEqDiff, Nat.reduceLeDiff, Nat.reduceLT, Nat.reduceBEq, reduceCtorEq, reduceIte, c1, a2, e3, c4, p5.1, p5.2] using i_IsAtom_ok e6) ?_
      obtain rfl := Option.some.inj h
      simp only [go_sem, Nat.reduceAdd, Nat.reduceMul, Nat.reduceEqDiff, Nat.reduceLeDiff, Nat.reduceLT, Nat.reduceBEq, reduceCtorEq, reduceIte, c1, a2, e3, c4, p5.1, p5.2]
    · obtain rfl := Option.some.inj h
      simp only [go_sem, Nat.reduceAdd, Nat.reduceMul, Nat.reduceEqDiff, Nat.reduceLeDiff, Nat.reduceLT, Nat.reduceBEq, reduceCtorEq, reduceIte, c1, a2, e3, c4]
  · obtain rfl := Option.some.inj h
    simp only [go_sem, Nat.reduceAdd, Nat.reduceMul, Nat.reduceEqDiff, Nat.reduceLeDiff, Nat.reduceLT, Nat.reduceBEq, reduceCtorEq, reduceIte, c1]
theorem i_IsName_ok {s_0 : ByteArray} {r : Bool} (h : i_IsName s_0 = some r) : Sound Try.prog J0 137 [(false, [.str s_0])] [(false, [(false, .bool r)])] := by
  refine fnk Try.func137 (by kernel_rfl) rfl (by kernel_rfl) (by kernel_rfl) ?_
  unfold i_IsName at h
  simp only [fnS, f137, argSt, go_sem, Nat.reduceAdd, Nat.reduceMul, Nat.reduceEqDiff, Nat.reduceLeDiff, Nat.reduceLT, Nat.reduceBEq, reduceCtorEq, reduceIte]
  obtain ⟨v1, e1, h⟩ := bind_K h
  refine call_K (by first | exact i_IsAtom_ok e1 | simpa only [go_sem, Nat.reduceAdd, Nat.reduceMul, Nat.reduceEqDiff, Nat.reduceLeDiff, Nat.reduceLT, Nat.reduceBEq, reduceCtorEq, reduceIte] using i_IsAtom_ok e1) ?_
  simp only [go_sem, Nat.reduceAdd, Nat.reduceMul, Nat.reduceEqDiff, Nat.reduceLeDiff, Nat.reduceLT, Nat.reduceBEq, reduceCtorEq, reduceIte]
  refine ite_K h (fun c2 h => ?_) (fun c2 h => ?_)
  · obtain ⟨b2, a3, e4, h⟩ := sat_K h
    obtain rfl := Option.some.inj h
    simp only [go_sem, Nat.reduceAdd, Nat.reduceMul, Nat.reduceEqDiff, Nat.reduceLeDiff, Nat.reduceLT, Nat.reduceBEq, reduceCtorEq, reduceIte, c2, a3, e4]
  · obtain rfl := Option.some.inj h
    simp only [go_sem, Nat.reduceAdd, Nat.reduceMul, Nat.reduceEqDiff, Nat.reduceLeDiff, Nat.reduceLT, Nat.reduceBEq, reduceCtorEq, reduceIte, c2]
theorem i_termsOf_ok {x_0 : CondD} {r : (List ByteArray)} (h : i_termsOf x_0 = some r) : Sound Try.prog J0 149 [(true, eCond x_0)] [(false, [(false, .sl 9 1 (List.map eStr r))])] := by
  refine fnk Try.func149 (by kernel_rfl) rfl (by kernel_rfl) (by kernel_rfl) ?_
  unfold i_termsOf at h
  simp only [fnS, f149, argSt, go_sem, Nat.reduceAdd, Nat.reduceMul, Nat.reduceEqDiff, Nat.reduceLeDiff, Nat.reduceLT, Nat.reduceBEq, reduceCtorEq, reduceIte]
  obtain ⟨v1, e1, h⟩ := bind_K h
  refine call_K (by first | exact i_copyTexts_ok e1 | simpa only [go_sem, Nat.reduceAdd, Nat.reduceMul, Nat.reduceEqDiff, Nat.reduceLeDiff, Nat.reduceLT, Nat.reduceBEq, reduceCtorEq, reduceIte] using i_copyTexts_ok e1) ?_
  obtain ⟨p2, h⟩ := chk_K h
  try simp only [Nat.reduceLeDiff] at p2
  obtain rfl := Option.some.inj h
  simp only [go_sem, Nat.reduceAdd, Nat.reduceMul, Nat.reduceEqDiff, Nat.reduceLeDiff, Nat.reduceLT, Nat.reduceBEq, reduceCtorEq, reduceIte, p2]
theorem s_l14Bound_ok {a_0 : (List ByteArray)} {b_1 : (List ByteArray)} {r : Bool} (h : s_l14Bound a_0 b_1 = some r) : Sound Try.prog J0 87 [(false, [.sl 9 1 (List.map eStr a_0)]), (false, [.sl 9 1 (List.map eStr b_1)])] [(false, [(false, .bool r)])] := by
  refine fnk Try.func87 (by kernel_rfl) rfl (by kernel_rfl) (by kernel_rfl) ?_
  unfold s_l14Bound at h
  simp only [fnS, f87, argSt, go_sem, Nat.reduceAdd, Nat.reduceMul, Nat.reduceEqDiff, Nat.reduceLeDiff, Nat.reduceLT, Nat.reduceBEq, reduceCtorEq, reduceIte]
  refine swp_for h (fun i _ st => IV [(0, .p false [.c (.sl 9 1 (List.map eStr a_0))]), (1, .p false [.c (.sl 9 1 (List.map eStr b_1))]), (5, .p false [.c (.int .i64 ((i : Nat) : Int))])] [] st) [] [] (by decide) ?_ ?_ ?_
  · simp only [go_sem, Nat.reduceAdd, Nat.reduceMul, Nat.reduceEqDiff, Nat.reduceLeDiff, Nat.reduceLT, Nat.reduceBEq, reduceCtorEq, reduceIte, IV, sts_cons, sts_nil, obs_cons, obs_nil]
  · rintro i6 x7 ⟨⟩ ⟨sl, ob, n⟩ y1 hx2 hI3 hW4 h hy1
    simp only [IV, sts_cons, sts_nil, obs_cons, obs_nil, and_true, true_and, Nat.reduceAdd, str_len] at hI3
    obtain ⟨⟨g5_0, g5_1, g5_5⟩, hn⟩ := hI3
    subst hn
    have hlhx2 := WF.slotL hW4 g5_0 (j := 0) rfl
    simp only [go_sem, Nat.reduceAdd, Nat.reduceMul, Nat.reduceEqDiff, Nat.reduceLeDiff, Nat.reduceLT, Nat.reduceBEq, reduceCtorEq, reduceIte, hx2, lt_t hx2, lt_p hx2, nat_in (lt_n hx2) hlhx2, g5_0, g5_1, g5_5]
    obtain ⟨v8, e6, h⟩ := bind_K h
    refine call_K (by first | exact s_l1HasText_ok e6 | simpa only [go_sem, Nat.reduceAdd, Nat.reduceMul, Nat.reduceEqDiff, Nat.reduceLeDiff, Nat.reduceLT, Nat.reduceBEq, reduceCtorEq, reduceIte, hx2, lt_t hx2, lt_p hx2, nat_in (lt_n hx2) hlhx2, g5_0, g5_1, g5_5] using s_l1HasText_ok e6) ?_
    simp only [go_sem, Nat.reduceAdd, Nat.reduceMul, Nat.reduceEqDiff, Nat.reduceLeDiff, Nat.reduceLT, Nat.reduceBEq, reduceCtorEq, reduceIte, hx2, lt_t hx2, lt_p hx2, nat_in (lt_n hx2) hlhx2, g5_0, g5_1, g5_5]
    refine ite_K h (fun c7 h => ?_) (fun c7 h => ?_)
    · simp only [go_sem, Nat.reduceAdd, Nat.reduceMul, Nat.reduceEqDiff, Nat.reduceLeDiff, Nat.reduceLT, Nat.reduceBEq, reduceCtorEq, reduceIte, hx2, lt_t hx2, lt_p hx2, nat_in (lt_n hx2) hlhx2, c7, g5_0, g5_1, g5_5]
      refine ⟨_, [], [], (Option.some.inj h).symm, by decide, ?_⟩
      simp only [go_sem, Nat.reduceAdd, Nat.reduceMul, Nat.reduceEqDiff, Nat.reduceLeDiff, Nat.reduceLT, Nat.reduceBEq, reduceCtorEq, reduceIte, hx2, lt_t hx2, lt_p hx2, nat_in (lt_n hx2) hlhx2, c7, g5_0, g5_1, g5_5, IV, sts_cons, sts_nil, obs_cons, obs_nil]
    · replace h := inr_K h hy1
      obtain rfl := Option.some.inj h
      simp only [go_sem, Nat.reduceAdd, Nat.reduceMul, Nat.reduceEqDiff, Nat.reduceLeDiff, Nat.reduceLT, Nat.reduceBEq, reduceCtorEq, reduceIte, hx2, lt_t hx2, lt_p hx2, nat_in (lt_n hx2) hlhx2, c7, g5_0, g5_1, g5_5]
  · rintro ⟨⟩ ⟨sl, ob, n⟩ hI8 hW9 h
    simp only [IV, sts_cons, sts_nil, obs_cons, obs_nil, and_true, true_and, Nat.reduceAdd, str_len] at hI8
    obtain ⟨⟨g10_0, g10_1, g10_5⟩, hn⟩ := hI8
    subst hn
    obtain rfl := Option.some.inj h
    simp only [go_sem, Nat.reduceAdd, Nat.reduceMul, Nat.reduceEqDiff, Nat.reduceLeDiff, Nat.reduceLT, Nat.reduceBEq, reduceCtorEq, reduceIte, lt_f (a_0.length), g10_0, g10_1, g10_5]
end Go.Proofs.Ytgempkloppgnmaa

namespace Go.Proofs.Ytgempkloppgnmaa
open Go.Proofs.Try
set_option linter.unusedSimpArgs false
set_option linter.unusedVariables false
set_option maxRecDepth 10000
set_option maxHeartbeats 4000000
theorem s_IsVar_ok {s_0 : ByteArray} {r : Bool} (h : s_IsVar s_0 = some r) : Sound Try.prog J0 147 [(false, [.str s_0])] [(false, [(false, .bool r)])] := by
  refine fnk Try.func147 (by kernel_rfl) rfl (by kernel_rfl) (by kernel_rfl) ?_
  unfold s_IsVar at h
  simp only [fnS, f147, argSt, go_sem, Nat.reduceAdd, Nat.reduceMul, Nat.reduceEqDiff, Nat.reduceLeDiff, Nat.reduceLT, Nat.reduceBEq, reduceCtorEq, reduceIte]
  refine ite_K h (fun c1 h => ?_) (fun c1 h => ?_)
  · obtain ⟨b1, a2, e3, h⟩ := sat_K h
    simp only [go_sem, Nat.reduceAdd, Nat.reduceMul, Nat.reduceEqDiff, Nat.reduceLeDiff, Nat.reduceLT, Nat.reduceBEq, reduceCtorEq, reduceIte, c1, a2, e3]
    refine ite_K h (fun c4 h => ?_) (fun c4 h => ?_)
    · obtain ⟨p5, h⟩ := chk_K h
      simp only [go_sem, Nat.reduceAdd, Nat.reduceMul, Nat.reduceEqDiff, Nat.reduceLeDiff, Nat.reduceLT, Nat.reduceBEq, reduceCtorEq, reduceIte, c1, a2, e3, c4, p5.1, p5.2]
      obtain ⟨v2, e6, h⟩ := bind_K h
      refine call_K (by first | exact s_IsAtom_ok e6 | simpa only [go_sem, Nat.reduceAdd, Nat.reduceMul, Nat.reduceEqDiff, Nat.reduceLeDiff, Nat.reduceLT, Nat.reduceBEq, reduceCtorEq, reduceIte, c1, a2, e3, c4, p5.1, p5.2] using s_IsAtom_ok e6) ?_
      obtain rfl := Option.some.inj h
      simp only [go_sem, Nat.reduceAdd, Nat.reduceMul, Nat.reduceEqDiff, Nat.reduceLeDiff, Nat.reduceLT, Nat.reduceBEq, reduceCtorEq, reduceIte, c1, a2, e3, c4, p5.1, p5.2]
    · obtain rfl := Option.some.inj h
      simp only [go_sem, Nat.reduceAdd, Nat.reduceMul, Nat.reduceEqDiff, Nat.reduceLeDiff, Nat.reduceLT, Nat.reduceBEq, reduceCtorEq, reduceIte, c1, a2, e3, c4]
  · obtain rfl := Option.some.inj h
    simp only [go_sem, Nat.reduceAdd, Nat.reduceMul, Nat.reduceEqDiff, Nat.reduceLeDiff, Nat.reduceLT, Nat.reduceBEq, reduceCtorEq, reduceIte, c1]
theorem s_IsName_ok {s_0 : ByteArray} {r : Bool} (h : s_IsName s_0 = some r) : Sound Try.prog J0 128 [(false, [.str s_0])] [(false, [(false, .bool r)])] := by
  refine fnk Try.func128 (by kernel_rfl) rfl (by kernel_rfl) (by kernel_rfl) ?_
  unfold s_IsName at h
  simp only [fnS, f128, argSt, go_sem, Nat.reduceAdd, Nat.reduceMul, Nat.reduceEqDiff, Nat.reduceLeDiff, Nat.reduceLT, Nat.reduceBEq, reduceCtorEq, reduceIte]
  obtain ⟨v1, e1, h⟩ := bind_K h
  refine call_K (by first | exact s_IsAtom_ok e1 | simpa only [go_sem, Nat.reduceAdd, Nat.reduceMul, Nat.reduceEqDiff, Nat.reduceLeDiff, Nat.reduceLT, Nat.reduceBEq, reduceCtorEq, reduceIte] using s_IsAtom_ok e1) ?_
  simp only [go_sem, Nat.reduceAdd, Nat.reduceMul, Nat.reduceEqDiff, Nat.reduceLeDiff, Nat.reduceLT, Nat.reduceBEq, reduceCtorEq, reduceIte]
  refine ite_K h (fun c2 h => ?_) (fun c2 h => ?_)
  · obtain ⟨b2, a3, e4, h⟩ := sat_K h
    simp only [go_sem, Nat.reduceAdd, Nat.reduceMul, Nat.reduceEqDiff, Nat.reduceLeDiff, Nat.reduceLT, Nat.reduceBEq, reduceCtorEq, reduceIte, c2, a3, e4]
    obtain ⟨v3, e5, h⟩ := bind_K h
    refine call_K (by first | exact s_l1In_ok e5 | simpa only [go_sem, Nat.reduceAdd, Nat.reduceMul, Nat.reduceEqDiff, Nat.reduceLeDiff, Nat.reduceLT, Nat.reduceBEq, reduceCtorEq, reduceIte, c2, a3, e4] using s_l1In_ok e5) ?_
    obtain rfl := Option.some.inj h
    simp only [go_sem, Nat.reduceAdd, Nat.reduceMul, Nat.reduceEqDiff, Nat.reduceLeDiff, Nat.reduceLT, Nat.reduceBEq, reduceCtorEq, reduceIte, c2, a3, e4]
  · obtain rfl := Option.some.inj h
    simp only [go_sem, Nat.reduceAdd, Nat.reduceMul, Nat.reduceEqDiff, Nat.reduceLeDiff, Nat.reduceLT, Nat.reduceBEq, reduceCtorEq, reduceIte, c2]
theorem i_varsAmong_ok {l_0 : (List ByteArray)} {r : (List ByteArray)} (h : i_varsAmong l_0 = some r) : Sound Try.prog J0 141 [(false, [.sl 9 1 (List.map eStr l_0)])] [(false, [(false, .sl 9 1 (List.map eStr r))])] := by
  refine fnk Try.func141 (by kernel_rfl) rfl (by kernel_rfl) (by kernel_rfl) ?_
  unfold i_varsAmong at h
  simp only [fnS, f141, argSt, go_sem, Nat.reduceAdd, Nat.reduceMul, Nat.reduceEqDiff, Nat.reduceLeDiff, Nat.reduceLT, Nat.reduceBEq, reduceCtorEq, reduceIte]
  refine swp_for h (fun i row_5 st => IV [(3, .p false [.row 0]), (6, .p false [.c (.sl 9 1 (List.map eStr l_0))]), (7, .p false [.c (.int .i64 ((l_0.length : Nat) : Int))]), (8, .p false [.c (.int .i64 ((i : Nat) : Int))])] [.row 9 1 (List.map eStr row_5) 2] st) [(false, 3, 0)] [80] (by decide) ?_ ?_ ?_
  · simp only [go_sem, Nat.reduceAdd, Nat.reduceMul, Nat.reduceEqDiff, Nat.reduceLeDiff, Nat.reduceLT, Nat.reduceBEq, reduceCtorEq, reduceIte, IV, sts_cons, sts_nil, obs_cons, obs_nil]
  · rintro i9 x10 row_5 ⟨sl, ob, n⟩ y1 hx2 hI3 hW4 h hy1
    simp only [IV, sts_cons, sts_nil, obs_cons, obs_nil, and_true, true_and, Nat.reduceAdd, str_len] at hI3
    obtain ⟨⟨g5_3, g5_6, g5_7, g5_8⟩, og5_0, hn⟩ := hI3
    subst hn
    have hlhx2 := WF.slotL hW4 g5_6 (j := 0) rfl
    simp only [go_sem, Nat.reduceAdd, Nat.reduceMul, Nat.reduceEqDiff, Nat.reduceLeDiff, Nat.reduceLT, Nat.reduceBEq, reduceCtorEq, reduceIte, hx2, lt_t hx2, lt_p hx2, nat_in (lt_n hx2) hlhx2, g5_3, g5_6, g5_7, g5_8, og5_0]
    obtain ⟨v11, e6, h⟩ := bind_K h
    refine call_K (by first | exact i_IsVar_ok e6 | simpa only [go_sem, Nat.reduceAdd, Nat.reduceMul, Nat.reduceEqDiff, Nat.reduceLeDiff, Nat.reduceLT, Nat.reduceBEq, reduceCtorEq, reduceIte, hx2, lt_t hx2, lt_p hx2, nat_in (lt_n hx2) hlhx2, g5_3, g5_6, g5_7, g5_8, og5_0] using i_IsVar_ok e6) ?_
    simp only [go_sem, Nat.reduceAdd, Nat.reduceMul, Nat.reduceEqDiff, Nat.reduceLeDiff, Nat.reduceLT, Nat.reduceBEq, reduceCtorEq, reduceIte, hx2, lt_t hx2, lt_p hx2, nat_in (lt_n hx2) hlhx2, g5_3, g5_6, g5_7, g5_8, og5_0]
    refine ite_K h (fun c7 h => ?_) (fun c7 h => ?_)
    · obtain ⟨p8, h⟩ := chk_K h
      try simp only [Nat.reduceLeDiff] at p8
      simp only [go_sem, Nat.reduceAdd, Nat.reduceMul, Nat.reduceEqDiff, Nat.reduceLeDiff, Nat.reduceLT, Nat.reduceBEq, reduceCtorEq, reduceIte, hx2, lt_t hx2, lt_p hx2, nat_in (lt_n hx2) hlhx2, c7, p8, g5_3, g5_6, g5_7, g5_8, og5_0]
      refine ⟨_, [], [145], (Option.some.inj h).symm, by decide, ?_⟩
      simp only [go_sem, Nat.reduceAdd, Nat.reduceMul, Nat.reduceEqDiff, Nat.reduceLeDiff, Nat.reduceLT, Nat.reduceBEq, reduceCtorEq, reduceIte, hx2, lt_t hx2, lt_p hx2, nat_in (lt_n hx2) hlhx2, c7, p8, g5_3, g5_6, g5_7, g5_8, og5_0, IV, sts_cons, sts_nil, obs_cons, obs_nil]
    · simp only [go_sem, Nat.reduceAdd, Nat.reduceMul, Nat.reduceEqDiff, Nat.reduceLeDiff, Nat.reduceLT, Nat.reduceBEq, reduceCtorEq, reduceIte, hx2, lt_t hx2, lt_p hx2, nat_in (lt_n hx2) hlhx2, c7, g5_3, g5_6, g5_7, g5_8, og5_0]
      refine ⟨_, [], [0], (Option.some.inj h).symm, by decide, ?_⟩
      simp only [go_sem, Nat.reduceAdd, Nat.reduceMul, Nat.reduceEqDiff, Nat.reduceLeDiff, Nat.reduceLT, Nat.reduceBEq, reduceCtorEq, reduceIte, hx2, lt_t hx2, lt_p hx2, nat_in (lt_n hx2) hlhx2, c7, g5_3, g5_6, g5_7, g5_8, og5_0, IV, sts_cons, sts_nil, obs_cons, obs_nil]
  · rintro row_5 ⟨sl, ob, n⟩ hI9 hW10 h
    simp only [IV, sts_cons, sts_nil, obs_cons, obs_nil, and_true, true_and, Nat.reduceAdd, str_len] at hI9
    obtain ⟨⟨g11_3, g11_6, g11_7, g11_8⟩, og11_0, hn⟩ := hI9
    subst hn
    obtain rfl := Option.some.inj h
    simp only [go_sem, Nat.reduceAdd, Nat.reduceMul, Nat.reduceEqDiff, Nat.reduceLeDiff, Nat.reduceLT, Nat.reduceBEq, reduceCtorEq, reduceIte, lt_f (l_0.length), g11_3, g11_6, g11_7, g11_8, og11_0]
theorem i_IsTerm_ok {s_0 : ByteArray} {r : Bool} (h : i_IsTerm s_0 = some r) : Sound Try.prog J0 173 [(false, [.str s_0])] [(false, [(false, .bool r)])] := by
  refine fnk Try.func173 (by kernel_rfl) rfl (by kernel_rfl) (by kernel_rfl) ?_
  unfold i_IsTerm at h
  simp only [fnS, f173, argSt, go_sem, Nat.reduceAdd, Nat.reduceMul, Nat.reduceEqDiff, Nat.reduceLeDiff, Nat.reduceLT, Nat.reduceBEq, reduceCtorEq, reduceIte]
  obtain ⟨v1, e1, h⟩ := bind_K h
  refine call_K (by first | exact i_IsAtom_ok e1 | simpa only [go_sem, Nat.reduceAdd, Nat.reduceMul, Nat.reduceEqDiff, Nat.reduceLeDiff, Nat.reduceLT, Nat.reduceBEq, reduceCtorEq, reduceIte] using i_IsAtom_ok e1) ?_
  simp only [go_sem, Nat.reduceAdd, Nat.reduceMul, Nat.reduceEqDiff, Nat.reduceLeDiff, Nat.reduceLT, Nat.reduceBEq, reduceCtorEq, reduceIte]
  refine ite_K h (fun c2 h => ?_) (fun c2 h => ?_)
  · obtain rfl := Option.some.inj h
    simp only [go_sem, Nat.reduceAdd, Nat.reduceMul, Nat.reduceEqDiff, Nat.reduceLeDiff, Nat.reduceLT, Nat.reduceBEq, reduceCtorEq, reduceIte, c2]
  · simp only [go_sem, Nat.reduceAdd, Nat.reduceMul, Nat.reduceEqDiff, Nat.reduceLeDiff, Nat.reduceLT, Nat.reduceBEq, reduceCtorEq, reduceIte, c2]
    obtain ⟨v2, e3, h⟩ := bind_K h
    refine call_K (by first | exact i_IsVar_ok e3 | simpa only [go_sem, Nat.reduceAdd, Nat.reduceMul, Nat.reduceEqDiff, Nat.reduceLeDiff, Nat.reduceLT, Nat.reduceBEq, reduceCtorEq, reduceIte, c2] using i_IsVar_ok e3) ?_
    obtain rfl := Option.some.inj h
    simp only [go_sem, Nat.reduceAdd, Nat.reduceMul, Nat.reduceEqDiff, Nat.reduceLeDiff, Nat.reduceLT, Nat.reduceBEq, reduceCtorEq, reduceIte, c2]
end Go.Proofs.Ytgempkloppgnmaa

namespace Go.Proofs.Ytgempkloppgnmaa
open Go.Proofs.Try
set_option linter.unusedSimpArgs false
set_option linter.unusedVariables false
set_option maxRecDepth 10000
set_option maxHeartbeats 4000000
theorem s_VarsOf_ok {p_0 : PatternD} {r : (List ByteArray)} (h : s_VarsOf p_0 = some r) : Sound Try.prog J0 133 [(true, ePattern p_0)] [(false, [(false, .sl 9 1 (List.map eStr r))])] := by
  refine fnk Try.func133 (by kernel_rfl) rfl (by kernel_rfl) (by kernel_rfl) ?_
  unfold s_VarsOf at h
  simp only [fnS, f133, argSt, go_sem, Nat.reduceAdd, Nat.reduceMul, Nat.reduceEqDiff, Nat.reduceLeDiff, Nat.reduceLT, Nat.reduceBEq, reduceCtorEq, reduceIte]
  refine swp_for h (fun i row_4 st => IV [(1, .bp 0 0), (3, .p false [.row 1]), (4, .p false [.c (.int .i64 ((i : Nat) : Int))])] [.box 118 [.c (.str p_0.rel), .c (.sl 9 1 (List.map eStr p_0.args))], .row 9 1 (List.map eStr row_4) 2] st) [] [0, 32] (by decide) ?_ ?_ ?_
  · simp only [go_sem, Nat.reduceAdd, Nat.reduceMul, Nat.reduceEqDiff, Nat.reduceLeDiff, Nat.reduceLT, Nat.reduceBEq, reduceCtorEq, reduceIte, IV, sts_cons, sts_nil, obs_cons, obs_nil]
  · rintro i9 x10 row_4 ⟨sl, ob, n⟩ y1 hx2 hI3 hW4 h hy1
    simp only [IV, sts_cons, sts_nil, obs_cons, obs_nil, and_true, true_and, Nat.reduceAdd, str_len] at hI3
    obtain ⟨⟨g5_1, g5_3, g5_4⟩, og5_0, og5_1, hn⟩ := hI3
    subst hn
    have hlhx2 := WF.boxL hW4 og5_0 (j := 1) rfl
    simp only [go_sem, Nat.reduceAdd, Nat.reduceMul, Nat.reduceEqDiff, Nat.reduceLeDiff, Nat.reduceLT, Nat.reduceBEq, reduceCtorEq, reduceIte, hx2, lt_t hx2, lt_p hx2, nat_in (lt_n hx2) hlhx2, g5_1, g5_3, g5_4, og5_0, og5_1]
    obtain ⟨v11, e6, h⟩ := bind_K h
    refine call_K (by first | exact s_IsVar_ok e6 | simpa only [go_sem, Nat.reduceAdd, Nat.reduceMul, Nat.reduceEqDiff, Nat.reduceLeDiff, Nat.reduceLT, Nat.reduceBEq, reduceCtorEq, reduceIte, hx2, lt_t hx2, lt_p hx2, nat_in (lt_n hx2) hlhx2, g5_1, g5_3, g5_4, og5_0, og5_1] using s_IsVar_ok e6) ?_
    simp only [go_sem, Nat.reduceAdd, Nat.reduceMul, Nat.reduceEqDiff, Nat.reduceLeDiff, Nat.reduceLT, Nat.reduceBEq, reduceCtorEq, reduceIte, hx2, lt_t hx2, lt_p hx2, nat_in (lt_n hx2) hlhx2, g5_1, g5_3, g5_4, og5_0, og5_1]
    refine ite_K h (fun c7 h => ?_) (fun c7 h => ?_)
    · simp only [go_sem, Nat.reduceAdd, Nat.reduceMul, Nat.reduceEqDiff, Nat.reduceLeDiff, Nat.reduceLT, Nat.reduceBEq, reduceCtorEq, reduceIte, hx2, lt_t hx2, lt_p hx2, nat_in (lt_n hx2) hlhx2, c7, g5_1, g5_3, g5_4, og5_0, og5_1]
      obtain ⟨v12, e8, h⟩ := bind_K h
      refine call_K (by first | exact s_l1Put_ok e8 | simpa only [go_sem, Nat.reduceAdd, Nat.reduceMul, Nat.reduceEqDiff, Nat.reduceLeDiff, Nat.reduceLT, Nat.reduceBEq, reduceCtorEq, reduceIte, hx2, lt_t hx2, lt_p hx2, nat_in (lt_n hx2) hlhx2, c7, g5_1, g5_3, g5_4, og5_0, og5_1] using s_l1Put_ok e8) ?_
      simp only [go_sem, Nat.reduceAdd, Nat.reduceMul, Nat.reduceEqDiff, Nat.reduceLeDiff, Nat.reduceLT, Nat.reduceBEq, reduceCtorEq, reduceIte, hx2, lt_t hx2, lt_p hx2, nat_in (lt_n hx2) hlhx2, c7, g5_1, g5_3, g5_4, og5_0, og5_1]
      refine ⟨_, [], [0, 274], (Option.some.inj h).symm, by decide, ?_⟩
      simp only [go_sem, Nat.reduceAdd, Nat.reduceMul, Nat.reduceEqDiff, Nat.reduceLeDiff, Nat.reduceLT, Nat.reduceBEq, reduceCtorEq, reduceIte, hx2, lt_t hx2, lt_p hx2, nat_in (lt_n hx2) hlhx2, c7, g5_1, g5_3, g5_4, og5_0, og5_1, IV, sts_cons, sts_nil, obs_cons, obs_nil]
    · simp only [go_sem, Nat.reduceAdd, Nat.reduceMul, Nat.reduceEqDiff, Nat.reduceLeDiff, Nat.reduceLT, Nat.reduceBEq, reduceCtorEq, reduceIte, hx2, lt_t hx2, lt_p hx2, nat_in (lt_n hx2) hlhx2, c7, g5_1, g5_3, g5_4, og5_0, og5_1]
      refine ⟨_, [], [0, 1], (Option.some.inj h).symm, by decide, ?_⟩
      simp only [go_sem, Nat.reduceAdd, Nat.reduceMul, Nat.reduceEqDiff, Nat.reduceLeDiff, Nat.reduceLT, Nat.reduceBEq, reduceCtorEq, reduceIte, hx2, lt_t hx2, lt_p hx2, nat_in (lt_n hx2) hlhx2, c7, g5_1, g5_3, g5_4, og5_0, og5_1, IV, sts_cons, sts_nil, obs_cons, obs_nil]
  · rintro row_4 ⟨sl, ob, n⟩ hI9 hW10 h
    simp only [IV, sts_cons, sts_nil, obs_cons, obs_nil, and_true, true_and, Nat.reduceAdd, str_len] at hI9
    obtain ⟨⟨g11_1, g11_3, g11_4⟩, og11_0, og11_1, hn⟩ := hI9
    subst hn
    obtain rfl := Option.some.inj h
    simp only [go_sem, Nat.reduceAdd, Nat.reduceMul, Nat.reduceEqDiff, Nat.reduceLeDiff, Nat.reduceLT, Nat.reduceBEq, reduceCtorEq, reduceIte, lt_f (p_0.args.length), g11_1, g11_3, g11_4, og11_0, og11_1]
theorem s_IsTerm_ok {s_0 : ByteArray} {r : Bool} (h : s_IsTerm s_0 = some r) : Sound Try.prog J0 169 [(false, [.str s_0])] [(false, [(false, .bool r)])] := by
  refine fnk Try.func169 (by kernel_rfl) rfl (by kernel_rfl) (by kernel_rfl) ?_
  unfold s_IsTerm at h
  simp only [fnS, f169, argSt, go_sem, Nat.reduceAdd, Nat.reduceMul, Nat.reduceEqDiff, Nat.reduceLeDiff, Nat.reduceLT, Nat.reduceBEq, reduceCtorEq, reduceIte]
  obtain ⟨v1, e1, h⟩ := bind_K h
  refine call_K (by first | exact s_IsAtom_ok e1 | simpa only [go_sem, Nat.reduceAdd, Nat.reduceMul, Nat.reduceEqDiff, Nat.reduceLeDiff, Nat.reduceLT, Nat.reduceBEq, reduceCtorEq, reduceIte] using s_IsAtom_ok e1) ?_
  simp only [go_sem, Nat.reduceAdd, Nat.reduceMul, Nat.reduceEqDiff, Nat.reduceLeDiff, Nat.reduceLT, Nat.reduceBEq, reduceCtorEq, reduceIte]
  refine ite_K h (fun c2 h => ?_) (fun c2 h => ?_)
  · obtain rfl := Option.some.inj h
    simp only [go_sem, Nat.reduceAdd, Nat.reduceMul, Nat.reduceEqDiff, Nat.reduceLeDiff, Nat.reduceLT, Nat.reduceBEq, reduceCtorEq, reduceIte, c2]
  · simp only [go_sem, Nat.reduceAdd, Nat.reduceMul, Nat.reduceEqDiff, Nat.reduceLeDiff, Nat.reduceLT, Nat.reduceBEq, reduceCtorEq, reduceIte, c2]
    obtain ⟨v2, e3, h⟩ := bind_K h
    refine call_K (by first | exact s_IsVar_ok e3 | simpa only [go_sem, Nat.reduceAdd, Nat.reduceMul, Nat.reduceEqDiff, Nat.reduceLeDiff, Nat.reduceLT, Nat.reduceBEq, reduceCtorEq, reduceIte, c2] using s_IsVar_ok e3) ?_
    obtain rfl := Option.some.inj h
    simp only [go_sem, Nat.reduceAdd, Nat.reduceMul, Nat.reduceEqDiff, Nat.reduceLeDiff, Nat.reduceLT, Nat.reduceBEq, reduceCtorEq, reduceIte, c2]
theorem i_BoundVars_ok {r_0 : RuleD} {n_1 : Int} {r : (List ByteArray)} (h : i_BoundVars r_0 n_1 = some r) : Sound Try.prog J0 92 [(true, eRule r_0), (false, [.int .i64 n_1])] [(false, [(false, .sl 9 1 (List.map eStr r))])] := by
  refine fnk Try.func92 (by kernel_rfl) rfl (by kernel_rfl) (by kernel_rfl) ?_
  unfold i_BoundVars at h
  simp only [fnS, f92, argSt, go_sem, Nat.reduceAdd, Nat.reduceMul, Nat.reduceEqDiff, Nat.reduceLeDiff, Nat.reduceLT, Nat.reduceBEq, reduceCtorEq, reduceIte]
  refine swp_for h (fun i row_5 st => IV [(1, .p false [.c (.int .i64 n_1)]), (5, .p false [.row 0]), (9, .p false [.c (.sl 120 5 (List.map eCond r_0.cond))]), (10, .p false [.c (.int .i64 ((r_0.cond.length : Nat) : Int))]), (11, .p false [.c (.int .i64 ((i : Nat) : Int))])] [.row 9 1 (List.map eStr row_5) 2] st) [(false, 5, 0)] [112] (by decide) ?_ ?_ ?_
  · simp only [go_sem, Nat.reduceAdd, Nat.reduceMul, Nat.reduceEqDiff, Nat.reduceLeDiff, Nat.reduceLT, Nat.reduceBEq, reduceCtorEq, reduceIte, IV, sts_cons, sts_nil, obs_cons, obs_nil]
  · rintro i10 x11 row_5 ⟨sl, ob, n⟩ y1 hx2 hI3 hW4 h hy1
    simp only [IV, sts_cons, sts_nil, obs_cons, obs_nil, and_true, true_and, Nat.reduceAdd, str_len] at hI3
    obtain ⟨⟨g5_1, g5_5, g5_9, g5_10, g5_11⟩, og5_0, hn⟩ := hI3
    subst hn
    have hlhx2 := WF.slotL hW4 g5_9 (j := 0) rfl
    simp only [go_sem, Nat.reduceAdd, Nat.reduceMul, Nat.reduceEqDiff, Nat.reduceLeDiff, Nat.reduceLT, Nat.reduceBEq, reduceCtorEq, reduceIte, hx2, lt_t hx2, lt_p hx2, nat_in (lt_n hx2) hlhx2, g5_1, g5_5, g5_9, g5_10, g5_11, og5_0]
    refine ite_K h (fun c6 h => ?_) (fun c6 h => ?_)
    · simp only [go_sem, Nat.reduceAdd, Nat.reduceMul, Nat.reduceEqDiff, Nat.reduceLeDiff, Nat.reduceLT, Nat.reduceBEq, reduceCtorEq, reduceIte, hx2, lt_t hx2, lt_p hx2, nat_in (lt_n hx2) hlhx2, c6, g5_1, g5_5, g5_9, g5_10, g5_11, og5_0]
      refine ite_K h (fun c7 h => ?_) (fun c7 h => ?_)
      · simp only [go_sem, Nat.reduceAdd, Nat.reduceMul, Nat.reduceEqDiff, Nat.reduceLeDiff, Nat.reduceLT, Nat.reduceBEq, reduceCtorEq, reduceIte, hx2, lt_t hx2, lt_p hx2, nat_in (lt_n hx2) hlhx2, c6, c7, g5_1, g5_5, g5_9, g5_10, g5_11, og5_0]
        obtain ⟨v12, e8, h⟩ := bind_K h
        refine call_K (by first | exact i_varsAmong_ok e8 | simpa only [go_sem, Nat.reduceAdd, Nat.reduceMul, Nat.reduceEqDiff, Nat.reduceLeDiff, Nat.reduceLT, Nat.reduceBEq, reduceCtorEq, reduceIte, hx2, lt_t hx2, lt_p hx2, nat_in (lt_n hx2) hlhx2, c6, c7, g5_1, g5_5, g5_9, g5_10, g5_11, og5_0] using i_varsAmong_ok e8) ?_
        obtain ⟨p9, h⟩ := chk_K h
        try simp only [Nat.reduceLeDiff] at p9
        simp only [go_sem, Nat.reduceAdd, Nat.reduceMul, Nat.reduceEqDiff, Nat.reduceLeDiff, Nat.reduceLT, Nat.reduceBEq, reduceCtorEq, reduceIte, hx2, lt_t hx2, lt_p hx2, nat_in (lt_n hx2) hlhx2, c6, c7, p9, g5_1, g5_5, g5_9, g5_10, g5_11, og5_0]
        refine ⟨_, [], [321], (Option.some.inj h).symm, by decide, ?_⟩
        simp only [go_sem, Nat.reduceAdd, Nat.reduceMul, Nat.reduceEqDiff, Nat.reduceLeDiff, Nat.reduceLT, Nat.reduceBEq, reduceCtorEq, reduceIte, hx2, lt_t hx2, lt_p hx2, nat_in (lt_n hx2) hlhx2, c6, c7, p9, g5_1, g5_5, g5_9, g5_10, g5_11, og5_0, IV, sts_cons, sts_nil, obs_cons, obs_nil]
      · simp only [go_sem, Nat.reduceAdd, Nat.reduceMul, Nat.reduceEqDiff, Nat.reduceLeDiff, Nat.reduceLT, Nat.reduceBEq, reduceCtorEq, reduceIte, hx2, lt_t hx2, lt_p hx2, nat_in (lt_n hx2) hlhx2, c6, c7, g5_1, g5_5, g5_9, g5_10, g5_11, og5_0]
        refine ⟨_, [], [0], (Option.some.inj h).symm, by decide, ?_⟩
        simp only [go_sem, Nat.reduceAdd, Nat.reduceMul, Nat.reduceEqDiff, Nat.reduceLeDiff, Nat.reduceLT, Nat.reduceBEq, reduceCtorEq, reduceIte, hx2, lt_t hx2, lt_p hx2, nat_in (lt_n hx2) hlhx2, c6, c7, g5_1, g5_5, g5_9, g5_10, g5_11, og5_0, IV, sts_cons, sts_nil, obs_cons, obs_nil]
    · simp only [go_sem, Nat.reduceAdd, Nat.reduceMul, Nat.reduceEqDiff, Nat.reduceLeDiff, Nat.reduceLT, Nat.reduceBEq, reduceCtorEq, reduceIte, hx2, lt_t hx2, lt_p hx2, nat_in (lt_n hx2) hlhx2, c6, g5_1, g5_5, g5_9, g5_10, g5_11, og5_0]
      refine ⟨_, [], [0], (Option.some.inj h).symm, by decide, ?_⟩
      simp only [go_sem, Nat.reduceAdd, Nat.reduceMul, Nat.reduceEqDiff, Nat.reduceLeDiff, Nat.reduceLT, Nat.reduceBEq, reduceCtorEq, reduceIte, hx2, lt_t hx2, lt_p hx2, nat_in (lt_n hx2) hlhx2, c6, g5_1, g5_5, g5_9, g5_10, g5_11, og5_0, IV, sts_cons, sts_nil, obs_cons, obs_nil]
  · rintro row_5 ⟨sl, ob, n⟩ hI10 hW11 h
    simp only [IV, sts_cons, sts_nil, obs_cons, obs_nil, and_true, true_and, Nat.reduceAdd, str_len] at hI10
    obtain ⟨⟨g12_1, g12_5, g12_9, g12_10, g12_11⟩, og12_0, hn⟩ := hI10
    subst hn
    simp only [go_sem, Nat.reduceAdd, Nat.reduceMul, Nat.reduceEqDiff, Nat.reduceLeDiff, Nat.reduceLT, Nat.reduceBEq, reduceCtorEq, reduceIte, lt_f (r_0.cond.length), g12_1, g12_5, g12_9, g12_10, g12_11, og12_0]
    obtain ⟨v13, e13, h⟩ := bind_K h
    refine call_K (by first | exact i_SortedTexts_ok e13 | simpa only [go_sem, Nat.reduceAdd, Nat.reduceMul, Nat.reduceEqDiff, Nat.reduceLeDiff, Nat.reduceLT, Nat.reduceBEq, reduceCtorEq, reduceIte, lt_f (r_0.cond.length), g12_1, g12_5, g12_9, g12_10, g12_11, og12_0] using i_SortedTexts_ok e13) ?_
    obtain rfl := Option.some.inj h
    simp only [go_sem, Nat.reduceAdd, Nat.reduceMul, Nat.reduceEqDiff, Nat.reduceLeDiff, Nat.reduceLT, Nat.reduceBEq, reduceCtorEq, reduceIte, lt_f (r_0.cond.length), g12_1, g12_5, g12_9, g12_10, g12_11, og12_0]
theorem i_IsPattern_ok {p_0 : PatternD} {r : Bool} (h : i_IsPattern p_0 = some r) : Sound Try.prog J0 172 [(true, ePattern p_0)] [(false, [(false, .bool r)])] := by
  refine fnk Try.func172 (by kernel_rfl) rfl (by kernel_rfl) (by kernel_rfl) ?_
  unfold i_IsPattern at h
  simp only [fnS, f172, argSt, go_sem, Nat.reduceAdd, Nat.reduceMul, Nat.reduceEqDiff, Nat.reduceLeDiff, Nat.reduceLT, Nat.reduceBEq, reduceCtorEq, reduceIte]
  obtain ⟨v1, e1, h⟩ := bind_K h
  refine call_K (by first | exact i_IsName_ok e1 | simpa only [go_sem, Nat.reduceAdd, Nat.reduceMul, Nat.reduceEqDiff, Nat.reduceLeDiff, Nat.reduceLT, Nat.reduceBEq, reduceCtorEq, reduceIte] using i_IsName_ok e1) ?_
  simp only [go_sem, Nat.reduceAdd, Nat.reduceMul, Nat.reduceEqDiff, Nat.reduceLeDiff, Nat.reduceLT, Nat.reduceBEq, reduceCtorEq, reduceIte]
  refine ite_K h (fun c2 h => ?_) (fun c2 h => ?_)
  · simp only [go_sem, Nat.reduceAdd, Nat.reduceMul, Nat.reduceEqDiff, Nat.reduceLeDiff, Nat.reduceLT, Nat.reduceBEq, reduceCtorEq, reduceIte, c2]
    refine ite_K h (fun c3 h => ?_) (fun c3 h => ?_)
    · obtain rfl := Option.some.inj h
      simp only [go_sem, Nat.reduceAdd, Nat.reduceMul, Nat.reduceEqDiff, Nat.reduceLeDiff, Nat.reduceLT, Nat.reduceBEq, reduceCtorEq, reduceIte, c2, c3]
    · simp only [go_sem, Nat.reduceAdd, Nat.reduceMul, Nat.reduceEqDiff, Nat.reduceLeDiff, Nat.reduceLT, Nat.reduceBEq, reduceCtorEq, reduceIte, c2, c3]
      refine swp_for h (fun i _ st => IV [(16, .p false [.c (.sl 9 1 (List.map eStr p_0.args))]), (17, .p false [.c (.int .i64 ((p_0.args.length : Nat) : Int))]), (18, .p false [.c (.int .i64 ((i : Nat) : Int))])] [] st) [] [] (by decide) ?_ ?_ ?_
      · simp only [go_sem, Nat.reduceAdd, Nat.reduceMul, Nat.reduceEqDiff, Nat.reduceLeDiff, Nat.reduceLT, Nat.reduceBEq, reduceCtorEq, reduceIte, IV, sts_cons, sts_nil, obs_cons, obs_nil, c2, c3]
      · rintro i7 x8 ⟨⟩ ⟨sl, ob, n⟩ y4 hx5 hI6 hW7 h hy4
        simp only [IV, sts_cons, sts_nil, obs_cons, obs_nil, and_true, true_and, Nat.reduceAdd, str_len] at hI6
        obtain ⟨⟨g8_16, g8_17, g8_18⟩, hn⟩ := hI6
        subst hn
        have hlhx5 := WF.slotL hW7 g8_16 (j := 0) rfl
        simp only [go_sem, Nat.reduceAdd, Nat.reduceMul, Nat.reduceEqDiff, Nat.reduceLeDiff, Nat.reduceLT, Nat.reduceBEq, reduceCtorEq, reduceIte, c2, c3, hx5, lt_t hx5, lt_p hx5, nat_in (lt_n hx5) hlhx5, g8_16, g8_17, g8_18]
        obtain ⟨v9, e9, h⟩ := bind_K h
        refine call_K (by first | exact i_IsTerm_ok e9 | simpa only [go_sem, Nat.reduceAdd, Nat.reduceMul, Nat.reduceEqDiff, Nat.reduceLeDiff, Nat.reduceLT, Nat.reduceBEq, reduceCtorEq, reduceIte, c2, c3, hx5, lt_t hx5, lt_p hx5, nat_in (lt_n hx5) hlhx5, g8_16, g8_17, g8_18] using i_IsTerm_ok e9) ?_
        simp only [go_sem, Nat.reduceAdd, Nat.reduceMul, Nat.reduceEqDiff, Nat.reduceLeDiff, Nat.reduceLT, Nat.reduceBEq, reduceCtorEq, reduceIte, c2, c3, hx5, lt_t hx5, lt_p hx5, nat_in (lt_n hx5) hlhx5, g8_16, g8_17, g8_18]
        refine ite_K h (fun c10 h => ?_) (fun c10 h => ?_)
        · simp only [go_sem, Nat.reduceAdd, Nat.reduceMul, Nat.reduceEqDiff, Nat.reduceLeDiff, Nat.reduceLT, Nat.reduceBEq, reduceCtorEq, reduceIte, c2, c3, hx5, lt_t hx5, lt_p hx5, nat_in (lt_n hx5) hlhx5, c10, g8_16, g8_17, g8_18]
          refine ⟨_, [], [], (Option.some.inj h).symm, by decide, ?_⟩
          simp only [go_sem, Nat.reduceAdd, Nat.reduceMul, Nat.reduceEqDiff, Nat.reduceLeDiff, Nat.reduceLT, Nat.reduceBEq, reduceCtorEq, reduceIte, c2, c3, hx5, lt_t hx5, lt_p hx5, nat_in (lt_n hx5) hlhx5, c10, g8_16, g8_17, g8_18, IV, sts_cons, sts_nil, obs_cons, obs_nil]
        · replace h := inr_K h hy4
          obtain rfl := Option.some.inj h
          simp only [go_sem, Nat.reduceAdd, Nat.reduceMul, Nat.reduceEqDiff, Nat.reduceLeDiff, Nat.reduceLT, Nat.reduceBEq, reduceCtorEq, reduceIte, c2, c3, hx5, lt_t hx5, lt_p hx5, nat_in (lt_n hx5) hlhx5, c10, g8_16, g8_17, g8_18]
      · rintro ⟨⟩ ⟨sl, ob, n⟩ hI11 hW12 h
        simp only [IV, sts_cons, sts_nil, obs_cons, obs_nil, and_true, true_and, Nat.reduceAdd, str_len] at hI11
        obtain ⟨⟨g13_16, g13_17, g13_18⟩, hn⟩ := hI11
        subst hn
        obtain rfl := Option.some.inj h
        simp only [go_sem, Nat.reduceAdd, Nat.reduceMul, Nat.reduceEqDiff, Nat.reduceLeDiff, Nat.reduceLT, Nat.reduceBEq, reduceCtorEq, reduceIte, c2, c3, lt_f (p_0.args.length), g13_16, g13_17, g13_18]
  · obtain rfl := Option.some.inj h
    simp only [go_sem, Nat.reduceAdd, Nat.reduceMul, Nat.reduceEqDiff, Nat.reduceLeDiff, Nat.reduceLT, Nat.reduceBEq, reduceCtorEq, reduceIte, c2]
theorem i_CondVars_ok {x_0 : CondD} {r : (List ByteArray)} (h : i_CondVars x_0 = some r) : Sound Try.prog J0 93 [(true, eCond x_0)] [(false, [(false, .sl 9 1 (List.map eStr r))])] := by
  refine fnk Try.func93 (by kernel_rfl) rfl (by kernel_rfl) (by kernel_rfl) ?_
  unfold i_CondVars at h
  simp only [fnS, f93, argSt, go_sem, Nat.reduceAdd, Nat.reduceMul, Nat.reduceEqDiff, Nat.reduceLeDiff, Nat.reduceLT, Nat.reduceBEq, reduceCtorEq, reduceIte]
  obtain ⟨v1, e1, h⟩ := bind_K h
  refine call_K (by first | exact i_termsOf_ok e1 | simpa only [go_sem, Nat.reduceAdd, Nat.reduceMul, Nat.reduceEqDiff, Nat.reduceLeDiff, Nat.reduceLT, Nat.reduceBEq, reduceCtorEq, reduceIte] using i_termsOf_ok e1) ?_
  simp only [go_sem, Nat.reduceAdd, Nat.reduceMul, Nat.reduceEqDiff, Nat.reduceLeDiff, Nat.reduceLT, Nat.reduceBEq, reduceCtorEq, reduceIte]
  obtain ⟨v2, e2, h⟩ := bind_K h
  refine call_K (by first | exact i_varsAmong_ok e2 | simpa only [go_sem, Nat.reduceAdd, Nat.reduceMul, Nat.reduceEqDiff, Nat.reduceLeDiff, Nat.reduceLT, Nat.reduceBEq, reduceCtorEq, reduceIte] using i_varsAmong_ok e2) ?_
  simp only [go_sem, Nat.reduceAdd, Nat.reduceMul, Nat.reduceEqDiff, Nat.reduceLeDiff, Nat.reduceLT, Nat.reduceBEq, reduceCtorEq, reduceIte]
  obtain ⟨v3, e3, h⟩ := bind_K h
  refine call_K (by first | exact i_SortedTexts_ok e3 | simpa only [go_sem, Nat.reduceAdd, Nat.reduceMul, Nat.reduceEqDiff, Nat.reduceLeDiff, Nat.reduceLT, Nat.reduceBEq, reduceCtorEq, reduceIte] using i_SortedTexts_ok e3) ?_
  obtain rfl := Option.some.inj h
  simp only [go_sem, Nat.reduceAdd, Nat.reduceMul, Nat.reduceEqDiff, Nat.reduceLeDiff, Nat.reduceLT, Nat.reduceBEq, reduceCtorEq, reduceIte]
end Go.Proofs.Ytgempkloppgnmaa

namespace Go.Proofs.Ytgempkloppgnmaa
open Go.Proofs.Try
set_option linter.unusedSimpArgs false
set_option linter.unusedVariables false
set_option maxRecDepth 10000
set_option maxHeartbeats 4000000
theorem s_CondVars_ok {x_0 : CondD} {r : (List ByteArray)} (h : s_CondVars x_0 = some r) : Sound Try.prog J0 88 [(true, eCond x_0)] [(false, [(false, .sl 9 1 (List.map eStr r))])] := by
  refine fnk Try.func88 (by kernel_rfl) rfl (by kernel_rfl) (by kernel_rfl) ?_
  unfold s_CondVars at h
  simp only [fnS, f88, argSt, go_sem, Nat.reduceAdd, Nat.reduceMul, Nat.reduceEqDiff, Nat.reduceLeDiff, Nat.reduceLT, Nat.reduceBEq, reduceCtorEq, reduceIte]
  obtain ⟨v1, e1, h⟩ := bind_K h
  refine call_K (by first | exact s_VarsOf_ok e1 | simpa only [go_sem, Nat.reduceAdd, Nat.reduceMul, Nat.reduceEqDiff, Nat.reduceLeDiff, Nat.reduceLT, Nat.reduceBEq, reduceCtorEq, reduceIte] using s_VarsOf_ok e1) ?_
  simp only [go_sem, Nat.reduceAdd, Nat.reduceMul, Nat.reduceEqDiff, Nat.reduceLeDiff, Nat.reduceLT, Nat.reduceBEq, reduceCtorEq, reduceIte]
  obtain ⟨v2, e2, h⟩ := bind_K h
  refine call_K (by first | exact s_IsVar_ok e2 | simpa only [go_sem, Nat.reduceAdd, Nat.reduceMul, Nat.reduceEqDiff, Nat.reduceLeDiff, Nat.reduceLT, Nat.reduceBEq, reduceCtorEq, reduceIte] using s_IsVar_ok e2) ?_
  simp only [go_sem, Nat.reduceAdd, Nat.reduceMul, Nat.reduceEqDiff, Nat.reduceLeDiff, Nat.reduceLT, Nat.reduceBEq, reduceCtorEq, reduceIte]
  refine ite_K h (fun c3 h => ?_) (fun c3 h => ?_)
  · simp only [go_sem, Nat.reduceAdd, Nat.reduceMul, Nat.reduceEqDiff, Nat.reduceLeDiff, Nat.reduceLT, Nat.reduceBEq, reduceCtorEq, reduceIte, c3]
    obtain ⟨v3, e4, h⟩ := bind_K h
    refine call_K (by first | exact s_l1Put_ok e4 | simpa only [go_sem, Nat.reduceAdd, Nat.reduceMul, Nat.reduceEqDiff, Nat.reduceLeDiff, Nat.reduceLT, Nat.reduceBEq, reduceCtorEq, reduceIte, c3] using s_l1Put_ok e4) ?_
    simp only [go_sem, Nat.reduceAdd, Nat.reduceMul, Nat.reduceEqDiff, Nat.reduceLeDiff, Nat.reduceLT, Nat.reduceBEq, reduceCtorEq, reduceIte, c3]
    obtain ⟨v4, e5, h⟩ := bind_K h
    refine call_K (by first | exact s_IsVar_ok e5 | simpa only [go_sem, Nat.reduceAdd, Nat.reduceMul, Nat.reduceEqDiff, Nat.reduceLeDiff, Nat.reduceLT, Nat.reduceBEq, reduceCtorEq, reduceIte, c3] using s_IsVar_ok e5) ?_
    simp only [go_sem, Nat.reduceAdd, Nat.reduceMul, Nat.reduceEqDiff, Nat.reduceLeDiff, Nat.reduceLT, Nat.reduceBEq, reduceCtorEq, reduceIte, c3]
    refine ite_K h (fun c6 h => ?_) (fun c6 h => ?_)
    · simp only [go_sem, Nat.reduceAdd, Nat.reduceMul, Nat.reduceEqDiff, Nat.reduceLeDiff, Nat.reduceLT, Nat.reduceBEq, reduceCtorEq, reduceIte, c3, c6]
      obtain ⟨v5, e7, h⟩ := bind_K h
      refine call_K (by first | exact s_l1Put_ok e7 | simpa only [go_sem, Nat.reduceAdd, Nat.reduceMul, Nat.reduceEqDiff, Nat.reduceLeDiff, Nat.reduceLT, Nat.reduceBEq, reduceCtorEq, reduceIte, c3, c6] using s_l1Put_ok e7) ?_
      obtain rfl := Option.some.inj h
      simp only [go_sem, Nat.reduceAdd, Nat.reduceMul, Nat.reduceEqDiff, Nat.reduceLeDiff, Nat.reduceLT, Nat.reduceBEq, reduceCtorEq, reduceIte, c3, c6]
    · obtain rfl := Option.some.inj h
      simp only [go_sem, Nat.reduceAdd, Nat.reduceMul, Nat.reduceEqDiff, Nat.reduceLeDiff, Nat.reduceLT, Nat.reduceBEq, reduceCtorEq, reduceIte, c3, c6]
  · simp only [go_sem, Nat.reduceAdd, Nat.reduceMul, Nat.reduceEqDiff, Nat.reduceLeDiff, Nat.reduceLT, Nat.reduceBEq, reduceCtorEq, reduceIte, c3]
    obtain ⟨v6, e8, h⟩ := bind_K h
    refine call_K (by first | exact s_IsVar_ok e8 | simpa only [go_sem, Nat.reduceAdd, Nat.reduceMul, Nat.reduceEqDiff, Nat.reduceLeDiff, Nat.reduceLT, Nat.reduceBEq, reduceCtorEq, reduceIte, c3] using s_IsVar_ok e8) ?_
    simp only [go_sem, Nat.reduceAdd, Nat.reduceMul, Nat.reduceEqDiff, Nat.reduceLeDiff, Nat.reduceLT, Nat.reduceBEq, reduceCtorEq, reduceIte, c3]
    refine ite_K h (fun c9 h => ?_) (fun c9 h => ?_)
    · simp only [go_sem, Nat.reduceAdd, Nat.reduceMul, Nat.reduceEqDiff, Nat.reduceLeDiff, Nat.reduceLT, Nat.reduceBEq, reduceCtorEq, reduceIte, c3, c9]
      obtain ⟨v7, e10, h⟩ := bind_K h
      refine call_K (by first | exact s_l1Put_ok e10 | simpa only [go_sem, Nat.reduceAdd, Nat.reduceMul, Nat.reduceEqDiff, Nat.reduceLeDiff, Nat.reduceLT, Nat.reduceBEq, reduceCtorEq, reduceIte, c3, c9] using s_l1Put_ok e10) ?_
      obtain rfl := Option.some.inj h
      simp only [go_sem, Nat.reduceAdd, Nat.reduceMul, Nat.reduceEqDiff, Nat.reduceLeDiff, Nat.reduceLT, Nat.reduceBEq, reduceCtorEq, reduceIte, c3, c9]
    · obtain rfl := Option.some.inj h
      simp only [go_sem, Nat.reduceAdd, Nat.reduceMul, Nat.reduceEqDiff, Nat.reduceLeDiff, Nat.reduceLT, Nat.reduceBEq, reduceCtorEq, reduceIte, c3, c9]
theorem s_BoundVars_ok {r_0 : RuleD} {n_1 : Int} {r : (List ByteArray)} (h : s_BoundVars r_0 n_1 = some r) : Sound Try.prog J0 89 [(true, eRule r_0), (false, [.int .i64 n_1])] [(false, [(false, .sl 9 1 (List.map eStr r))])] := by
  refine fnk Try.func89 (by kernel_rfl) rfl (by kernel_rfl) (by kernel_rfl) ?_
  unfold s_BoundVars at h
  simp only [fnS, f89, argSt, go_sem, Nat.reduceAdd, Nat.reduceMul, Nat.reduceEqDiff, Nat.reduceLeDiff, Nat.reduceLT, Nat.reduceBEq, reduceCtorEq, reduceIte]
  refine swp_for h (fun i row_12 st => IV [(1, .p false [.c (.int .i64 n_1)]), (2, .bp 0 0), (5, .p false [.row 1]), (6, .p false [.c (.int .i64 ((i : Nat) : Int))])] [.box 75 [.c (.str r_0.name), .c (.int .i64 r_0.priority), .c (.sl 120 5 (List.map eCond r_0.cond)), .c (.sl 128 3 (List.map eAction r_0.thn))], .row 9 1 (List.map eStr row_12) 2] st) [] [0, 32] (by decide) ?_ ?_ ?_
  · simp only [go_sem, Nat.reduceAdd, Nat.reduceMul, Nat.reduceEqDiff, Nat.reduceLeDiff, Nat.reduceLT, Nat.reduceBEq, reduceCtorEq, reduceIte, IV, sts_cons, sts_nil, obs_cons, obs_nil]
  · rintro i25 x26 row_12 ⟨sl, ob, n⟩ y1 hx2 hI3 hW4 h hy1
    simp only [IV, sts_cons, sts_nil, obs_cons, obs_nil, and_true, true_and, Nat.reduceAdd, str_len] at hI3
    obtain ⟨⟨g5_1, g5_2, g5_5, g5_6⟩, og5_0, og5_1, hn⟩ := hI3
    subst hn
    have hlhx2 := WF.boxL hW4 og5_0 (j := 2) rfl
    simp only [go_sem, Nat.reduceAdd, Nat.reduceMul, Nat.reduceEqDiff, Nat.reduceLeDiff, Nat.reduceLT, Nat.reduceBEq, reduceCtorEq, reduceIte, hx2, lt_t hx2, lt_p hx2, nat_in (lt_n hx2) hlhx2, g5_1, g5_2, g5_5, g5_6, og5_0, og5_1]
    refine ite_K h (fun c6 h => ?_) (fun c6 h => ?_)
    · simp only [go_sem, Nat.reduceAdd, Nat.reduceMul, Nat.reduceEqDiff, Nat.reduceLeDiff, Nat.reduceLT, Nat.reduceBEq, reduceCtorEq, reduceIte, hx2, lt_t hx2, lt_p hx2, nat_in (lt_n hx2) hlhx2, c6, g5_1, g5_2, g5_5, g5_6, og5_0, og5_1]
      refine ite_K h (fun c7 h => ?_) (fun c7 h => ?_)
      · simp only [go_sem, Nat.reduceAdd, Nat.reduceMul, Nat.reduceEqDiff, Nat.reduceLeDiff, Nat.reduceLT, Nat.reduceBEq, reduceCtorEq, reduceIte, hx2, lt_t hx2, lt_p hx2, nat_in (lt_n hx2) hlhx2, c6, c7, g5_1, g5_2, g5_5, g5_6, og5_0, og5_1]
        obtain ⟨v27, e8, h⟩ := bind_K h
        refine call_K (by first | exact s_VarsOf_ok e8 | simpa only [go_sem, Nat.reduceAdd, Nat.reduceMul, Nat.reduceEqDiff, Nat.reduceLeDiff, Nat.reduceLT, Nat.reduceBEq, reduceCtorEq, reduceIte, hx2, lt_t hx2, lt_p hx2, nat_in (lt_n hx2) hlhx2, c6, c7, g5_1, g5_2, g5_5, g5_6, og5_0, og5_1] using s_VarsOf_ok e8) ?_
        simp only [go_sem, Nat.reduceAdd, Nat.reduceMul, Nat.reduceEqDiff, Nat.reduceLeDiff, Nat.reduceLT, Nat.reduceBEq, reduceCtorEq, reduceIte, hx2, lt_t hx2, lt_p hx2, nat_in (lt_n hx2) hlhx2, c6, c7, g5_1, g5_2, g5_5, g5_6, og5_0, og5_1]
        refine swp_for h (fun i row_30 st => IV [(1, .p false [.c (.int .i64 n_1)]), (2, .bp 0 0), (5, .p false [.row 1]), (6, .p false [.c (.int .i64 ((i25 : Nat) : Int))]), (7, .p false [.row 2]), (8, .p false [.c (.int .i64 ((i : Nat) : Int))]), (16, .p false [.c (.int .i64 ((i25 : Nat) : Int))]), (17, .p false [.c (.int .i64 n_1)]), (18, .p false [.c (.bool (decide (((i25 : Nat) : Int) < n_1)))])] [.box 75 [.c (.str r_0.name), .c (.int .i64 r_0.priority), .c (.sl 120 5 (List.map eCond r_0.cond)), .c (.sl 128 3 (List.map eAction r_0.thn))], .row 9 1 (List.map eStr row_30) 2, .row 9 1 (List.map eStr v27) 2] st) [] [0, 1, 370] (by decide) ?_ ?_ ?_
        · simp only [go_sem, Nat.reduceAdd, Nat.reduceMul, Nat.reduceEqDiff, Nat.reduceLeDiff, Nat.reduceLT, Nat.reduceBEq, reduceCtorEq, reduceIte, IV, sts_cons, sts_nil, obs_cons, obs_nil, hx2, lt_t hx2, lt_p hx2, nat_in (lt_n hx2) hlhx2, c6, c7, g5_1, g5_2, g5_5, g5_6, og5_0, og5_1]
        · rintro i34 x35 row_30 ⟨sl, ob, n⟩ y9 hx10 hI11 hW12 h hy9
          simp only [IV, sts_cons, sts_nil, obs_cons, obs_nil, and_true, true_and, Nat.reduceAdd, str_len] at hI11
          obtain ⟨⟨g13_1, g13_2, g13_5, g13_6, g13_7, g13_8, g13_16, g13_17, g13_18⟩, og13_0, og13_1, og13_2, hn⟩ := hI11
          subst hn
          have hlhx10 := WF.rowL hW12 og13_2
          simp only [go_sem, Nat.reduceAdd, Nat.reduceMul, Nat.reduceEqDiff, Nat.reduceLeDiff, Nat.reduceLT, Nat.reduceBEq, reduceCtorEq, reduceIte, hx2, lt_t hx2, lt_p hx2, nat_in (lt_n hx2) hlhx2, c6, c7, hx10, lt_t hx10, lt_p hx10, nat_in (lt_n hx10) hlhx10, g13_1, g13_2, g13_5, g13_6, g13_7, g13_8, g13_16, g13_17, g13_18, og13_0, og13_1, og13_2]
          obtain ⟨v36, e14, h⟩ := bind_K h
          refine call_K (by first | exact s_l1Put_ok e14 | simpa only [go_sem, Nat.reduceAdd, Nat.reduceMul, Nat.reduceEqDiff, Nat.reduceLeDiff, Nat.reduceLT, Nat.reduceBEq, reduceCtorEq, reduceIte, hx2, lt_t hx2, lt_p hx2, nat_in (lt_n hx2) hlhx2, c6, c7, hx10, lt_t hx10, lt_p hx10, nat_in (lt_n hx10) hlhx10, g13_1, g13_2, g13_5, g13_6, g13_7, g13_8, g13_16, g13_17, g13_18, og13_0, og13_1, og13_2] using s_l1Put_ok e14) ?_
          simp only [go_sem, Nat.reduceAdd, Nat.reduceMul, Nat.reduceEqDiff, Nat.reduceLeDiff, Nat.reduceLT, Nat.reduceBEq, reduceCtorEq, reduceIte, hx2, lt_t hx2, lt_p hx2, nat_in (lt_n hx2) hlhx2, c6, c7, hx10, lt_t hx10, lt_p hx10, nat_in (lt_n hx10) hlhx10, g13_1, g13_2, g13_5, g13_6, g13_7, g13_8, g13_16, g13_17, g13_18, og13_0, og13_1, og13_2]
          refine ⟨_, [], [0, 147, 2], (Option.some.inj h).symm, by decide, ?_⟩
          simp only [go_sem, Nat.reduceAdd, Nat.reduceMul, Nat.reduceEqDiff, Nat.reduceLeDiff, Nat.reduceLT, Nat.reduceBEq, reduceCtorEq, reduceIte, hx2, lt_t hx2, lt_p hx2, nat_in (lt_n hx2) hlhx2, c6, c7, hx10, lt_t hx10, lt_p hx10, nat_in (lt_n hx10) hlhx10, g13_1, g13_2, g13_5, g13_6, g13_7, g13_8, g13_16, g13_17, g13_18, og13_0, og13_1, og13_2, IV, sts_cons, sts_nil, obs_cons, obs_nil]
        · rintro row_30 ⟨sl, ob, n⟩ hI15 hW16 h
          simp only [IV, sts_cons, sts_nil, obs_cons, obs_nil, and_true, true_and, Nat.reduceAdd, str_len] at hI15
          obtain ⟨⟨g17_1, g17_2, g17_5, g17_6, g17_7, g17_8, g17_16, g17_17, g17_18⟩, og17_0, og17_1, og17_2, hn⟩ := hI15
          subst hn
          simp only [go_sem, Nat.reduceAdd, Nat.reduceMul, Nat.reduceEqDiff, Nat.reduceLeDiff, Nat.reduceLT, Nat.reduceBEq, reduceCtorEq, reduceIte, hx2, lt_t hx2, lt_p hx2, nat_in (lt_n hx2) hlhx2, c6, c7, lt_f (v27.length), g17_1, g17_2, g17_5, g17_6, g17_7, g17_8, g17_16, g17_17, g17_18, og17_0, og17_1, og17_2]
          refine ⟨_, [], [0, 1], (Option.some.inj h).symm, by decide, ?_⟩
          simp only [go_sem, Nat.reduceAdd, Nat.reduceMul, Nat.reduceEqDiff, Nat.reduceLeDiff, Nat.reduceLT, Nat.reduceBEq, reduceCtorEq, reduceIte, hx2, lt_t hx2, lt_p hx2, nat_in (lt_n hx2) hlhx2, c6, c7, lt_f (v27.length), g17_1, g17_2, g17_5, g17_6, g17_7, g17_8, g17_16, g17_17, g17_18, og17_0, og17_1, og17_2, IV, sts_cons, sts_nil, obs_cons, obs_nil]
      · simp only [go_sem, Nat.reduceAdd, Nat.reduceMul, Nat.reduceEqDiff, Nat.reduceLeDiff, Nat.reduceLT, Nat.reduceBEq, reduceCtorEq, reduceIte, hx2, lt_t hx2, lt_p hx2, nat_in (lt_n hx2) hlhx2, c6, c7, g5_1, g5_2, g5_5, g5_6, og5_0, og5_1]
        refine ⟨_, [], [0, 1], (Option.some.inj h).symm, by decide, ?_⟩
        simp only [go_sem, Nat.reduceAdd, Nat.reduceMul, Nat.reduceEqDiff, Nat.reduceLeDiff, Nat.reduceLT, Nat.reduceBEq, reduceCtorEq, reduceIte, hx2, lt_t hx2, lt_p hx2, nat_in (lt_n hx2) hlhx2, c6, c7, g5_1, g5_2, g5_5, g5_6, og5_0, og5_1, IV, sts_cons, sts_nil, obs_cons, obs_nil]
    · replace h := inr_K h hy1
      obtain rfl := Option.some.inj h
      simp only [go_sem, Nat.reduceAdd, Nat.reduceMul, Nat.reduceEqDiff, Nat.reduceLeDiff, Nat.reduceLT, Nat.reduceBEq, reduceCtorEq, reduceIte, hx2, lt_t hx2, lt_p hx2, nat_in (lt_n hx2) hlhx2, c6, g5_1, g5_2, g5_5, g5_6, og5_0, og5_1]
  · rintro row_12 ⟨sl, ob, n⟩ hI18 hW19 h
    simp only [IV, sts_cons, sts_nil, obs_cons, obs_nil, and_true, true_and, Nat.reduceAdd, str_len] at hI18
    obtain ⟨⟨g20_1, g20_2, g20_5, g20_6⟩, og20_0, og20_1, hn⟩ := hI18
    subst hn
    obtain rfl := Option.some.inj h
    simp only [go_sem, Nat.reduceAdd, Nat.reduceMul, Nat.reduceEqDiff, Nat.reduceLeDiff, Nat.reduceLT, Nat.reduceBEq, reduceCtorEq, reduceIte, lt_f (r_0.cond.length), g20_1, g20_2, g20_5, g20_6, og20_0, og20_1]
theorem s_IsPattern_ok {p_0 : PatternD} {r : Bool} (h : s_IsPattern p_0 = some r) : Sound Try.prog J0 168 [(true, ePattern p_0)] [(false, [(false, .bool r)])] := by
  refine fnk Try.func168 (by kernel_rfl) rfl (by kernel_rfl) (by kernel_rfl) ?_
  unfold s_IsPattern at h
  simp only [fnS, f168, argSt, go_sem, Nat.reduceAdd, Nat.reduceMul, Nat.reduceEqDiff, Nat.reduceLeDiff, Nat.reduceLT, Nat.reduceBEq, reduceCtorEq, reduceIte]
  refine swp_for h (fun i _ st => IV [(1, .bp 0 0), (3, .p false [.c (.int .i64 ((i : Nat) : Int))])] [.box 118 [.c (.str p_0.rel), .c (.sl 9 1 (List.map eStr p_0.args))]] st) [] [0] (by decide) ?_ ?_ ?_
  · simp only [go_sem, Nat.reduceAdd, Nat.reduceMul, Nat.reduceEqDiff, Nat.reduceLeDiff, Nat.reduceLT, Nat.reduceBEq, reduceCtorEq, reduceIte, IV, sts_cons, sts_nil, obs_cons, obs_nil]
  · rintro i7 x8 ⟨⟩ ⟨sl, ob, n⟩ y1 hx2 hI3 hW4 h hy1
    simp only [IV, sts_cons, sts_nil, obs_cons, obs_nil, and_true, true_and, Nat.reduceAdd, str_len] at hI3
    obtain ⟨⟨g5_1, g5_3⟩, og5_0, hn⟩ := hI3
    subst hn
    have hlhx2 := WF.boxL hW4 og5_0 (j := 1) rfl
    simp only [go_sem, Nat.reduceAdd, Nat.reduceMul, Nat.reduceEqDiff, Nat.reduceLeDiff, Nat.reduceLT, Nat.reduceBEq, reduceCtorEq, reduceIte, hx2, lt_t hx2, lt_p hx2, nat_in (lt_n hx2) hlhx2, g5_1, g5_3, og5_0]
    obtain ⟨v9, e6, h⟩ := bind_K h
    refine call_K (by first | exact s_IsTerm_ok e6 | simpa only [go_sem, Nat.reduceAdd, Nat.reduceMul, Nat.reduceEqDiff, Nat.reduceLeDiff, Nat.reduceLT, Nat.reduceBEq, reduceCtorEq, reduceIte, hx2, lt_t hx2, lt_p hx2, nat_in (lt_n hx2) hlhx2, g5_1, g5_3, og5_0] using s_IsTerm_ok e6) ?_
    simp only [go_sem, Nat.reduceAdd, Nat.reduceMul, Nat.reduceEqDiff, Nat.reduceLeDiff, Nat.reduceLT, Nat.reduceBEq, reduceCtorEq, reduceIte, hx2, lt_t hx2, lt_p hx2, nat_in (lt_n hx2) hlhx2, g5_1, g5_3, og5_0]
    refine ite_K h (fun c7 h => ?_) (fun c7 h => ?_)
    · simp only [go_sem, Nat.reduceAdd, Nat.reduceMul, Nat.reduceEqDiff, Nat.reduceLeDiff, Nat.reduceLT, Nat.reduceBEq, reduceCtorEq, reduceIte, hx2, lt_t hx2, lt_p hx2, nat_in (lt_n hx2) hlhx2, c7, g5_1, g5_3, og5_0]
      refine ⟨_, [], [0], (Option.some.inj h).symm, by decide, ?_⟩
      simp only [go_sem, Nat.reduceAdd, Nat.reduceMul, Nat.reduceEqDiff, Nat.reduceLeDiff, Nat.reduceLT, Nat.reduceBEq, reduceCtorEq, reduceIte, hx2, lt_t hx2, lt_p hx2, nat_in (lt_n hx2) hlhx2, c7, g5_1, g5_3, og5_0, IV, sts_cons, sts_nil, obs_cons, obs_nil]
    · replace h := inr_K h hy1
      obtain rfl := Option.some.inj h
      simp only [go_sem, Nat.reduceAdd, Nat.reduceMul, Nat.reduceEqDiff, Nat.reduceLeDiff, Nat.reduceLT, Nat.reduceBEq, reduceCtorEq, reduceIte, hx2, lt_t hx2, lt_p hx2, nat_in (lt_n hx2) hlhx2, c7, g5_1, g5_3, og5_0]
  · rintro ⟨⟩ ⟨sl, ob, n⟩ hI8 hW9 h
    simp only [IV, sts_cons, sts_nil, obs_cons, obs_nil, and_true, true_and, Nat.reduceAdd, str_len] at hI8
    obtain ⟨⟨g10_1, g10_3⟩, og10_0, hn⟩ := hI8
    subst hn
    simp only [go_sem, Nat.reduceAdd, Nat.reduceMul, Nat.reduceEqDiff, Nat.reduceLeDiff, Nat.reduceLT, Nat.reduceBEq, reduceCtorEq, reduceIte, lt_f (p_0.args.length), g10_1, g10_3, og10_0]
    obtain ⟨v10, e11, h⟩ := bind_K h
    refine call_K (by first | exact s_IsName_ok e11 | simpa only [go_sem, Nat.reduceAdd, Nat.reduceMul, Nat.reduceEqDiff, Nat.reduceLeDiff, Nat.reduceLT, Nat.reduceBEq, reduceCtorEq, reduceIte, lt_f (p_0.args.length), g10_1, g10_3, og10_0] using s_IsName_ok e11) ?_
    simp only [go_sem, Nat.reduceAdd, Nat.reduceMul, Nat.reduceEqDiff, Nat.reduceLeDiff, Nat.reduceLT, Nat.reduceBEq, reduceCtorEq, reduceIte, lt_f (p_0.args.length), g10_1, g10_3, og10_0]
    refine ite_K h (fun c12 h => ?_) (fun c12 h => ?_)
    · obtain rfl := Option.some.inj h
      simp only [go_sem, Nat.reduceAdd, Nat.reduceMul, Nat.reduceEqDiff, Nat.reduceLeDiff, Nat.reduceLT, Nat.reduceBEq, reduceCtorEq, reduceIte, lt_f (p_0.args.length), c12, g10_1, g10_3, og10_0]
    · obtain rfl := Option.some.inj h
      simp only [go_sem, Nat.reduceAdd, Nat.reduceMul, Nat.reduceEqDiff, Nat.reduceLeDiff, Nat.reduceLT, Nat.reduceBEq, reduceCtorEq, reduceIte, lt_f (p_0.args.length), c12, g10_1, g10_3, og10_0]
theorem i_IsCond_ok {x_0 : CondD} {r : Bool} (h : i_IsCond x_0 = some r) : Sound Try.prog J0 138 [(true, eCond x_0)] [(false, [(false, .bool r)])] := by
  refine fnk Try.func138 (by kernel_rfl) rfl (by kernel_rfl) (by kernel_rfl) ?_
  unfold i_IsCond at h
  have ks0 : strOk ⟨#[]⟩ = true := by decide
  simp only [fnS, f138, argSt, go_sem, Nat.reduceAdd, Nat.reduceMul, Nat.reduceEqDiff, Nat.reduceLeDiff, Nat.reduceLT, Nat.reduceBEq, reduceCtorEq, reduceIte, ks0]
  refine ite_K h (fun c1 h => ?_) (fun c1 h => ?_)
  · simp only [go_sem, Nat.reduceAdd, Nat.reduceMul, Nat.reduceEqDiff, Nat.reduceLeDiff, Nat.reduceLT, Nat.reduceBEq, reduceCtorEq, reduceIte, ks0, c1]
    obtain ⟨v1, e2, h⟩ := bind_K h
    refine call_K (by first | exact i_IsPattern_ok e2 | simpa only [go_sem, Nat.reduceAdd, Nat.reduceMul, Nat.reduceEqDiff, Nat.reduceLeDiff, Nat.reduceLT, Nat.reduceBEq, reduceCtorEq, reduceIte, ks0, c1] using i_IsPattern_ok e2) ?_
    simp only [go_sem, Nat.reduceAdd, Nat.reduceMul, Nat.reduceEqDiff, Nat.reduceLeDiff, Nat.reduceLT, Nat.reduceBEq, reduceCtorEq, reduceIte, ks0, c1]
    refine ite_K h (fun c3 h => ?_) (fun c3 h => ?_)
    · simp only [go_sem, Nat.reduceAdd, Nat.reduceMul, Nat.reduceEqDiff, Nat.reduceLeDiff, Nat.reduceLT, Nat.reduceBEq, reduceCtorEq, reduceIte, ks0, c1, c3]
      refine ite_K h (fun c4 h => ?_) (fun c4 h => ?_)
      · obtain rfl := Option.some.inj h
        simp only [go_sem, Nat.reduceAdd, Nat.reduceMul, Nat.reduceEqDiff, Nat.reduceLeDiff, Nat.reduceLT, Nat.reduceBEq, reduceCtorEq, reduceIte, ks0, c1, c3, c4]
      · obtain rfl := Option.some.inj h
        simp only [go_sem, Nat.reduceAdd, Nat.reduceMul, Nat.reduceEqDiff, Nat.reduceLeDiff, Nat.reduceLT, Nat.reduceBEq, reduceCtorEq, reduceIte, ks0, c1, c3, c4]
    · obtain rfl := Option.some.inj h
      simp only [go_sem, Nat.reduceAdd, Nat.reduceMul, Nat.reduceEqDiff, Nat.reduceLeDiff, Nat.reduceLT, Nat.reduceBEq, reduceCtorEq, reduceIte, ks0, c1, c3]
  · simp only [go_sem, Nat.reduceAdd, Nat.reduceMul, Nat.reduceEqDiff, Nat.reduceLeDiff, Nat.reduceLT, Nat.reduceBEq, reduceCtorEq, reduceIte, ks0, c1]
    refine ite_K h (fun c5 h => ?_) (fun c5 h => ?_)
    · simp only [go_sem, Nat.reduceAdd, Nat.reduceMul, Nat.reduceEqDiff, Nat.reduceLeDiff, Nat.reduceLT, Nat.reduceBEq, reduceCtorEq, reduceIte, ks0, c1, c5]
      obtain ⟨v2, e6, h⟩ := bind_K h
      refine call_K (by first | exact i_IsPattern_ok e6 | simpa only [go_sem, Nat.reduceAdd, Nat.reduceMul, Nat.reduceEqDiff, Nat.reduceLeDiff, Nat.reduceLT, Nat.reduceBEq, reduceCtorEq, reduceIte, ks0, c1, c5] using i_IsPattern_ok e6) ?_
      simp only [go_sem, Nat.reduceAdd, Nat.reduceMul, Nat.reduceEqDiff, Nat.reduceLeDiff, Nat.reduceLT, Nat.reduceBEq, reduceCtorEq, reduceIte, ks0, c1, c5]
      refine ite_K h (fun c7 h => ?_) (fun c7 h => ?_)
      · simp only [go_sem, Nat.reduceAdd, Nat.reduceMul, Nat.reduceEqDiff, Nat.reduceLeDiff, Nat.reduceLT, Nat.reduceBEq, reduceCtorEq, reduceIte, ks0, c1, c5, c7]
        refine ite_K h (fun c8 h => ?_) (fun c8 h => ?_)
        · obtain rfl := Option.some.inj h
          simp only [go_sem, Nat.reduceAdd, Nat.reduceMul, Nat.reduceEqDiff, Nat.reduceLeDiff, Nat.reduceLT, Nat.reduceBEq, reduceCtorEq, reduceIte, ks0, c1, c5, c7, c8]
        · obtain rfl := Option.some.inj h
          simp only [go_sem, Nat.reduceAdd, Nat.reduceMul, Nat.reduceEqDiff, Nat.reduceLeDiff, Nat.reduceLT, Nat.reduceBEq, reduceCtorEq, reduceIte, ks0, c1, c5, c7, c8]
      · obtain rfl := Option.some.inj h
        simp only [go_sem, Nat.reduceAdd, Nat.reduceMul, Nat.reduceEqDiff, Nat.reduceLeDiff, Nat.reduceLT, Nat.reduceBEq, reduceCtorEq, reduceIte, ks0, c1, c5, c7]
    · simp only [go_sem, Nat.reduceAdd, Nat.reduceMul, Nat.reduceEqDiff, Nat.reduceLeDiff, Nat.reduceLT, Nat.reduceBEq, reduceCtorEq, reduceIte, ks0, c1, c5]
      refine ite_K h (fun c9 h => ?_) (fun c9 h => ?_)
      · simp only [go_sem, Nat.reduceAdd, Nat.reduceMul, Nat.reduceEqDiff, Nat.reduceLeDiff, Nat.reduceLT, Nat.reduceBEq, reduceCtorEq, reduceIte, ks0, c1, c5, c9]
        obtain ⟨v3, e10, h⟩ := bind_K h
        refine call_K (by first | exact i_IsTerm_ok e10 | simpa only [go_sem, Nat.reduceAdd, Nat.reduceMul, Nat.reduceEqDiff, Nat.reduceLeDiff, Nat.reduceLT, Nat.reduceBEq, reduceCtorEq, reduceIte, ks0, c1, c5, c9] using i_IsTerm_ok e10) ?_
        simp only [go_sem, Nat.reduceAdd, Nat.reduceMul, Nat.reduceEqDiff, Nat.reduceLeDiff, Nat.reduceLT, Nat.reduceBEq, reduceCtorEq, reduceIte, ks0, c1, c5, c9]
        refine ite_K h (fun c11 h => ?_) (fun c11 h => ?_)
        · simp only [go_sem, Nat.reduceAdd, Nat.reduceMul, Nat.reduceEqDiff, Nat.reduceLeDiff, Nat.reduceLT, Nat.reduceBEq, reduceCtorEq, reduceIte, ks0, c1, c5, c9, c11]
          obtain ⟨v4, e12, h⟩ := bind_K h
          refine call_K (by first | exact i_IsTerm_ok e12 | simpa only [go_sem, Nat.reduceAdd, Nat.reduceMul, Nat.reduceEqDiff, Nat.reduceLeDiff, Nat.reduceLT, Nat.reduceBEq, reduceCtorEq, reduceIte, ks0, c1, c5, c9, c11] using i_IsTerm_ok e12) ?_
          simp only [go_sem, Nat.reduceAdd, Nat.reduceMul, Nat.reduceEqDiff, Nat.reduceLeDiff, Nat.reduceLT, Nat.reduceBEq, reduceCtorEq, reduceIte, ks0, c1, c5, c9, c11]
          refine ite_K h (fun c13 h => ?_) (fun c13 h => ?_)
          · simp only [go_sem, Nat.reduceAdd, Nat.reduceMul, Nat.reduceEqDiff, Nat.reduceLeDiff, Nat.reduceLT, Nat.reduceBEq, reduceCtorEq, reduceIte, ks0, c1, c5, c9, c11, c13]
            obtain ⟨v5, e14, h⟩ := bind_K h
            refine call_K (by first | exact i_zeroPattern_ok e14 | simpa only [go_sem, Nat.reduceAdd, Nat.reduceMul, Nat.reduceEqDiff, Nat.reduceLeDiff, Nat.reduceLT, Nat.reduceBEq, reduceCtorEq, reduceIte, ks0, c1, c5, c9, c11, c13] using i_zeroPattern_ok e14) ?_
            obtain rfl := Option.some.inj h
            simp only [go_sem, Nat.reduceAdd, Nat.reduceMul, Nat.reduceEqDiff, Nat.reduceLeDiff, Nat.reduceLT, Nat.reduceBEq, reduceCtorEq, reduceIte, ks0, c1, c5, c9, c11, c13]
          · obtain rfl := Option.some.inj h
            simp only [go_sem, Nat.reduceAdd, Nat.reduceMul, Nat.reduceEqDiff, Nat.reduceLeDiff, Nat.reduceLT, Nat.reduceBEq, reduceCtorEq, reduceIte, ks0, c1, c5, c9, c11, c13]
        · obtain rfl := Option.some.inj h
          simp only [go_sem, Nat.reduceAdd, Nat.reduceMul, Nat.reduceEqDiff, Nat.reduceLeDiff, Nat.reduceLT, Nat.reduceBEq, reduceCtorEq, reduceIte, ks0, c1, c5, c9, c11]
      · simp only [go_sem, Nat.reduceAdd, Nat.reduceMul, Nat.reduceEqDiff, Nat.reduceLeDiff, Nat.reduceLT, Nat.reduceBEq, reduceCtorEq, reduceIte, ks0, c1, c5, c9]
        refine ite_K h (fun c15 h => ?_) (fun c15 h => ?_)
        · simp only [go_sem, Nat.reduceAdd, Nat.reduceMul, Nat.reduceEqDiff, Nat.reduceLeDiff, Nat.reduceLT, Nat.reduceBEq, reduceCtorEq, reduceIte, ks0, c1, c5, c9, c15]
          obtain ⟨v6, e16, h⟩ := bind_K h
          refine call_K (by first | exact i_IsTerm_ok e16 | simpa only [go_sem, Nat.reduceAdd, Nat.reduceMul, Nat.reduceEqDiff, Nat.reduceLeDiff, Nat.reduceLT, Nat.reduceBEq, reduceCtorEq, reduceIte, ks0, c1, c5, c9, c15] using i_IsTerm_ok e16) ?_
          simp only [go_sem, Nat.reduceAdd, Nat.reduceMul, Nat.reduceEqDiff, Nat.reduceLeDiff, Nat.reduceLT, Nat.reduceBEq, reduceCtorEq, reduceIte, ks0, c1, c5, c9, c15]
          refine ite_K h (fun c17 h => ?_) (fun c17 h => ?_)
          · simp only [go_sem, Nat.reduceAdd, Nat.reduceMul, Nat.reduceEqDiff, Nat.reduceLeDiff, Nat.reduceLT, Nat.reduceBEq, reduceCtorEq, reduceIte, ks0, c1, c5, c9, c15, c17]
            obtain ⟨v7, e18, h⟩ := bind_K h
            refine call_K (by first | exact i_IsTerm_ok e18 | simpa only [go_sem, Nat.reduceAdd, Nat.reduceMul, Nat.reduceEqDiff, Nat.reduceLeDiff, Nat.reduceLT, Nat.reduceBEq, reduceCtorEq, reduceIte, ks0, c1, c5, c9, c15, c17] using i_IsTerm_ok e18) ?_
            simp only [go_sem, Nat.reduceAdd, Nat.reduceMul, Nat.reduceEqDiff, Nat.reduceLeDiff, Nat.reduceLT, Nat.reduceBEq, reduceCtorEq, reduceIte, ks0, c1, c5, c9, c15, c17]
            refine ite_K h (fun c19 h => ?_) (fun c19 h => ?_)
            · simp only [go_sem, Nat.reduceAdd, Nat.reduceMul, Nat.reduceEqDiff, Nat.reduceLeDiff, Nat.reduceLT, Nat.reduceBEq, reduceCtorEq, reduceIte, ks0, c1, c5, c9, c15, c17, c19]
              obtain ⟨v8, e20, h⟩ := bind_K h
              refine call_K (by first | exact i_zeroPattern_ok e20 | simpa only [go_sem, Nat.reduceAdd, Nat.reduceMul, Nat.reduceEqDiff, Nat.reduceLeDiff, Nat.reduceLT, Nat.reduceBEq, reduceCtorEq, reduceIte, ks0, c1, c5, c9, c15, c17, c19] using i_zeroPattern_ok e20) ?_
              obtain rfl := Option.some.inj h
              simp only [go_sem, Nat.reduceAdd, Nat.reduceMul, Nat.reduceEqDiff, Nat.reduceLeDiff, Nat.reduceLT, Nat.reduceBEq, reduceCtorEq, reduceIte, ks0, c1, c5, c9, c15, c17, c19]
            · obtain rfl := Option.some.inj h
              simp only [go_sem, Nat.reduceAdd, Nat.reduceMul, Nat.reduceEqDiff, Nat.reduceLeDiff, Nat.reduceLT, Nat.reduceBEq, reduceCtorEq, reduceIte, ks0, c1, c5, c9, c15, c17, c19]
          · obtain rfl := Option.some.inj h
            simp only [go_sem, Nat.reduceAdd, Nat.reduceMul, Nat.reduceEqDiff, Nat.reduceLeDiff, Nat.reduceLT, Nat.reduceBEq, reduceCtorEq, reduceIte, ks0, c1, c5, c9, c15, c17]
        · simp only [go_sem, Nat.reduceAdd, Nat.reduceMul, Nat.reduceEqDiff, Nat.reduceLeDiff, Nat.reduceLT, Nat.reduceBEq, reduceCtorEq, reduceIte, ks0, c1, c5, c9, c15]
          refine ite_K h (fun c21 h => ?_) (fun c21 h => ?_)
          · simp only [go_sem, Nat.reduceAdd, Nat.reduceMul, Nat.reduceEqDiff, Nat.reduceLeDiff, Nat.reduceLT, Nat.reduceBEq, reduceCtorEq, reduceIte, ks0, c1, c5, c9, c15, c21]
            obtain ⟨v9, e22, h⟩ := bind_K h
            refine call_K (by first | exact i_IsTerm_ok e22 | simpa only [go_sem, Nat.reduceAdd, Nat.reduceMul, Nat.reduceEqDiff, Nat.reduceLeDiff, Nat.reduceLT, Nat.reduceBEq, reduceCtorEq, reduceIte, ks0, c1, c5, c9, c15, c21] using i_IsTerm_ok e22) ?_
            simp only [go_sem, Nat.reduceAdd, Nat.reduceMul, Nat.reduceEqDiff, Nat.reduceLeDiff, Nat.reduceLT, Nat.reduceBEq, reduceCtorEq, reduceIte, ks0, c1, c5, c9, c15, c21]
            refine ite_K h (fun c23 h => ?_) (fun c23 h => ?_)
            · simp only [go_sem, Nat.reduceAdd, Nat.reduceMul, Nat.reduceEqDiff, Nat.reduceLeDiff, Nat.reduceLT, Nat.reduceBEq, reduceCtorEq, reduceIte, ks0, c1, c5, c9, c15, c21, c23]
              obtain ⟨v10, e24, h⟩ := bind_K h
              refine call_K (by first | exact i_IsTerm_ok e24 | simpa only [go_sem, Nat.reduceAdd, Nat.reduceMul, Nat.reduceEqDiff, Nat.reduceLeDiff, Nat.reduceLT, Nat.reduceBEq, reduceCtorEq, reduceIte, ks0, c1, c5, c9, c15, c21, c23] using i_IsTerm_ok e24) ?_
              simp only [go_sem, Nat.reduceAdd, Nat.reduceMul, Nat.reduceEqDiff, Nat.reduceLeDiff, Nat.reduceLT, Nat.reduceBEq, reduceCtorEq, reduceIte, ks0, c1, c5, c9, c15, c21, c23]
              refine ite_K h (fun c25 h => ?_) (fun c25 h => ?_)
              · simp only [go_sem, Nat.reduceAdd, Nat.reduceMul, Nat.reduceEqDiff, Nat.reduceLeDiff, Nat.reduceLT, Nat.reduceBEq, reduceCtorEq, reduceIte, ks0, c1, c5, c9, c15, c21, c23, c25]
                obtain ⟨v11, e26, h⟩ := bind_K h
                refine call_K (by first | exact i_zeroPattern_ok e26 | simpa only [go_sem, Nat.reduceAdd, Nat.reduceMul, Nat.reduceEqDiff, Nat.reduceLeDiff, Nat.reduceLT, Nat.reduceBEq, reduceCtorEq, reduceIte, ks0, c1, c5, c9, c15, c21, c23, c25] using i_zeroPattern_ok e26) ?_
                obtain rfl := Option.some.inj h
                simp only [go_sem, Nat.reduceAdd, Nat.reduceMul, Nat.reduceEqDiff, Nat.reduceLeDiff, Nat.reduceLT, Nat.reduceBEq, reduceCtorEq, reduceIte, ks0, c1, c5, c9, c15, c21, c23, c25]
              · obtain rfl := Option.some.inj h
                simp only [go_sem, Nat.reduceAdd, Nat.reduceMul, Nat.reduceEqDiff, Nat.reduceLeDiff, Nat.reduceLT, Nat.reduceBEq, reduceCtorEq, reduceIte, ks0, c1, c5, c9, c15, c21, c23, c25]
            · obtain rfl := Option.some.inj h
              simp only [go_sem, Nat.reduceAdd, Nat.reduceMul, Nat.reduceEqDiff, Nat.reduceLeDiff, Nat.reduceLT, Nat.reduceBEq, reduceCtorEq, reduceIte, ks0, c1, c5, c9, c15, c21, c23]
          · obtain rfl := Option.some.inj h
            simp only [go_sem, Nat.reduceAdd, Nat.reduceMul, Nat.reduceEqDiff, Nat.reduceLeDiff, Nat.reduceLT, Nat.reduceBEq, reduceCtorEq, reduceIte, ks0, c1, c5, c9, c15, c21]
theorem i_occursElsewhere_ok {r_0 : RuleD} {k_1 : Int} {v_2 : ByteArray} {r : Bool} (h : i_occursElsewhere r_0 k_1 v_2 = some r) : Sound Try.prog J0 175 [(true, eRule r_0), (false, [.int .i64 k_1]), (false, [.str v_2])] [(false, [(false, .bool r)])] := by
  refine fnk Try.func175 (by kernel_rfl) rfl (by kernel_rfl) (by kernel_rfl) ?_
  unfold i_occursElsewhere at h
  simp only [fnS, f175, argSt, go_sem, Nat.reduceAdd, Nat.reduceMul, Nat.reduceEqDiff, Nat.reduceLeDiff, Nat.reduceLT, Nat.reduceBEq, reduceCtorEq, reduceIte]
  refine swp_for h (fun i _ st => IV [(1, .p false [.c (.int .i64 k_1)]), (2, .p false [.c (.str v_2)]), (3, .bp 0 0), (12, .p false [.c (.sl 120 5 (List.map eCond r_0.cond))]), (13, .p false [.c (.int .i64 ((r_0.cond.length : Nat) : Int))]), (14, .p false [.c (.int .i64 ((i : Nat) : Int))])] [.box 75 [.c (.str r_0.name), .c (.int .i64 r_0.priority), .c (.sl 120 5 (List.map eCond r_0.cond)), .c (.sl 128 3 (List.map eAction r_0.thn))]] st) [] [0] (by decide) ?_ ?_ ?_
  · simp only [go_sem, Nat.reduceAdd, Nat.reduceMul, Nat.reduceEqDiff, Nat.reduceLeDiff, Nat.reduceLT, Nat.reduceBEq, reduceCtorEq, reduceIte, IV, sts_cons, sts_nil, obs_cons, obs_nil]
  · rintro i16 x17 ⟨⟩ ⟨sl, ob, n⟩ y1 hx2 hI3 hW4 h hy1
    simp only [IV, sts_cons, sts_nil, obs_cons, obs_nil, and_true, true_and, Nat.reduceAdd, str_len] at hI3
    obtain ⟨⟨g5_1, g5_2, g5_3, g5_12, g5_13, g5_14⟩, og5_0, hn⟩ := hI3
    subst hn
    have hlhx2 := WF.slotL hW4 g5_12 (j := 0) rfl
    simp only [go_sem, Nat.reduceAdd, Nat.reduceMul, Nat.reduceEqDiff, Nat.reduceLeDiff, Nat.reduceLT, Nat.reduceBEq, reduceCtorEq, reduceIte, hx2, lt_t hx2, lt_p hx2, nat_in (lt_n hx2) hlhx2, g5_1, g5_2, g5_3, g5_12, g5_13, g5_14, og5_0]
    refine ite_K h (fun c6 h => ?_) (fun c6 h => ?_)
    · simp only [go_sem, Nat.reduceAdd, Nat.reduceMul, Nat.reduceEqDiff, Nat.reduceLeDiff, Nat.reduceLT, Nat.reduceBEq, reduceCtorEq, reduceIte, hx2, lt_t hx2, lt_p hx2, nat_in (lt_n hx2) hlhx2, c6, g5_1, g5_2, g5_3, g5_12, g5_13, g5_14, og5_0]
      obtain ⟨v18, e7, h⟩ := bind_K h
      refine call_K (by first | exact i_CondVars_ok e7 | simpa only [go_sem, Nat.reduceAdd, Nat.reduceMul, Nat.reduceEqDiff, Nat.reduceLeDiff, Nat.reduceLT, Nat.reduceBEq, reduceCtorEq, reduceIte, hx2, lt_t hx2, lt_p hx2, nat_in (lt_n hx2) hlhx2, c6, g5_1, g5_2, g5_3, g5_12, g5_13, g5_14, og5_0] using i_CondVars_ok e7) ?_
      simp only [go_sem, Nat.reduceAdd, Nat.reduceMul, Nat.reduceEqDiff, Nat.reduceLeDiff, Nat.reduceLT, Nat.reduceBEq, reduceCtorEq, reduceIte, hx2, lt_t hx2, lt_p hx2, nat_in (lt_n hx2) hlhx2, c6, g5_1, g5_2, g5_3, g5_12, g5_13, g5_14, og5_0]
      obtain ⟨v19, e8, h⟩ := bind_K h
      refine call_K (by first | exact i_hasText_ok e8 | simpa only [go_sem, Nat.reduceAdd, Nat.reduceMul, Nat.reduceEqDiff, Nat.reduceLeDiff, Nat.reduceLT, Nat.reduceBEq, reduceCtorEq, reduceIte, hx2, lt_t hx2, lt_p hx2, nat_in (lt_n hx2) hlhx2, c6, g5_1, g5_2, g5_3, g5_12, g5_13, g5_14, og5_0] using i_hasText_ok e8) ?_
      simp only [go_sem, Nat.reduceAdd, Nat.reduceMul, Nat.reduceEqDiff, Nat.reduceLeDiff, Nat.reduceLT, Nat.reduceBEq, reduceCtorEq, reduceIte, hx2, lt_t hx2, lt_p hx2, nat_in (lt_n hx2) hlhx2, c6, g5_1, g5_2, g5_3, g5_12, g5_13, g5_14, og5_0]
      refine ite_K h (fun c9 h => ?_) (fun c9 h => ?_)
      · replace h := inr_K h hy1
        obtain rfl := Option.some.inj h
        simp only [go_sem, Nat.reduceAdd, Nat.reduceMul, Nat.reduceEqDiff, Nat.reduceLeDiff, Nat.reduceLT, Nat.reduceBEq, reduceCtorEq, reduceIte, hx2, lt_t hx2, lt_p hx2, nat_in (lt_n hx2) hlhx2, c6, c9, g5_1, g5_2, g5_3, g5_12, g5_13, g5_14, og5_0]
      · simp only [go_sem, Nat.reduceAdd, Nat.reduceMul, Nat.reduceEqDiff, Nat.reduceLeDiff, Nat.reduceLT, Nat.reduceBEq, reduceCtorEq, reduceIte, hx2, lt_t hx2, lt_p hx2, nat_in (lt_n hx2) hlhx2, c6, c9, g5_1, g5_2, g5_3, g5_12, g5_13, g5_14, og5_0]
        refine ⟨_, [], [0], (Option.some.inj h).symm, by decide, ?_⟩
        simp only [go_sem, Nat.reduceAdd, Nat.reduceMul, Nat.reduceEqDiff, Nat.reduceLeDiff, Nat.reduceLT, Nat.reduceBEq, reduceCtorEq, reduceIte, hx2, lt_t hx2, lt_p hx2, nat_in (lt_n hx2) hlhx2, c6, c9, g5_1, g5_2, g5_3, g5_12, g5_13, g5_14, og5_0, IV, sts_cons, sts_nil, obs_cons, obs_nil]
    · simp only [go_sem, Nat.reduceAdd, Nat.reduceMul, Nat.reduceEqDiff, Nat.reduceLeDiff, Nat.reduceLT, Nat.reduceBEq, reduceCtorEq, reduceIte, hx2, lt_t hx2, lt_p hx2, nat_in (lt_n hx2) hlhx2, c6, g5_1, g5_2, g5_3, g5_12, g5_13, g5_14, og5_0]
      refine ⟨_, [], [0], (Option.some.inj h).symm, by decide, ?_⟩
      simp only [go_sem, Nat.reduceAdd, Nat.reduceMul, Nat.reduceEqDiff, Nat.reduceLeDiff, Nat.reduceLT, Nat.reduceBEq, reduceCtorEq, reduceIte, hx2, lt_t hx2, lt_p hx2, nat_in (lt_n hx2) hlhx2, c6, g5_1, g5_2, g5_3, g5_12, g5_13, g5_14, og5_0, IV, sts_cons, sts_nil, obs_cons, obs_nil]
  · rintro ⟨⟩ ⟨sl, ob, n⟩ hI10 hW11 h
    simp only [IV, sts_cons, sts_nil, obs_cons, obs_nil, and_true, true_and, Nat.reduceAdd, str_len] at hI10
    obtain ⟨⟨g12_1, g12_2, g12_3, g12_12, g12_13, g12_14⟩, og12_0, hn⟩ := hI10
    subst hn
    simp only [go_sem, Nat.reduceAdd, Nat.reduceMul, Nat.reduceEqDiff, Nat.reduceLeDiff, Nat.reduceLT, Nat.reduceBEq, reduceCtorEq, reduceIte, lt_f (r_0.cond.length), g12_1, g12_2, g12_3, g12_12, g12_13, g12_14, og12_0]
    refine swp_for h (fun i _ st => IV [(2, .p false [.c (.str v_2)]), (30, .p false [.c (.sl 128 3 (List.map eAction r_0.thn))]), (31, .p false [.c (.int .i64 ((r_0.thn.length : Nat) : Int))]), (32, .p false [.c (.int .i64 ((i : Nat) : Int))])] [] st) [] [] (by decide) ?_ ?_ ?_
    · simp only [go_sem, Nat.reduceAdd, Nat.reduceMul, Nat.reduceEqDiff, Nat.reduceLeDiff, Nat.reduceLT, Nat.reduceBEq, reduceCtorEq, reduceIte, IV, sts_cons, sts_nil, obs_cons, obs_nil, lt_f (r_0.cond.length), g12_1, g12_2, g12_3, g12_12, g12_13, g12_14, og12_0]
    · rintro i25 x26 ⟨⟩ ⟨sl, ob, n⟩ y13 hx14 hI15 hW16 h hy13
      simp only [IV, sts_cons, sts_nil, obs_cons, obs_nil, and_true, true_and, Nat.reduceAdd, str_len] at hI15
      obtain ⟨⟨g17_2, g17_30, g17_31, g17_32⟩, hn⟩ := hI15
      subst hn
      have hlhx14 := WF.slotL hW16 g17_30 (j := 0) rfl
      simp only [go_sem, Nat.reduceAdd, Nat.reduceMul, Nat.reduceEqDiff, Nat.reduceLeDiff, Nat.reduceLT, Nat.reduceBEq, reduceCtorEq, reduceIte, lt_f (r_0.cond.length), hx14, lt_t hx14, lt_p hx14, nat_in (lt_n hx14) hlhx14, g17_2, g17_30, g17_31, g17_32]
      obtain ⟨v27, e18, h⟩ := bind_K h
      refine call_K (by first | exact i_hasText_ok e18 | simpa only [go_sem, Nat.reduceAdd, Nat.reduceMul, Nat.reduceEqDiff, Nat.reduceLeDiff, Nat.reduceLT, Nat.reduceBEq, reduceCtorEq, reduceIte, lt_f (r_0.cond.length), hx14, lt_t hx14, lt_p hx14, nat_in (lt_n hx14) hlhx14, g17_2, g17_30, g17_31, g17_32] using i_hasText_ok e18) ?_
      simp only [go_sem, Nat.reduceAdd, Nat.reduceMul, Nat.reduceEqDiff, Nat.reduceLeDiff, Nat.reduceLT, Nat.reduceBEq, reduceCtorEq, reduceIte, lt_f (r_0.cond.length), hx14, lt_t hx14, lt_p hx14, nat_in (lt_n hx14) hlhx14, g17_2, g17_30, g17_31, g17_32]
      refine ite_K h (fun c19 h => ?_) (fun c19 h => ?_)
      · replace h := inr_K h hy13
        obtain rfl := Option.some.inj h
        simp only [go_sem, Nat.reduceAdd, Nat.reduceMul, Nat.reduceEqDiff, Nat.reduceLeDiff, Nat.reduceLT, Nat.reduceBEq, reduceCtorEq, reduceIte, lt_f (r_0.cond.length), hx14, lt_t hx14, lt_p hx14, nat_in (lt_n hx14) hlhx14, c19, g17_2, g17_30, g17_31, g17_32]
      · simp only [go_sem, Nat.reduceAdd, Nat.reduceMul, Nat.reduceEqDiff, Nat.reduceLeDiff, Nat.reduceLT, Nat.reduceBEq, reduceCtorEq, reduceIte, lt_f (r_0.cond.length), hx14, lt_t hx14, lt_p hx14, nat_in (lt_n hx14) hlhx14, c19, g17_2, g17_30, g17_31, g17_32]
        refine ⟨_, [], [], (Option.some.inj h).symm, by decide, ?_⟩
        simp only [go_sem, Nat.reduceAdd, Nat.reduceMul, Nat.reduceEqDiff, Nat.reduceLeDiff, Nat.reduceLT, Nat.reduceBEq, reduceCtorEq, reduceIte, lt_f (r_0.cond.length), hx14, lt_t hx14, lt_p hx14, nat_in (lt_n hx14) hlhx14, c19, g17_2, g17_30, g17_31, g17_32, IV, sts_cons, sts_nil, obs_cons, obs_nil]
    · rintro ⟨⟩ ⟨sl, ob, n⟩ hI20 hW21 h
      simp only [IV, sts_cons, sts_nil, obs_cons, obs_nil, and_true, true_and, Nat.reduceAdd, str_len] at hI20
      obtain ⟨⟨g22_2, g22_30, g22_31, g22_32⟩, hn⟩ := hI20
      subst hn
      obtain rfl := Option.some.inj h
      simp only [go_sem, Nat.reduceAdd, Nat.reduceMul, Nat.reduceEqDiff, Nat.reduceLeDiff, Nat.reduceLT, Nat.reduceBEq, reduceCtorEq, reduceIte, lt_f (r_0.cond.length), lt_f (r_0.thn.length), g22_2, g22_30, g22_31, g22_32]
end Go.Proofs.Ytgempkloppgnmaa

namespace Go.Proofs.Ytgempkloppgnmaa
open Go.Proofs.Try
set_option linter.unusedSimpArgs false
set_option linter.unusedVariables false
set_option maxRecDepth 10000
set_option maxHeartbeats 4000000
theorem i_IsAction_ok {a_0 : ActionD} {r : Bool} (h : i_IsAction a_0 = some r) : Sound Try.prog J0 140 [(true, eAction a_0)] [(false, [(false, .bool r)])] := by
  refine fnk Try.func140 (by kernel_rfl) rfl (by kernel_rfl) (by kernel_rfl) ?_
  unfold i_IsAction at h
  simp only [fnS, f140, argSt, go_sem, Nat.reduceAdd, Nat.reduceMul, Nat.reduceEqDiff, Nat.reduceLeDiff, Nat.reduceLT, Nat.reduceBEq, reduceCtorEq, reduceIte]
  refine ite_K h (fun c1 h => ?_) (fun c1 h => ?_)
  · simp only [go_sem, Nat.reduceAdd, Nat.reduceMul, Nat.reduceEqDiff, Nat.reduceLeDiff, Nat.reduceLT, Nat.reduceBEq, reduceCtorEq, reduceIte, c1]
    obtain ⟨v1, e2, h⟩ := bind_K h
    refine call_K (by first | exact i_IsPattern_ok e2 | simpa only [go_sem, Nat.reduceAdd, Nat.reduceMul, Nat.reduceEqDiff, Nat.reduceLeDiff, Nat.reduceLT, Nat.reduceBEq, reduceCtorEq, reduceIte, c1] using i_IsPattern_ok e2) ?_
    obtain rfl := Option.some.inj h
    simp only [go_sem, Nat.reduceAdd, Nat.reduceMul, Nat.reduceEqDiff, Nat.reduceLeDiff, Nat.reduceLT, Nat.reduceBEq, reduceCtorEq, reduceIte, c1]
  · simp only [go_sem, Nat.reduceAdd, Nat.reduceMul, Nat.reduceEqDiff, Nat.reduceLeDiff, Nat.reduceLT, Nat.reduceBEq, reduceCtorEq, reduceIte, c1]
    refine ite_K h (fun c3 h => ?_) (fun c3 h => ?_)
    · simp only [go_sem, Nat.reduceAdd, Nat.reduceMul, Nat.reduceEqDiff, Nat.reduceLeDiff, Nat.reduceLT, Nat.reduceBEq, reduceCtorEq, reduceIte, c1, c3]
      obtain ⟨v2, e4, h⟩ := bind_K h
      refine call_K (by first | exact i_IsPattern_ok e4 | simpa only [go_sem, Nat.reduceAdd, Nat.reduceMul, Nat.reduceEqDiff, Nat.reduceLeDiff, Nat.reduceLT, Nat.reduceBEq, reduceCtorEq, reduceIte, c1, c3] using i_IsPattern_ok e4) ?_
      obtain rfl := Option.some.inj h
      simp only [go_sem, Nat.reduceAdd, Nat.reduceMul, Nat.reduceEqDiff, Nat.reduceLeDiff, Nat.reduceLT, Nat.reduceBEq, reduceCtorEq, reduceIte, c1, c3]
    · simp only [go_sem, Nat.reduceAdd, Nat.reduceMul, Nat.reduceEqDiff, Nat.reduceLeDiff, Nat.reduceLT, Nat.reduceBEq, reduceCtorEq, reduceIte, c1, c3]
      refine ite_K h (fun c5 h => ?_) (fun c5 h => ?_)
      · simp only [go_sem, Nat.reduceAdd, Nat.reduceMul, Nat.reduceEqDiff, Nat.reduceLeDiff, Nat.reduceLT, Nat.reduceBEq, reduceCtorEq, reduceIte, c1, c3, c5]
        obtain ⟨v3, e6, h⟩ := bind_K h
        refine call_K (by first | exact i_zeroPattern_ok e6 | simpa only [go_sem, Nat.reduceAdd, Nat.reduceMul, Nat.reduceEqDiff, Nat.reduceLeDiff, Nat.reduceLT, Nat.reduceBEq, reduceCtorEq, reduceIte, c1, c3, c5] using i_zeroPattern_ok e6) ?_
        obtain rfl := Option.some.inj h
        simp only [go_sem, Nat.reduceAdd, Nat.reduceMul, Nat.reduceEqDiff, Nat.reduceLeDiff, Nat.reduceLT, Nat.reduceBEq, reduceCtorEq, reduceIte, c1, c3, c5]
      · obtain rfl := Option.some.inj h
        simp only [go_sem, Nat.reduceAdd, Nat.reduceMul, Nat.reduceEqDiff, Nat.reduceLeDiff, Nat.reduceLT, Nat.reduceBEq, reduceCtorEq, reduceIte, c1, c3, c5]
theorem i_condVarsOf_ok {l_0 : (List CondD)} {r : (List ByteArray)} (h : i_condVarsOf l_0 = some r) : Sound Try.prog J0 142 [(false, [.sl 120 5 (List.map eCond l_0)])] [(false, [(false, .sl 9 1 (List.map eStr r))])] := by
  refine fnk Try.func142 (by kernel_rfl) rfl (by kernel_rfl) (by kernel_rfl) ?_
  unfold i_condVarsOf at h
  simp only [fnS, f142, argSt, go_sem, Nat.reduceAdd, Nat.reduceMul, Nat.reduceEqDiff, Nat.reduceLeDiff, Nat.reduceLT, Nat.reduceBEq, reduceCtorEq, reduceIte]
  refine swp_for h (fun i row_5 st => IV [(3, .p false [.row 0]), (6, .p false [.c (.sl 120 5 (List.map eCond l_0))]), (7, .p false [.c (.int .i64 ((l_0.length : Nat) : Int))]), (8, .p false [.c (.int .i64 ((i : Nat) : Int))])] [.row 9 1 (List.map eStr row_5) 2] st) [(false, 3, 0)] [80] (by decide) ?_ ?_ ?_
  · simp only [go_sem, Nat.reduceAdd, Nat.reduceMul, Nat.reduceEqDiff, Nat.reduceLeDiff, Nat.reduceLT, Nat.reduceBEq, reduceCtorEq, reduceIte, IV, sts_cons, sts_nil, obs_cons, obs_nil]
  · rintro i9 x10 row_5 ⟨sl, ob, n⟩ y1 hx2 hI3 hW4 h hy1
    simp only [IV, sts_cons, sts_nil, obs_cons, obs_nil, and_true, true_and, Nat.reduceAdd, str_len] at hI3
    obtain ⟨⟨g5_3, g5_6, g5_7, g5_8⟩, og5_0, hn⟩ := hI3
    subst hn
    have hlhx2 := WF.slotL hW4 g5_6 (j := 0) rfl
    simp only [go_sem, Nat.reduceAdd, Nat.reduceMul, Nat.reduceEqDiff, Nat.reduceLeDiff, Nat.reduceLT, Nat.reduceBEq, reduceCtorEq, reduceIte, hx2, lt_t hx2, lt_p hx2, nat_in (lt_n hx2) hlhx2, g5_3, g5_6, g5_7, g5_8, og5_0]
    obtain ⟨v11, e6, h⟩ := bind_K h
    refine call_K (by first | exact i_CondVars_ok e6 | simpa only [go_sem, Nat.reduceAdd, Nat.reduceMul, Nat.reduceEqDiff, Nat.reduceLeDiff, Nat.reduceLT, Nat.reduceBEq, reduceCtorEq, reduceIte, hx2, lt_t hx2, lt_p hx2, nat_in (lt_n hx2) hlhx2, g5_3, g5_6, g5_7, g5_8, og5_0] using i_CondVars_ok e6) ?_
    obtain ⟨p7, h⟩ := chk_K h
    try simp only [Nat.reduceLeDiff] at p7
    simp only [go_sem, Nat.reduceAdd, Nat.reduceMul, Nat.reduceEqDiff, Nat.reduceLeDiff, Nat.reduceLT, Nat.reduceBEq, reduceCtorEq, reduceIte, hx2, lt_t hx2, lt_p hx2, nat_in (lt_n hx2) hlhx2, p7, g5_3, g5_6, g5_7, g5_8, og5_0]
    refine ⟨_, [], [129], (Option.some.inj h).symm, by decide, ?_⟩
    simp only [go_sem, Nat.reduceAdd, Nat.reduceMul, Nat.reduceEqDiff, Nat.reduceLeDiff, Nat.reduceLT, Nat.reduceBEq, reduceCtorEq, reduceIte, hx2, lt_t hx2, lt_p hx2, nat_in (lt_n hx2) hlhx2, p7, g5_3, g5_6, g5_7, g5_8, og5_0, IV, sts_cons, sts_nil, obs_cons, obs_nil]
  · rintro row_5 ⟨sl, ob, n⟩ hI8 hW9 h
    simp only [IV, sts_cons, sts_nil, obs_cons, obs_nil, and_true, true_and, Nat.reduceAdd, str_len] at hI8
    obtain ⟨⟨g10_3, g10_6, g10_7, g10_8⟩, og10_0, hn⟩ := hI8
    subst hn
    obtain rfl := Option.some.inj h
    simp only [go_sem, Nat.reduceAdd, Nat.reduceMul, Nat.reduceEqDiff, Nat.reduceLeDiff, Nat.reduceLT, Nat.reduceBEq, reduceCtorEq, reduceIte, lt_f (l_0.length), g10_3, g10_6, g10_7, g10_8, og10_0]
end Go.Proofs.Ytgempkloppgnmaa

namespace Go.Proofs.Ytgempkloppgnmaa
open Go.Proofs.Try
set_option linter.unusedSimpArgs false
set_option linter.unusedVariables false
set_option maxRecDepth 10000
set_option maxHeartbeats 4000000
theorem s_IsCond_ok {x_0 : CondD} {r : Bool} (h : s_IsCond x_0 = some r) : Sound Try.prog J0 129 [(true, eCond x_0)] [(false, [(false, .bool r)])] := by
  refine fnk Try.func129 (by kernel_rfl) rfl (by kernel_rfl) (by kernel_rfl) ?_
  unfold s_IsCond at h
  have ks0 : strOk ⟨#[]⟩ = true := by decide
  simp only [fnS, f129, argSt, go_sem, Nat.reduceAdd, Nat.reduceMul, Nat.reduceEqDiff, Nat.reduceLeDiff, Nat.reduceLT, Nat.reduceBEq, reduceCtorEq, reduceIte, ks0]
  refine ite_K h (fun c1 h => ?_) (fun c1 h => ?_)
  · simp only [go_sem, Nat.reduceAdd, Nat.reduceMul, Nat.reduceEqDiff, Nat.reduceLeDiff, Nat.reduceLT, Nat.reduceBEq, reduceCtorEq, reduceIte, ks0, c1]
    obtain ⟨v1, e2, h⟩ := bind_K h
    refine call_K (by first | exact s_IsPattern_ok e2 | simpa only [go_sem, Nat.reduceAdd, Nat.reduceMul, Nat.reduceEqDiff, Nat.reduceLeDiff, Nat.reduceLT, Nat.reduceBEq, reduceCtorEq, reduceIte, ks0, c1] using s_IsPattern_ok e2) ?_
    simp only [go_sem, Nat.reduceAdd, Nat.reduceMul, Nat.reduceEqDiff, Nat.reduceLeDiff, Nat.reduceLT, Nat.reduceBEq, reduceCtorEq, reduceIte, ks0, c1]
    refine ite_K h (fun c3 h => ?_) (fun c3 h => ?_)
    · simp only [go_sem, Nat.reduceAdd, Nat.reduceMul, Nat.reduceEqDiff, Nat.reduceLeDiff, Nat.reduceLT, Nat.reduceBEq, reduceCtorEq, reduceIte, ks0, c1, c3]
      refine ite_K h (fun c4 h => ?_) (fun c4 h => ?_)
      · obtain rfl := Option.some.inj h
        simp only [go_sem, Nat.reduceAdd, Nat.reduceMul, Nat.reduceEqDiff, Nat.reduceLeDiff, Nat.reduceLT, Nat.reduceBEq, reduceCtorEq, reduceIte, ks0, c1, c3, c4]
      · obtain rfl := Option.some.inj h
        simp only [go_sem, Nat.reduceAdd, Nat.reduceMul, Nat.reduceEqDiff, Nat.reduceLeDiff, Nat.reduceLT, Nat.reduceBEq, reduceCtorEq, reduceIte, ks0, c1, c3, c4]
    · obtain rfl := Option.some.inj h
      simp only [go_sem, Nat.reduceAdd, Nat.reduceMul, Nat.reduceEqDiff, Nat.reduceLeDiff, Nat.reduceLT, Nat.reduceBEq, reduceCtorEq, reduceIte, ks0, c1, c3]
  · simp only [go_sem, Nat.reduceAdd, Nat.reduceMul, Nat.reduceEqDiff, Nat.reduceLeDiff, Nat.reduceLT, Nat.reduceBEq, reduceCtorEq, reduceIte, ks0, c1]
    refine ite_K h (fun c5 h => ?_) (fun c5 h => ?_)
    · simp only [go_sem, Nat.reduceAdd, Nat.reduceMul, Nat.reduceEqDiff, Nat.reduceLeDiff, Nat.reduceLT, Nat.reduceBEq, reduceCtorEq, reduceIte, ks0, c1, c5]
      obtain ⟨v2, e6, h⟩ := bind_K h
      refine call_K (by first | exact s_IsPattern_ok e6 | simpa only [go_sem, Nat.reduceAdd, Nat.reduceMul, Nat.reduceEqDiff, Nat.reduceLeDiff, Nat.reduceLT, Nat.reduceBEq, reduceCtorEq, reduceIte, ks0, c1, c5] using s_IsPattern_ok e6) ?_
      simp only [go_sem, Nat.reduceAdd, Nat.reduceMul, Nat.reduceEqDiff, Nat.reduceLeDiff, Nat.reduceLT, Nat.reduceBEq, reduceCtorEq, reduceIte, ks0, c1, c5]
      refine ite_K h (fun c7 h => ?_) (fun c7 h => ?_)
      · simp only [go_sem, Nat.reduceAdd, Nat.reduceMul, Nat.reduceEqDiff, Nat.reduceLeDiff, Nat.reduceLT, Nat.reduceBEq, reduceCtorEq, reduceIte, ks0, c1, c5, c7]
        refine ite_K h (fun c8 h => ?_) (fun c8 h => ?_)
        · obtain rfl := Option.some.inj h
          simp only [go_sem, Nat.reduceAdd, Nat.reduceMul, Nat.reduceEqDiff, Nat.reduceLeDiff, Nat.reduceLT, Nat.reduceBEq, reduceCtorEq, reduceIte, ks0, c1, c5, c7, c8]
        · obtain rfl := Option.some.inj h
          simp only [go_sem, Nat.reduceAdd, Nat.reduceMul, Nat.reduceEqDiff, Nat.reduceLeDiff, Nat.reduceLT, Nat.reduceBEq, reduceCtorEq, reduceIte, ks0, c1, c5, c7, c8]
      · obtain rfl := Option.some.inj h
        simp only [go_sem, Nat.reduceAdd, Nat.reduceMul, Nat.reduceEqDiff, Nat.reduceLeDiff, Nat.reduceLT, Nat.reduceBEq, reduceCtorEq, reduceIte, ks0, c1, c5, c7]
    · simp only [go_sem, Nat.reduceAdd, Nat.reduceMul, Nat.reduceEqDiff, Nat.reduceLeDiff, Nat.reduceLT, Nat.reduceBEq, reduceCtorEq, reduceIte, ks0, c1, c5]
      refine ite_K h (fun c9 h => ?_) (fun c9 h => ?_)
      · simp only [go_sem, Nat.reduceAdd, Nat.reduceMul, Nat.reduceEqDiff, Nat.reduceLeDiff, Nat.reduceLT, Nat.reduceBEq, reduceCtorEq, reduceIte, ks0, c1, c5, c9]
        refine ite_K h (fun c10 h => ?_) (fun c10 h => ?_)
        · simp only [go_sem, Nat.reduceAdd, Nat.reduceMul, Nat.reduceEqDiff, Nat.reduceLeDiff, Nat.reduceLT, Nat.reduceBEq, reduceCtorEq, reduceIte, ks0, c1, c5, c9, c10]
          refine ite_K h (fun c11 h => ?_) (fun c11 h => ?_)
          · simp only [go_sem, Nat.reduceAdd, Nat.reduceMul, Nat.reduceEqDiff, Nat.reduceLeDiff, Nat.reduceLT, Nat.reduceBEq, reduceCtorEq, reduceIte, ks0, c1, c5, c9, c10, c11]
            obtain ⟨v3, e12, h⟩ := bind_K h
            refine call_K (by first | exact s_IsTerm_ok e12 | simpa only [go_sem, Nat.reduceAdd, Nat.reduceMul, Nat.reduceEqDiff, Nat.reduceLeDiff, Nat.reduceLT, Nat.reduceBEq, reduceCtorEq, reduceIte, ks0, c1, c5, c9, c10, c11] using s_IsTerm_ok e12) ?_
            simp only [go_sem, Nat.reduceAdd, Nat.reduceMul, Nat.reduceEqDiff, Nat.reduceLeDiff, Nat.reduceLT, Nat.reduceBEq, reduceCtorEq, reduceIte, ks0, c1, c5, c9, c10, c11]
            refine ite_K h (fun c13 h => ?_) (fun c13 h => ?_)
            · simp only [go_sem, Nat.reduceAdd, Nat.reduceMul, Nat.reduceEqDiff, Nat.reduceLeDiff, Nat.reduceLT, Nat.reduceBEq, reduceCtorEq, reduceIte, ks0, c1, c5, c9, c10, c11, c13]
              obtain ⟨v4, e14, h⟩ := bind_K h
              refine call_K (by first | exact s_IsTerm_ok e14 | simpa only [go_sem, Nat.reduceAdd, Nat.reduceMul, Nat.reduceEqDiff, Nat.reduceLeDiff, Nat.reduceLT, Nat.reduceBEq, reduceCtorEq, reduceIte, ks0, c1, c5, c9, c10, c11, c13] using s_IsTerm_ok e14) ?_
              obtain rfl := Option.some.inj h
              simp only [go_sem, Nat.reduceAdd, Nat.reduceMul, Nat.reduceEqDiff, Nat.reduceLeDiff, Nat.reduceLT, Nat.reduceBEq, reduceCtorEq, reduceIte, ks0, c1, c5, c9, c10, c11, c13]
            · obtain rfl := Option.some.inj h
              simp only [go_sem, Nat.reduceAdd, Nat.reduceMul, Nat.reduceEqDiff, Nat.reduceLeDiff, Nat.reduceLT, Nat.reduceBEq, reduceCtorEq, reduceIte, ks0, c1, c5, c9, c10, c11, c13]
          · obtain rfl := Option.some.inj h
            simp only [go_sem, Nat.reduceAdd, Nat.reduceMul, Nat.reduceEqDiff, Nat.reduceLeDiff, Nat.reduceLT, Nat.reduceBEq, reduceCtorEq, reduceIte, ks0, c1, c5, c9, c10, c11]
        · obtain rfl := Option.some.inj h
          simp only [go_sem, Nat.reduceAdd, Nat.reduceMul, Nat.reduceEqDiff, Nat.reduceLeDiff, Nat.reduceLT, Nat.reduceBEq, reduceCtorEq, reduceIte, ks0, c1, c5, c9, c10]
      · simp only [go_sem, Nat.reduceAdd, Nat.reduceMul, Nat.reduceEqDiff, Nat.reduceLeDiff, Nat.reduceLT, Nat.reduceBEq, reduceCtorEq, reduceIte, ks0, c1, c5, c9]
        refine ite_K h (fun c15 h => ?_) (fun c15 h => ?_)
        · simp only [go_sem, Nat.reduceAdd, Nat.reduceMul, Nat.reduceEqDiff, Nat.reduceLeDiff, Nat.reduceLT, Nat.reduceBEq, reduceCtorEq, reduceIte, ks0, c1, c5, c9, c15]
          refine ite_K h (fun c16 h => ?_) (fun c16 h => ?_)
          · simp only [go_sem, Nat.reduceAdd, Nat.reduceMul, Nat.reduceEqDiff, Nat.reduceLeDiff, Nat.reduceLT, Nat.reduceBEq, reduceCtorEq, reduceIte, ks0, c1, c5, c9, c15, c16]
            refine ite_K h (fun c17 h => ?_) (fun c17 h => ?_)
            · simp only [go_sem, Nat.reduceAdd, Nat.reduceMul, Nat.reduceEqDiff, Nat.reduceLeDiff, Nat.reduceLT, Nat.reduceBEq, reduceCtorEq, reduceIte, ks0, c1, c5, c9, c15, c16, c17]
              obtain ⟨v5, e18, h⟩ := bind_K h
              refine call_K (by first | exact s_IsTerm_ok e18 | simpa only [go_sem, Nat.reduceAdd, Nat.reduceMul, Nat.reduceEqDiff, Nat.reduceLeDiff, Nat.reduceLT, Nat.reduceBEq, reduceCtorEq, reduceIte, ks0, c1, c5, c9, c15, c16, c17] using s_IsTerm_ok e18) ?_
              simp only [go_sem, Nat.reduceAdd, Nat.reduceMul, Nat.reduceEqDiff, Nat.reduceLeDiff, Nat.reduceLT, Nat.reduceBEq, reduceCtorEq, reduceIte, ks0, c1, c5, c9, c15, c16, c17]
              refine ite_K h (fun c19 h => ?_) (fun c19 h => ?_)
              · simp only [go_sem, Nat.reduceAdd, Nat.reduceMul, Nat.reduceEqDiff, Nat.reduceLeDiff, Nat.reduceLT, Nat.reduceBEq, reduceCtorEq, reduceIte, ks0, c1, c5, c9, c15, c16, c17, c19]
                obtain ⟨v6, e20, h⟩ := bind_K h
                refine call_K (by first | exact s_IsTerm_ok e20 | simpa only [go_sem, Nat.reduceAdd, Nat.reduceMul, Nat.reduceEqDiff, Nat.reduceLeDiff, Nat.reduceLT, Nat.reduceBEq, reduceCtorEq, reduceIte, ks0, c1, c5, c9, c15, c16, c17, c19] using s_IsTerm_ok e20) ?_
                obtain rfl := Option.some.inj h
                simp only [go_sem, Nat.reduceAdd, Nat.reduceMul, Nat.reduceEqDiff, Nat.reduceLeDiff, Nat.reduceLT, Nat.reduceBEq, reduceCtorEq, reduceIte, ks0, c1, c5, c9, c15, c16, c17, c19]
              · obtain rfl := Option.some.inj h
                simp only [go_sem, Nat.reduceAdd, Nat.reduceMul, Nat.reduceEqDiff, Nat.reduceLeDiff, Nat.reduceLT, Nat.reduceBEq, reduceCtorEq, reduceIte, ks0, c1, c5, c9, c15, c16, c17, c19]
            · obtain rfl := Option.some.inj h
              simp only [go_sem, Nat.reduceAdd, Nat.reduceMul, Nat.reduceEqDiff, Nat.reduceLeDiff, Nat.reduceLT, Nat.reduceBEq, reduceCtorEq, reduceIte, ks0, c1, c5, c9, c15, c16, c17]
          · obtain rfl := Option.some.inj h
            simp only [go_sem, Nat.reduceAdd, Nat.reduceMul, Nat.reduceEqDiff, Nat.reduceLeDiff, Nat.reduceLT, Nat.reduceBEq, reduceCtorEq, reduceIte, ks0, c1, c5, c9, c15, c16]
        · simp only [go_sem, Nat.reduceAdd, Nat.reduceMul, Nat.reduceEqDiff, Nat.reduceLeDiff, Nat.reduceLT, Nat.reduceBEq, reduceCtorEq, reduceIte, ks0, c1, c5, c9, c15]
          refine ite_K h (fun c21 h => ?_) (fun c21 h => ?_)
          · simp only [go_sem, Nat.reduceAdd, Nat.reduceMul, Nat.reduceEqDiff, Nat.reduceLeDiff, Nat.reduceLT, Nat.reduceBEq, reduceCtorEq, reduceIte, ks0, c1, c5, c9, c15, c21]
            refine ite_K h (fun c22 h => ?_) (fun c22 h => ?_)
            · simp only [go_sem, Nat.reduceAdd, Nat.reduceMul, Nat.reduceEqDiff, Nat.reduceLeDiff, Nat.reduceLT, Nat.reduceBEq, reduceCtorEq, reduceIte, ks0, c1, c5, c9, c15, c21, c22]
              refine ite_K h (fun c23 h => ?_) (fun c23 h => ?_)
              · simp only [go_sem, Nat.reduceAdd, Nat.reduceMul, Nat.reduceEqDiff, Nat.reduceLeDiff, Nat.reduceLT, Nat.reduceBEq, reduceCtorEq, reduceIte, ks0, c1, c5, c9, c15, c21, c22, c23]
                obtain ⟨v7, e24, h⟩ := bind_K h
                refine call_K (by first | exact s_IsTerm_ok e24 | simpa only [go_sem, Nat.reduceAdd, Nat.reduceMul, Nat.reduceEqDiff, Nat.reduceLeDiff, Nat.reduceLT, Nat.reduceBEq, reduceCtorEq, reduceIte, ks0, c1, c5, c9, c15, c21, c22, c23] using s_IsTerm_ok e24) ?_
                simp only [go_sem, Nat.reduceAdd, Nat.reduceMul, Nat.reduceEqDiff, Nat.reduceLeDiff, Nat.reduceLT, Nat.reduceBEq, reduceCtorEq, reduceIte, ks0, c1, c5, c9, c15, c21, c22, c23]
                refine ite_K h (fun c25 h => ?_) (fun c25 h => ?_)
                · simp only [go_sem, Nat.reduceAdd, Nat.reduceMul, Nat.reduceEqDiff, Nat.reduceLeDiff, Nat.reduceLT, Nat.reduceBEq, reduceCtorEq, reduceIte, ks0, c1, c5, c9, c15, c21, c22, c23, c25]
                  obtain ⟨v8, e26, h⟩ := bind_K h
                  refine call_K (by first | exact s_IsTerm_ok e26 | simpa only [go_sem, Nat.reduceAdd, Nat.reduceMul, Nat.reduceEqDiff, Nat.reduceLeDiff, Nat.reduceLT, Nat.reduceBEq, reduceCtorEq, reduceIte, ks0, c1, c5, c9, c15, c21, c22, c23, c25] using s_IsTerm_ok e26) ?_
                  obtain rfl := Option.some.inj h
                  simp only [go_sem, Nat.reduceAdd, Nat.reduceMul, Nat.reduceEqDiff, Nat.reduceLeDiff, Nat.reduceLT, Nat.reduceBEq, reduceCtorEq, reduceIte, ks0, c1, c5, c9, c15, c21, c22, c23, c25]
                · obtain rfl := Option.some.inj h
                  simp only [go_sem, Nat.reduceAdd, Nat.reduceMul, Nat.reduceEqDiff, Nat.reduceLeDiff, Nat.reduceLT, Nat.reduceBEq, reduceCtorEq, reduceIte, ks0, c1, c5, c9, c15, c21, c22, c23, c25]
              · obtain rfl := Option.some.inj h
                simp only [go_sem, Nat.reduceAdd, Nat.reduceMul, Nat.reduceEqDiff, Nat.reduceLeDiff, Nat.reduceLT, Nat.reduceBEq, reduceCtorEq, reduceIte, ks0, c1, c5, c9, c15, c21, c22, c23]
            · obtain rfl := Option.some.inj h
              simp only [go_sem, Nat.reduceAdd, Nat.reduceMul, Nat.reduceEqDiff, Nat.reduceLeDiff, Nat.reduceLT, Nat.reduceBEq, reduceCtorEq, reduceIte, ks0, c1, c5, c9, c15, c21, c22]
          · obtain rfl := Option.some.inj h
            simp only [go_sem, Nat.reduceAdd, Nat.reduceMul, Nat.reduceEqDiff, Nat.reduceLeDiff, Nat.reduceLT, Nat.reduceBEq, reduceCtorEq, reduceIte, ks0, c1, c5, c9, c15, c21]
theorem s_l5Elsewhere_ok {r_0 : RuleD} {i_1 : Int} {v_2 : ByteArray} {r : Bool} (h : s_l5Elsewhere r_0 i_1 v_2 = some r) : Sound Try.prog J0 131 [(true, eRule r_0), (false, [.int .i64 i_1]), (false, [.str v_2])] [(false, [(false, .bool r)])] := by
  refine fnk Try.func131 (by kernel_rfl) rfl (by kernel_rfl) (by kernel_rfl) ?_
  unfold s_l5Elsewhere at h
  simp only [fnS, f131, argSt, go_sem, Nat.reduceAdd, Nat.reduceMul, Nat.reduceEqDiff, Nat.reduceLeDiff, Nat.reduceLT, Nat.reduceBEq, reduceCtorEq, reduceIte]
  refine swp_for h (fun i _ st => IV [(1, .p false [.c (.int .i64 i_1)]), (2, .p false [.c (.str v_2)]), (3, .bp 0 0), (7, .p false [.c (.int .i64 ((i : Nat) : Int))])] [.box 75 [.c (.str r_0.name), .c (.int .i64 r_0.priority), .c (.sl 120 5 (List.map eCond r_0.cond)), .c (.sl 128 3 (List.map eAction r_0.thn))]] st) [] [0] (by decide) ?_ ?_ ?_
  · simp only [go_sem, Nat.reduceAdd, Nat.reduceMul, Nat.reduceEqDiff, Nat.reduceLeDiff, Nat.reduceLT, Nat.reduceBEq, reduceCtorEq, reduceIte, IV, sts_cons, sts_nil, obs_cons, obs_nil]
  · rintro i19 x20 ⟨⟩ ⟨sl, ob, n⟩ y1 hx2 hI3 hW4 h hy1
    simp only [IV, sts_cons, sts_nil, obs_cons, obs_nil, and_true, true_and, Nat.reduceAdd, str_len] at hI3
    obtain ⟨⟨g5_1, g5_2, g5_3, g5_7⟩, og5_0, hn⟩ := hI3
    subst hn
    have hlhx2 := WF.boxL hW4 og5_0 (j := 2) rfl
    simp only [go_sem, Nat.reduceAdd, Nat.reduceMul, Nat.reduceEqDiff, Nat.reduceLeDiff, Nat.reduceLT, Nat.reduceBEq, reduceCtorEq, reduceIte, hx2, lt_t hx2, lt_p hx2, nat_in (lt_n hx2) hlhx2, g5_1, g5_2, g5_3, g5_7, og5_0]
    refine ite_K h (fun c6 h => ?_) (fun c6 h => ?_)
    · simp only [go_sem, Nat.reduceAdd, Nat.reduceMul, Nat.reduceEqDiff, Nat.reduceLeDiff, Nat.reduceLT, Nat.reduceBEq, reduceCtorEq, reduceIte, hx2, lt_t hx2, lt_p hx2, nat_in (lt_n hx2) hlhx2, c6, g5_1, g5_2, g5_3, g5_7, og5_0]
      obtain ⟨v21, e7, h⟩ := bind_K h
      refine call_K (by first | exact s_CondVars_ok e7 | simpa only [go_sem, Nat.reduceAdd, Nat.reduceMul, Nat.reduceEqDiff, Nat.reduceLeDiff, Nat.reduceLT, Nat.reduceBEq, reduceCtorEq, reduceIte, hx2, lt_t hx2, lt_p hx2, nat_in (lt_n hx2) hlhx2, c6, g5_1, g5_2, g5_3, g5_7, og5_0] using s_CondVars_ok e7) ?_
      simp only [go_sem, Nat.reduceAdd, Nat.reduceMul, Nat.reduceEqDiff, Nat.reduceLeDiff, Nat.reduceLT, Nat.reduceBEq, reduceCtorEq, reduceIte, hx2, lt_t hx2, lt_p hx2, nat_in (lt_n hx2) hlhx2, c6, g5_1, g5_2, g5_3, g5_7, og5_0]
      obtain ⟨v22, e8, h⟩ := bind_K h
      refine call_K (by first | exact s_l1HasText_ok e8 | simpa only [go_sem, Nat.reduceAdd, Nat.reduceMul, Nat.reduceEqDiff, Nat.reduceLeDiff, Nat.reduceLT, Nat.reduceBEq, reduceCtorEq, reduceIte, hx2, lt_t hx2, lt_p hx2, nat_in (lt_n hx2) hlhx2, c6, g5_1, g5_2, g5_3, g5_7, og5_0] using s_l1HasText_ok e8) ?_
      simp only [go_sem, Nat.reduceAdd, Nat.reduceMul, Nat.reduceEqDiff, Nat.reduceLeDiff, Nat.reduceLT, Nat.reduceBEq, reduceCtorEq, reduceIte, hx2, lt_t hx2, lt_p hx2, nat_in (lt_n hx2) hlhx2, c6, g5_1, g5_2, g5_3, g5_7, og5_0]
      refine ite_K h (fun c9 h => ?_) (fun c9 h => ?_)
      · replace h := inr_K h hy1
        obtain rfl := Option.some.inj h
        simp only [go_sem, Nat.reduceAdd, Nat.reduceMul, Nat.reduceEqDiff, Nat.reduceLeDiff, Nat.reduceLT, Nat.reduceBEq, reduceCtorEq, reduceIte, hx2, lt_t hx2, lt_p hx2, nat_in (lt_n hx2) hlhx2, c6, c9, g5_1, g5_2, g5_3, g5_7, og5_0]
      · simp only [go_sem, Nat.reduceAdd, Nat.reduceMul, Nat.reduceEqDiff, Nat.reduceLeDiff, Nat.reduceLT, Nat.reduceBEq, reduceCtorEq, reduceIte, hx2, lt_t hx2, lt_p hx2, nat_in (lt_n hx2) hlhx2, c6, c9, g5_1, g5_2, g5_3, g5_7, og5_0]
        refine ⟨_, [], [0], (Option.some.inj h).symm, by decide, ?_⟩
        simp only [go_sem, Nat.reduceAdd, Nat.reduceMul, Nat.reduceEqDiff, Nat.reduceLeDiff, Nat.reduceLT, Nat.reduceBEq, reduceCtorEq, reduceIte, hx2, lt_t hx2, lt_p hx2, nat_in (lt_n hx2) hlhx2, c6, c9, g5_1, g5_2, g5_3, g5_7, og5_0, IV, sts_cons, sts_nil, obs_cons, obs_nil]
    · simp only [go_sem, Nat.reduceAdd, Nat.reduceMul, Nat.reduceEqDiff, Nat.reduceLeDiff, Nat.reduceLT, Nat.reduceBEq, reduceCtorEq, reduceIte, hx2, lt_t hx2, lt_p hx2, nat_in (lt_n hx2) hlhx2, c6, g5_1, g5_2, g5_3, g5_7, og5_0]
      refine ⟨_, [], [0], (Option.some.inj h).symm, by decide, ?_⟩
      simp only [go_sem, Nat.reduceAdd, Nat.reduceMul, Nat.reduceEqDiff, Nat.reduceLeDiff, Nat.reduceLT, Nat.reduceBEq, reduceCtorEq, reduceIte, hx2, lt_t hx2, lt_p hx2, nat_in (lt_n hx2) hlhx2, c6, g5_1, g5_2, g5_3, g5_7, og5_0, IV, sts_cons, sts_nil, obs_cons, obs_nil]
  · rintro ⟨⟩ ⟨sl, ob, n⟩ hI10 hW11 h
    simp only [IV, sts_cons, sts_nil, obs_cons, obs_nil, and_true, true_and, Nat.reduceAdd, str_len] at hI10
    obtain ⟨⟨g12_1, g12_2, g12_3, g12_7⟩, og12_0, hn⟩ := hI10
    subst hn
    simp only [go_sem, Nat.reduceAdd, Nat.reduceMul, Nat.reduceEqDiff, Nat.reduceLeDiff, Nat.reduceLT, Nat.reduceBEq, reduceCtorEq, reduceIte, lt_f (r_0.cond.length), g12_1, g12_2, g12_3, g12_7, og12_0]
    refine swp_for h (fun i _ st => IV [(2, .p false [.c (.str v_2)]), (3, .bp 0 0), (8, .p false [.c (.int .i64 ((i : Nat) : Int))])] [.box 75 [.c (.str r_0.name), .c (.int .i64 r_0.priority), .c (.sl 120 5 (List.map eCond r_0.cond)), .c (.sl 128 3 (List.map eAction r_0.thn))]] st) [] [0] (by decide) ?_ ?_ ?_
    · simp only [go_sem, Nat.reduceAdd, Nat.reduceMul, Nat.reduceEqDiff, Nat.reduceLeDiff, Nat.reduceLT, Nat.reduceBEq, reduceCtorEq, reduceIte, IV, sts_cons, sts_nil, obs_cons, obs_nil, lt_f (r_0.cond.length), g12_1, g12_2, g12_3, g12_7, og12_0]
    · rintro i30 x31 ⟨⟩ ⟨sl, ob, n⟩ y13 hx14 hI15 hW16 h hy13
      simp only [IV, sts_cons, sts_nil, obs_cons, obs_nil, and_true, true_and, Nat.reduceAdd, str_len] at hI15
      obtain ⟨⟨g17_2, g17_3, g17_8⟩, og17_0, hn⟩ := hI15
      subst hn
      have hlhx14 := WF.boxL hW16 og17_0 (j := 3) rfl
      simp only [go_sem, Nat.reduceAdd, Nat.reduceMul, Nat.reduceEqDiff, Nat.reduceLeDiff, Nat.reduceLT, Nat.reduceBEq, reduceCtorEq, reduceIte, lt_f (r_0.cond.length), hx14, lt_t hx14, lt_p hx14, nat_in (lt_n hx14) hlhx14, g17_2, g17_3, g17_8, og17_0]
      obtain ⟨v32, e18, h⟩ := bind_K h
      refine call_K (by first | exact s_VarsOf_ok e18 | simpa only [go_sem, Nat.reduceAdd, Nat.reduceMul, Nat.reduceEqDiff, Nat.reduceLeDiff, Nat.reduceLT, Nat.reduceBEq, reduceCtorEq, reduceIte, lt_f (r_0.cond.length), hx14, lt_t hx14, lt_p hx14, nat_in (lt_n hx14) hlhx14, g17_2, g17_3, g17_8, og17_0] using s_VarsOf_ok e18) ?_
      simp only [go_sem, Nat.reduceAdd, Nat.reduceMul, Nat.reduceEqDiff, Nat.reduceLeDiff, Nat.reduceLT, Nat.reduceBEq, reduceCtorEq, reduceIte, lt_f (r_0.cond.length), hx14, lt_t hx14, lt_p hx14, nat_in (lt_n hx14) hlhx14, g17_2, g17_3, g17_8, og17_0]
      obtain ⟨v33, e19, h⟩ := bind_K h
      refine call_K (by first | exact s_l1HasText_ok e19 | simpa only [go_sem, Nat.reduceAdd, Nat.reduceMul, Nat.reduceEqDiff, Nat.reduceLeDiff, Nat.reduceLT, Nat.reduceBEq, reduceCtorEq, reduceIte, lt_f (r_0.cond.length), hx14, lt_t hx14, lt_p hx14, nat_in (lt_n hx14) hlhx14, g17_2, g17_3, g17_8, og17_0] using s_l1HasText_ok e19) ?_
      simp only [go_sem, Nat.reduceAdd, Nat.reduceMul, Nat.reduceEqDiff, Nat.reduceLeDiff, Nat.reduceLT, Nat.reduceBEq, reduceCtorEq, reduceIte, lt_f (r_0.cond.length), hx14, lt_t hx14, lt_p hx14, nat_in (lt_n hx14) hlhx14, g17_2, g17_3, g17_8, og17_0]
      refine ite_K h (fun c20 h => ?_) (fun c20 h => ?_)
      · replace h := inr_K h hy13
        obtain rfl := Option.some.inj h
        simp only [go_sem, Nat.reduceAdd, Nat.reduceMul, Nat.reduceEqDiff, Nat.reduceLeDiff, Nat.reduceLT, Nat.reduceBEq, reduceCtorEq, reduceIte, lt_f (r_0.cond.length), hx14, lt_t hx14, lt_p hx14, nat_in (lt_n hx14) hlhx14, c20, g17_2, g17_3, g17_8, og17_0]
      · simp only [go_sem, Nat.reduceAdd, Nat.reduceMul, Nat.reduceEqDiff, Nat.reduceLeDiff, Nat.reduceLT, Nat.reduceBEq, reduceCtorEq, reduceIte, lt_f (r_0.cond.length), hx14, lt_t hx14, lt_p hx14, nat_in (lt_n hx14) hlhx14, c20, g17_2, g17_3, g17_8, og17_0]
        refine ⟨_, [], [0], (Option.some.inj h).symm, by decide, ?_⟩
        simp only [go_sem, Nat.reduceAdd, Nat.reduceMul, Nat.reduceEqDiff, Nat.reduceLeDiff, Nat.reduceLT, Nat.reduceBEq, reduceCtorEq, reduceIte, lt_f (r_0.cond.length), hx14, lt_t hx14, lt_p hx14, nat_in (lt_n hx14) hlhx14, c20, g17_2, g17_3, g17_8, og17_0, IV, sts_cons, sts_nil, obs_cons, obs_nil]
    · rintro ⟨⟩ ⟨sl, ob, n⟩ hI21 hW22 h
      simp only [IV, sts_cons, sts_nil, obs_cons, obs_nil, and_true, true_and, Nat.reduceAdd, str_len] at hI21
      obtain ⟨⟨g23_2, g23_3, g23_8⟩, og23_0, hn⟩ := hI21
      subst hn
      obtain rfl := Option.some.inj h
      simp only [go_sem, Nat.reduceAdd, Nat.reduceMul, Nat.reduceEqDiff, Nat.reduceLeDiff, Nat.reduceLT, Nat.reduceBEq, reduceCtorEq, reduceIte, lt_f (r_0.cond.length), lt_f (r_0.thn.length), g23_2, g23_3, g23_8, og23_0]
theorem s_IsAction_ok {a_0 : ActionD} {r : Bool} (h : s_IsAction a_0 = some r) : Sound Try.prog J0 132 [(true, eAction a_0)] [(false, [(false, .bool r)])] := by
  refine fnk Try.func132 (by kernel_rfl) rfl (by kernel_rfl) (by kernel_rfl) ?_
  unfold s_IsAction at h
  have ks0 : strOk ⟨#[]⟩ = true := by decide
  simp only [fnS, f132, argSt, go_sem, Nat.reduceAdd, Nat.reduceMul, Nat.reduceEqDiff, Nat.reduceLeDiff, Nat.reduceLT, Nat.reduceBEq, reduceCtorEq, reduceIte, ks0]
  refine ite_K h (fun c1 h => ?_) (fun c1 h => ?_)
  · simp only [go_sem, Nat.reduceAdd, Nat.reduceMul, Nat.reduceEqDiff, Nat.reduceLeDiff, Nat.reduceLT, Nat.reduceBEq, reduceCtorEq, reduceIte, ks0, c1]
    obtain ⟨v1, e2, h⟩ := bind_K h
    refine call_K (by first | exact s_IsPattern_ok e2 | simpa only [go_sem, Nat.reduceAdd, Nat.reduceMul, Nat.reduceEqDiff, Nat.reduceLeDiff, Nat.reduceLT, Nat.reduceBEq, reduceCtorEq, reduceIte, ks0, c1] using s_IsPattern_ok e2) ?_
    obtain rfl := Option.some.inj h
    simp only [go_sem, Nat.reduceAdd, Nat.reduceMul, Nat.reduceEqDiff, Nat.reduceLeDiff, Nat.reduceLT, Nat.reduceBEq, reduceCtorEq, reduceIte, ks0, c1]
  · simp only [go_sem, Nat.reduceAdd, Nat.reduceMul, Nat.reduceEqDiff, Nat.reduceLeDiff, Nat.reduceLT, Nat.reduceBEq, reduceCtorEq, reduceIte, ks0, c1]
    refine ite_K h (fun c3 h => ?_) (fun c3 h => ?_)
    · simp only [go_sem, Nat.reduceAdd, Nat.reduceMul, Nat.reduceEqDiff, Nat.reduceLeDiff, Nat.reduceLT, Nat.reduceBEq, reduceCtorEq, reduceIte, ks0, c1, c3]
      obtain ⟨v2, e4, h⟩ := bind_K h
      refine call_K (by first | exact s_IsPattern_ok e4 | simpa only [go_sem, Nat.reduceAdd, Nat.reduceMul, Nat.reduceEqDiff, Nat.reduceLeDiff, Nat.reduceLT, Nat.reduceBEq, reduceCtorEq, reduceIte, ks0, c1, c3] using s_IsPattern_ok e4) ?_
      obtain rfl := Option.some.inj h
      simp only [go_sem, Nat.reduceAdd, Nat.reduceMul, Nat.reduceEqDiff, Nat.reduceLeDiff, Nat.reduceLT, Nat.reduceBEq, reduceCtorEq, reduceIte, ks0, c1, c3]
    · simp only [go_sem, Nat.reduceAdd, Nat.reduceMul, Nat.reduceEqDiff, Nat.reduceLeDiff, Nat.reduceLT, Nat.reduceBEq, reduceCtorEq, reduceIte, ks0, c1, c3]
      refine ite_K h (fun c5 h => ?_) (fun c5 h => ?_)
      · simp only [go_sem, Nat.reduceAdd, Nat.reduceMul, Nat.reduceEqDiff, Nat.reduceLeDiff, Nat.reduceLT, Nat.reduceBEq, reduceCtorEq, reduceIte, ks0, c1, c3, c5]
        refine ite_K h (fun c6 h => ?_) (fun c6 h => ?_)
        · obtain rfl := Option.some.inj h
          simp only [go_sem, Nat.reduceAdd, Nat.reduceMul, Nat.reduceEqDiff, Nat.reduceLeDiff, Nat.reduceLT, Nat.reduceBEq, reduceCtorEq, reduceIte, ks0, c1, c3, c5, c6]
        · obtain rfl := Option.some.inj h
          simp only [go_sem, Nat.reduceAdd, Nat.reduceMul, Nat.reduceEqDiff, Nat.reduceLeDiff, Nat.reduceLT, Nat.reduceBEq, reduceCtorEq, reduceIte, ks0, c1, c3, c5, c6]
      · obtain rfl := Option.some.inj h
        simp only [go_sem, Nat.reduceAdd, Nat.reduceMul, Nat.reduceEqDiff, Nat.reduceLeDiff, Nat.reduceLT, Nat.reduceBEq, reduceCtorEq, reduceIte, ks0, c1, c3, c5]
end Go.Proofs.Ytgempkloppgnmaa

namespace Go.Proofs.Ytgempkloppgnmaa
open Go.Proofs.Try
set_option linter.unusedSimpArgs false
set_option linter.unusedVariables false
set_option maxRecDepth 10000
set_option maxHeartbeats 4000000
theorem s_RuleVars_ok {r_0 : RuleD} {r : (List ByteArray)} (h : s_RuleVars r_0 = some r) : Sound Try.prog J0 134 [(true, eRule r_0)] [(false, [(false, .sl 9 1 (List.map eStr r))])] := by
  refine fnk Try.func134 (by kernel_rfl) rfl (by kernel_rfl) (by kernel_rfl) ?_
  unfold s_RuleVars at h
  simp only [fnS, f134, argSt, go_sem, Nat.reduceAdd, Nat.reduceMul, Nat.reduceEqDiff, Nat.reduceLeDiff, Nat.reduceLT, Nat.reduceBEq, reduceCtorEq, reduceIte]
  refine swp_for h (fun i row_12 st => IV [(1, .bp 0 0), (3, .p false [.row 1]), (4, .p false [.c (.int .i64 ((i : Nat) : Int))])] [.box 75 [.c (.str r_0.name), .c (.int .i64 r_0.priority), .c (.sl 120 5 (List.map eCond r_0.cond)), .c (.sl 128 3 (List.map eAction r_0.thn))], .row 9 1 (List.map eStr row_12) 2] st) [] [0, 32] (by decide) ?_ ?_ ?_
  · simp only [go_sem, Nat.reduceAdd, Nat.reduceMul, Nat.reduceEqDiff, Nat.reduceLeDiff, Nat.reduceLT, Nat.reduceBEq, reduceCtorEq, reduceIte, IV, sts_cons, sts_nil, obs_cons, obs_nil]
  · rintro i61 x62 row_12 ⟨sl, ob, n⟩ y1 hx2 hI3 hW4 h hy1
    simp only [IV, sts_cons, sts_nil, obs_cons, obs_nil, and_true, true_and, Nat.reduceAdd, str_len] at hI3
    obtain ⟨⟨g5_1, g5_3, g5_4⟩, og5_0, og5_1, hn⟩ := hI3
    subst hn
    have hlhx2 := WF.boxL hW4 og5_0 (j := 2) rfl
    simp only [go_sem, Nat.reduceAdd, Nat.reduceMul, Nat.reduceEqDiff, Nat.reduceLeDiff, Nat.reduceLT, Nat.reduceBEq, reduceCtorEq, reduceIte, hx2, lt_t hx2, lt_p hx2, nat_in (lt_n hx2) hlhx2, g5_1, g5_3, g5_4, og5_0, og5_1]
    obtain ⟨v63, e6, h⟩ := bind_K h
    refine call_K (by first | exact s_CondVars_ok e6 | simpa only [go_sem, Nat.reduceAdd, Nat.reduceMul, Nat.reduceEqDiff, Nat.reduceLeDiff, Nat.reduceLT, Nat.reduceBEq, reduceCtorEq, reduceIte, hx2, lt_t hx2, lt_p hx2, nat_in (lt_n hx2) hlhx2, g5_1, g5_3, g5_4, og5_0, og5_1] using s_CondVars_ok e6) ?_
    simp only [go_sem, Nat.reduceAdd, Nat.reduceMul, Nat.reduceEqDiff, Nat.reduceLeDiff, Nat.reduceLT, Nat.reduceBEq, reduceCtorEq, reduceIte, hx2, lt_t hx2, lt_p hx2, nat_in (lt_n hx2) hlhx2, g5_1, g5_3, g5_4, og5_0, og5_1]
    refine swp_for h (fun i row_66 st => IV [(1, .bp 0 0), (3, .p false [.row 1]), (4, .p false [.c (.int .i64 ((i61 : Nat) : Int))]), (5, .p false [.row 2]), (6, .p false [.c (.int .i64 ((i : Nat) : Int))])] [.box 75 [.c (.str r_0.name), .c (.int .i64 r_0.priority), .c (.sl 120 5 (List.map eCond r_0.cond)), .c (.sl 128 3 (List.map eAction r_0.thn))], .row 9 1 (List.map eStr row_66) 2, .row 9 1 (List.map eStr v63) 2] st) [] [0, 1, 162] (by decide) ?_ ?_ ?_
    · simp only [go_sem, Nat.reduceAdd, Nat.reduceMul, Nat.reduceEqDiff, Nat.reduceLeDiff, Nat.reduceLT, Nat.reduceBEq, reduceCtorEq, reduceIte, IV, sts_cons, sts_nil, obs_cons, obs_nil, hx2, lt_t hx2, lt_p hx2, nat_in (lt_n hx2) hlhx2, g5_1, g5_3, g5_4, og5_0, og5_1]
    · rintro i70 x71 row_66 ⟨sl, ob, n⟩ y7 hx8 hI9 hW10 h hy7
      simp only [IV, sts_cons, sts_nil, obs_cons, obs_nil, and_true, true_and, Nat.reduceAdd, str_len] at hI9
      obtain ⟨⟨g11_1, g11_3, g11_4, g11_5, g11_6⟩, og11_0, og11_1, og11_2, hn⟩ := hI9
      subst hn
      have hlhx8 := WF.rowL hW10 og11_2
      simp only [go_sem, Nat.reduceAdd, Nat.reduceMul, Nat.reduceEqDiff, Nat.reduceLeDiff, Nat.reduceLT, Nat.reduceBEq, reduceCtorEq, reduceIte, hx2, lt_t hx2, lt_p hx2, nat_in (lt_n hx2) hlhx2, hx8, lt_t hx8, lt_p hx8, nat_in (lt_n hx8) hlhx8, g11_1, g11_3, g11_4, g11_5, g11_6, og11_0, og11_1, og11_2]
      obtain ⟨v72, e12, h⟩ := bind_K h
      refine call_K (by first | exact s_l1Put_ok e12 | simpa only [go_sem, Nat.reduceAdd, Nat.reduceMul, Nat.reduceEqDiff, Nat.reduceLeDiff, Nat.reduceLT, Nat.reduceBEq, reduceCtorEq, reduceIte, hx2, lt_t hx2, lt_p hx2, nat_in (lt_n hx2) hlhx2, hx8, lt_t hx8, lt_p hx8, nat_in (lt_n hx8) hlhx8, g11_1, g11_3, g11_4, g11_5, g11_6, og11_0, og11_1, og11_2] using s_l1Put_ok e12) ?_
      simp only [go_sem, Nat.reduceAdd, Nat.reduceMul, Nat.reduceEqDiff, Nat.reduceLeDiff, Nat.reduceLT, Nat.reduceBEq, reduceCtorEq, reduceIte, hx2, lt_t hx2, lt_p hx2, nat_in (lt_n hx2) hlhx2, hx8, lt_t hx8, lt_p hx8, nat_in (lt_n hx8) hlhx8, g11_1, g11_3, g11_4, g11_5, g11_6, og11_0, og11_1, og11_2]
      refine ⟨_, [], [0, 147, 2], (Option.some.inj h).symm, by decide, ?_⟩
      simp only [go_sem, Nat.reduceAdd, Nat.reduceMul, Nat.reduceEqDiff, Nat.reduceLeDiff, Nat.reduceLT, Nat.reduceBEq, reduceCtorEq, reduceIte, hx2, lt_t hx2, lt_p hx2, nat_in (lt_n hx2) hlhx2, hx8, lt_t hx8, lt_p hx8, nat_in (lt_n hx8) hlhx8, g11_1, g11_3, g11_4, g11_5, g11_6, og11_0, og11_1, og11_2, IV, sts_cons, sts_nil, obs_cons, obs_nil]
    · rintro row_66 ⟨sl, ob, n⟩ hI13 hW14 h
      simp only [IV, sts_cons, sts_nil, obs_cons, obs_nil, and_true, true_and, Nat.reduceAdd, str_len] at hI13
      obtain ⟨⟨g15_1, g15_3, g15_4, g15_5, g15_6⟩, og15_0, og15_1, og15_2, hn⟩ := hI13
      subst hn
      simp only [go_sem, Nat.reduceAdd, Nat.reduceMul, Nat.reduceEqDiff, Nat.reduceLeDiff, Nat.reduceLT, Nat.reduceBEq, reduceCtorEq, reduceIte, hx2, lt_t hx2, lt_p hx2, nat_in (lt_n hx2) hlhx2, lt_f (v63.length), g15_1, g15_3, g15_4, g15_5, g15_6, og15_0, og15_1, og15_2]
      refine ⟨_, [], [0, 1], (Option.some.inj h).symm, by decide, ?_⟩
      simp only [go_sem, Nat.reduceAdd, Nat.reduceMul, Nat.reduceEqDiff, Nat.reduceLeDiff, Nat.reduceLT, Nat.reduceBEq, reduceCtorEq, reduceIte, hx2, lt_t hx2, lt_p hx2, nat_in (lt_n hx2) hlhx2, lt_f (v63.length), g15_1, g15_3, g15_4, g15_5, g15_6, og15_0, og15_1, og15_2, IV, sts_cons, sts_nil, obs_cons, obs_nil]
  · rintro row_12 ⟨sl, ob, n⟩ hI16 hW17 h
    simp only [IV, sts_cons, sts_nil, obs_cons, obs_nil, and_true, true_and, Nat.reduceAdd, str_len] at hI16
    obtain ⟨⟨g18_1, g18_3, g18_4⟩, og18_0, og18_1, hn⟩ := hI16
    subst hn
    simp only [go_sem, Nat.reduceAdd, Nat.reduceMul, Nat.reduceEqDiff, Nat.reduceLeDiff, Nat.reduceLT, Nat.reduceBEq, reduceCtorEq, reduceIte, lt_f (r_0.cond.length), g18_1, g18_3, g18_4, og18_0, og18_1]
    refine swp_for h (fun i row_84 st => IV [(1, .bp 0 0), (3, .p false [.row 1]), (7, .p false [.c (.int .i64 ((i : Nat) : Int))])] [.box 75 [.c (.str r_0.name), .c (.int .i64 r_0.priority), .c (.sl 120 5 (List.map eCond r_0.cond)), .c (.sl 128 3 (List.map eAction r_0.thn))], .row 9 1 (List.map eStr row_84) 2] st) [] [0, 1] (by decide) ?_ ?_ ?_
    · simp only [go_sem, Nat.reduceAdd, Nat.reduceMul, Nat.reduceEqDiff, Nat.reduceLeDiff, Nat.reduceLT, Nat.reduceBEq, reduceCtorEq, reduceIte, IV, sts_cons, sts_nil, obs_cons, obs_nil, lt_f (r_0.cond.length), g18_1, g18_3, g18_4, og18_0, og18_1]
    · rintro i97 x98 row_84 ⟨sl, ob, n⟩ y19 hx20 hI21 hW22 h hy19
      simp only [IV, sts_cons, sts_nil, obs_cons, obs_nil, and_true, true_and, Nat.reduceAdd, str_len] at hI21
      obtain ⟨⟨g23_1, g23_3, g23_7⟩, og23_0, og23_1, hn⟩ := hI21
      subst hn
      have hlhx20 := WF.boxL hW22 og23_0 (j := 3) rfl
      simp only [go_sem, Nat.reduceAdd, Nat.reduceMul, Nat.reduceEqDiff, Nat.reduceLeDiff, Nat.reduceLT, Nat.reduceBEq, reduceCtorEq, reduceIte, lt_f (r_0.cond.length), hx20, lt_t hx20, lt_p hx20, nat_in (lt_n hx20) hlhx20, g23_1, g23_3, g23_7, og23_0, og23_1]
      obtain ⟨v99, e24, h⟩ := bind_K h
      refine call_K (by first | exact s_VarsOf_ok e24 | simpa only [go_sem, Nat.reduceAdd, Nat.reduceMul, Nat.reduceEqDiff, Nat.reduceLeDiff, Nat.reduceLT, Nat.reduceBEq, reduceCtorEq, reduceIte, lt_f (r_0.cond.length), hx20, lt_t hx20, lt_p hx20, nat_in (lt_n hx20) hlhx20, g23_1, g23_3, g23_7, og23_0, og23_1] using s_VarsOf_ok e24) ?_
      simp only [go_sem, Nat.reduceAdd, Nat.reduceMul, Nat.reduceEqDiff, Nat.reduceLeDiff, Nat.reduceLT, Nat.reduceBEq, reduceCtorEq, reduceIte, lt_f (r_0.cond.length), hx20, lt_t hx20, lt_p hx20, nat_in (lt_n hx20) hlhx20, g23_1, g23_3, g23_7, og23_0, og23_1]
      refine swp_for h (fun i row_102 st => IV [(1, .bp 0 0), (3, .p false [.row 1]), (7, .p false [.c (.int .i64 ((i97 : Nat) : Int))]), (8, .p false [.row 2]), (9, .p false [.c (.int .i64 ((i : Nat) : Int))])] [.box 75 [.c (.str r_0.name), .c (.int .i64 r_0.priority), .c (.sl 120 5 (List.map eCond r_0.cond)), .c (.sl 128 3 (List.map eAction r_0.thn))], .row 9 1 (List.map eStr row_102) 2, .row 9 1 (List.map eStr v99) 2] st) [] [0, 1, 178] (by decide) ?_ ?_ ?_
      · simp only [go_sem, Nat.reduceAdd, Nat.reduceMul, Nat.reduceEqDiff, Nat.reduceLeDiff, Nat.reduceLT, Nat.reduceBEq, reduceCtorEq, reduceIte, IV, sts_cons, sts_nil, obs_cons, obs_nil, lt_f (r_0.cond.length), hx20, lt_t hx20, lt_p hx20, nat_in (lt_n hx20) hlhx20, g23_1, g23_3, g23_7, og23_0, og23_1]
      · rintro i106 x107 row_102 ⟨sl, ob, n⟩ y25 hx26 hI27 hW28 h hy25
        simp only [IV, sts_cons, sts_nil, obs_cons, obs_nil, and_true, true_and, Nat.reduceAdd, str_len] at hI27
        obtain ⟨⟨g29_1, g29_3, g29_7, g29_8, g29_9⟩, og29_0, og29_1, og29_2, hn⟩ := hI27
        subst hn
        have hlhx26 := WF.rowL hW28 og29_2
        simp only [go_sem, Nat.reduceAdd, Nat.reduceMul, Nat.reduceEqDiff, Nat.reduceLeDiff, Nat.reduceLT, Nat.reduceBEq, reduceCtorEq, reduceIte, lt_f (r_0.cond.length), hx20, lt_t hx20, lt_p hx20, nat_in (lt_n hx20) hlhx20, hx26, lt_t hx26, lt_p hx26, nat_in (lt_n hx26) hlhx26, g29_1, g29_3, g29_7, g29_8, g29_9, og29_0, og29_1, og29_2]
        obtain ⟨v108, e30, h⟩ := bind_K h
        refine call_K (by first | exact s_l1Put_ok e30 | simpa only [go_sem, Nat.reduceAdd, Nat.reduceMul, Nat.reduceEqDiff, Nat.reduceLeDiff, Nat.reduceLT, Nat.reduceBEq, reduceCtorEq, reduceIte, lt_f (r_0.cond.length), hx20, lt_t hx20, lt_p hx20, nat_in (lt_n hx20) hlhx20, hx26, lt_t hx26, lt_p hx26, nat_in (lt_n hx26) hlhx26, g29_1, g29_3, g29_7, g29_8, g29_9, og29_0, og29_1, og29_2] using s_l1Put_ok e30) ?_
        simp only [go_sem, Nat.reduceAdd, Nat.reduceMul, Nat.reduceEqDiff, Nat.reduceLeDiff, Nat.reduceLT, Nat.reduceBEq, reduceCtorEq, reduceIte, lt_f (r_0.cond.length), hx20, lt_t hx20, lt_p hx20, nat_in (lt_n hx20) hlhx20, hx26, lt_t hx26, lt_p hx26, nat_in (lt_n hx26) hlhx26, g29_1, g29_3, g29_7, g29_8, g29_9, og29_0, og29_1, og29_2]
        refine ⟨_, [], [0, 147, 2], (Option.some.inj h).symm, by decide, ?_⟩
        simp only [go_sem, Nat.reduceAdd, Nat.reduceMul, Nat.reduceEqDiff, Nat.reduceLeDiff, Nat.reduceLT, Nat.reduceBEq, reduceCtorEq, reduceIte, lt_f (r_0.cond.length), hx20, lt_t hx20, lt_p hx20, nat_in (lt_n hx20) hlhx20, hx26, lt_t hx26, lt_p hx26, nat_in (lt_n hx26) hlhx26, g29_1, g29_3, g29_7, g29_8, g29_9, og29_0, og29_1, og29_2, IV, sts_cons, sts_nil, obs_cons, obs_nil]
      · rintro row_102 ⟨sl, ob, n⟩ hI31 hW32 h
        simp only [IV, sts_cons, sts_nil, obs_cons, obs_nil, and_true, true_and, Nat.reduceAdd, str_len] at hI31
        obtain ⟨⟨g33_1, g33_3, g33_7, g33_8, g33_9⟩, og33_0, og33_1, og33_2, hn⟩ := hI31
        subst hn
        simp only [go_sem, Nat.reduceAdd, Nat.reduceMul, Nat.reduceEqDiff, Nat.reduceLeDiff, Nat.reduceLT, Nat.reduceBEq, reduceCtorEq, reduceIte, lt_f (r_0.cond.length), hx20, lt_t hx20, lt_p hx20, nat_in (lt_n hx20) hlhx20, lt_f (v99.length), g33_1, g33_3, g33_7, g33_8, g33_9, og33_0, og33_1, og33_2]
        refine ⟨_, [], [0, 1], (Option.some.inj h).symm, by decide, ?_⟩
        simp only [go_sem, Nat.reduceAdd, Nat.reduceMul, Nat.reduceEqDiff, Nat.reduceLeDiff, Nat.reduceLT, Nat.reduceBEq, reduceCtorEq, reduceIte, lt_f (r_0.cond.length), hx20, lt_t hx20, lt_p hx20, nat_in (lt_n hx20) hlhx20, lt_f (v99.length), g33_1, g33_3, g33_7, g33_8, g33_9, og33_0, og33_1, og33_2, IV, sts_cons, sts_nil, obs_cons, obs_nil]
    · rintro row_84 ⟨sl, ob, n⟩ hI34 hW35 h
      simp only [IV, sts_cons, sts_nil, obs_cons, obs_nil, and_true, true_and, Nat.reduceAdd, str_len] at hI34
      obtain ⟨⟨g36_1, g36_3, g36_7⟩, og36_0, og36_1, hn⟩ := hI34
      subst hn
      obtain rfl := Option.some.inj h
      simp only [go_sem, Nat.reduceAdd, Nat.reduceMul, Nat.reduceEqDiff, Nat.reduceLeDiff, Nat.reduceLT, Nat.reduceBEq, reduceCtorEq, reduceIte, lt_f (r_0.cond.length), lt_f (r_0.thn.length), g36_1, g36_3, g36_7, og36_0, og36_1]
theorem i_condFits_ok {r_0 : RuleD} {k_1 : Int} {r : Bool} (h : i_condFits r_0 k_1 = some r) : Sound Try.prog J0 139 [(true, eRule r_0), (false, [.int .i64 k_1])] [(false, [(false, .bool r)])] := by
  refine fnk Try.func139 (by kernel_rfl) rfl (by kernel_rfl) (by kernel_rfl) ?_
  unfold i_condFits at h
  simp only [fnS, f139, argSt, go_sem, Nat.reduceAdd, Nat.reduceMul, Nat.reduceEqDiff, Nat.reduceLeDiff, Nat.reduceLT, Nat.reduceBEq, reduceCtorEq, reduceIte]
  obtain ⟨x1, a1, a2, e3, h⟩ := at_K h
  simp only [go_sem, Nat.reduceAdd, Nat.reduceMul, Nat.reduceEqDiff, Nat.reduceLeDiff, Nat.reduceLT, Nat.reduceBEq, reduceCtorEq, reduceIte, a1, a2, e3]
  obtain ⟨v2, e4, h⟩ := bind_K h
  refine call_K (by first | exact i_BoundVars_ok e4 | simpa only [go_sem, Nat.reduceAdd, Nat.reduceMul, Nat.reduceEqDiff, Nat.reduceLeDiff, Nat.reduceLT, Nat.reduceBEq, reduceCtorEq, reduceIte, a1, a2, e3] using i_BoundVars_ok e4) ?_
  simp only [go_sem, Nat.reduceAdd, Nat.reduceMul, Nat.reduceEqDiff, Nat.reduceLeDiff, Nat.reduceLT, Nat.reduceBEq, reduceCtorEq, reduceIte, a1, a2, e3]
  obtain ⟨v3, e5, h⟩ := bind_K h
  refine call_K (by first | exact i_CondVars_ok e5 | simpa only [go_sem, Nat.reduceAdd, Nat.reduceMul, Nat.reduceEqDiff, Nat.reduceLeDiff, Nat.reduceLT, Nat.reduceBEq, reduceCtorEq, reduceIte, a1, a2, e3] using i_CondVars_ok e5) ?_
  simp only [go_sem, Nat.reduceAdd, Nat.reduceMul, Nat.reduceEqDiff, Nat.reduceLeDiff, Nat.reduceLT, Nat.reduceBEq, reduceCtorEq, reduceIte, a1, a2, e3]
  refine swp_for h (fun i _ st => IV [(1, .p false [.c (.int .i64 k_1)]), (2, .bp 0 0), (5, .bp 1 0), (6, .p false [.row 2]), (18, .p false [.row 3]), (19, .p false [.c (.int .i64 ((v3.length : Nat) : Int))]), (20, .p false [.c (.int .i64 ((i : Nat) : Int))])] [.box 75 [.c (.str r_0.name), .c (.int .i64 r_0.priority), .c (.sl 120 5 (List.map eCond r_0.cond)), .c (.sl 128 3 (List.map eAction r_0.thn))], .box 120 [.c (.int .i64 x1.kind), .c (.str x1.pattern.rel), .c (.sl 9 1 (List.map eStr x1.pattern.args)), .c (.str x1.left), .c (.str x1.right)], .row 9 1 (List.map eStr v2) 2, .row 9 1 (List.map eStr v3) 2] st) [] [0, 112, 176, 224] (by decide) ?_ ?_ ?_
  · simp only [go_sem, Nat.reduceAdd, Nat.reduceMul, Nat.reduceEqDiff, Nat.reduceLeDiff, Nat.reduceLT, Nat.reduceBEq, reduceCtorEq, reduceIte, IV, sts_cons, sts_nil, obs_cons, obs_nil, a1, a2, e3]
  · rintro i11 x12 ⟨⟩ ⟨sl, ob, n⟩ y6 hx7 hI8 hW9 h hy6
    simp only [IV, sts_cons, sts_nil, obs_cons, obs_nil, and_true, true_and, Nat.reduceAdd, str_len] at hI8
    obtain ⟨⟨g10_1, g10_2, g10_5, g10_6, g10_18, g10_19, g10_20⟩, og10_0, og10_1, og10_2, og10_3, hn⟩ := hI8
    subst hn
    have hlhx7 := WF.rowL hW9 og10_3
    simp only [go_sem, Nat.reduceAdd, Nat.reduceMul, Nat.reduceEqDiff, Nat.reduceLeDiff, Nat.reduceLT, Nat.reduceBEq, reduceCtorEq, reduceIte, a1, a2, e3, hx7, lt_t hx7, lt_p hx7, nat_in (lt_n hx7) hlhx7, g10_1, g10_2, g10_5, g10_6, g10_18, g10_19, g10_20, og10_0, og10_1, og10_2, og10_3]
    refine ite_K h (fun c11 h => ?_) (fun c11 h => ?_)
    · simp only [go_sem, Nat.reduceAdd, Nat.reduceMul, Nat.reduceEqDiff, Nat.reduceLeDiff, Nat.reduceLT, Nat.reduceBEq, reduceCtorEq, reduceIte, a1, a2, e3, hx7, lt_t hx7, lt_p hx7, nat_in (lt_n hx7) hlhx7, c11, g10_1, g10_2, g10_5, g10_6, g10_18, g10_19, g10_20, og10_0, og10_1, og10_2, og10_3]
      refine ⟨_, [], [0, 1, 2, 3], (Option.some.inj h).symm, by decide, ?_⟩
      simp only [go_sem, Nat.reduceAdd, Nat.reduceMul, Nat.reduceEqDiff, Nat.reduceLeDiff, Nat.reduceLT, Nat.reduceBEq, reduceCtorEq, reduceIte, a1, a2, e3, hx7, lt_t hx7, lt_p hx7, nat_in (lt_n hx7) hlhx7, c11, g10_1, g10_2, g10_5, g10_6, g10_18, g10_19, g10_20, og10_0, og10_1, og10_2, og10_3, IV, sts_cons, sts_nil, obs_cons, obs_nil]
    · simp only [go_sem, Nat.reduceAdd, Nat.reduceMul, Nat.reduceEqDiff, Nat.reduceLeDiff, Nat.reduceLT, Nat.reduceBEq, reduceCtorEq, reduceIte, a1, a2, e3, hx7, lt_t hx7, lt_p hx7, nat_in (lt_n hx7) hlhx7, c11, g10_1, g10_2, g10_5, g10_6, g10_18, g10_19, g10_20, og10_0, og10_1, og10_2, og10_3]
      obtain ⟨v13, e12, h⟩ := bind_K h
      refine call_K (by first | exact i_hasText_ok e12 | simpa only [go_sem, Nat.reduceAdd, Nat.reduceMul, Nat.reduceEqDiff, Nat.reduceLeDiff, Nat.reduceLT, Nat.reduceBEq, reduceCtorEq, reduceIte, a1, a2, e3, hx7, lt_t hx7, lt_p hx7, nat_in (lt_n hx7) hlhx7, c11, g10_1, g10_2, g10_5, g10_6, g10_18, g10_19, g10_20, og10_0, og10_1, og10_2, og10_3] using i_hasText_ok e12) ?_
      simp only [go_sem, Nat.reduceAdd, Nat.reduceMul, Nat.reduceEqDiff, Nat.reduceLeDiff, Nat.reduceLT, Nat.reduceBEq, reduceCtorEq, reduceIte, a1, a2, e3, hx7, lt_t hx7, lt_p hx7, nat_in (lt_n hx7) hlhx7, c11, g10_1, g10_2, g10_5, g10_6, g10_18, g10_19, g10_20, og10_0, og10_1, og10_2, og10_3]
      refine ite_K h (fun c13 h => ?_) (fun c13 h => ?_)
      · simp only [go_sem, Nat.reduceAdd, Nat.reduceMul, Nat.reduceEqDiff, Nat.reduceLeDiff, Nat.reduceLT, Nat.reduceBEq, reduceCtorEq, reduceIte, a1, a2, e3, hx7, lt_t hx7, lt_p hx7, nat_in (lt_n hx7) hlhx7, c11, c13, g10_1, g10_2, g10_5, g10_6, g10_18, g10_19, g10_20, og10_0, og10_1, og10_2, og10_3]
        refine ⟨_, [], [0, 1, 2, 3], (Option.some.inj h).symm, by decide, ?_⟩
        simp only [go_sem, Nat.reduceAdd, Nat.reduceMul, Nat.reduceEqDiff, Nat.reduceLeDiff, Nat.reduceLT, Nat.reduceBEq, reduceCtorEq, reduceIte, a1, a2, e3, hx7, lt_t hx7, lt_p hx7, nat_in (lt_n hx7) hlhx7, c11, c13, g10_1, g10_2, g10_5, g10_6, g10_18, g10_19, g10_20, og10_0, og10_1, og10_2, og10_3, IV, sts_cons, sts_nil, obs_cons, obs_nil]
      · simp only [go_sem, Nat.reduceAdd, Nat.reduceMul, Nat.reduceEqDiff, Nat.reduceLeDiff, Nat.reduceLT, Nat.reduceBEq, reduceCtorEq, reduceIte, a1, a2, e3, hx7, lt_t hx7, lt_p hx7, nat_in (lt_n hx7) hlhx7, c11, c13, g10_1, g10_2, g10_5, g10_6, g10_18, g10_19, g10_20, og10_0, og10_1, og10_2, og10_3]
        refine ite_K h (fun c14 h => ?_) (fun c14 h => ?_)
        · replace h := inr_K h hy6
          obtain rfl := Option.some.inj h
          simp only [go_sem, Nat.reduceAdd, Nat.reduceMul, Nat.reduceEqDiff, Nat.reduceLeDiff, Nat.reduceLT, Nat.reduceBEq, reduceCtorEq, reduceIte, a1, a2, e3, hx7, lt_t hx7, lt_p hx7, nat_in (lt_n hx7) hlhx7, c11, c13, c14, g10_1, g10_2, g10_5, g10_6, g10_18, g10_19, g10_20, og10_0, og10_1, og10_2, og10_3]
        · simp only [go_sem, Nat.reduceAdd, Nat.reduceMul, Nat.reduceEqDiff, Nat.reduceLeDiff, Nat.reduceLT, Nat.reduceBEq, reduceCtorEq, reduceIte, a1, a2, e3, hx7, lt_t hx7, lt_p hx7, nat_in (lt_n hx7) hlhx7, c11, c13, c14, g10_1, g10_2, g10_5, g10_6, g10_18, g10_19, g10_20, og10_0, og10_1, og10_2, og10_3]
          obtain ⟨v14, e15, h⟩ := bind_K h
          refine call_K (by first | exact i_occursElsewhere_ok e15 | simpa only [go_sem, Nat.reduceAdd, Nat.reduceMul, Nat.reduceEqDiff, Nat.reduceLeDiff, Nat.reduceLT, Nat.reduceBEq, reduceCtorEq, reduceIte, a1, a2, e3, hx7, lt_t hx7, lt_p hx7, nat_in (lt_n hx7) hlhx7, c11, c13, c14, g10_1, g10_2, g10_5, g10_6, g10_18, g10_19, g10_20, og10_0, og10_1, og10_2, og10_3] using i_occursElsewhere_ok e15) ?_
          simp only [go_sem, Nat.reduceAdd, Nat.reduceMul, Nat.reduceEqDiff, Nat.reduceLeDiff, Nat.reduceLT, Nat.reduceBEq, reduceCtorEq, reduceIte, a1, a2, e3, hx7, lt_t hx7, lt_p hx7, nat_in (lt_n hx7) hlhx7, c11, c13, c14, g10_1, g10_2, g10_5, g10_6, g10_18, g10_19, g10_20, og10_0, og10_1, og10_2, og10_3]
          refine ite_K h (fun c16 h => ?_) (fun c16 h => ?_)
          · replace h := inr_K h hy6
            obtain rfl := Option.some.inj h
            simp only [go_sem, Nat.reduceAdd, Nat.reduceMul, Nat.reduceEqDiff, Nat.reduceLeDiff, Nat.reduceLT, Nat.reduceBEq, reduceCtorEq, reduceIte, a1, a2, e3, hx7, lt_t hx7, lt_p hx7, nat_in (lt_n hx7) hlhx7, c11, c13, c14, c16, g10_1, g10_2, g10_5, g10_6, g10_18, g10_19, g10_20, og10_0, og10_1, og10_2, og10_3]
          · simp only [go_sem, Nat.reduceAdd, Nat.reduceMul, Nat.reduceEqDiff, Nat.reduceLeDiff, Nat.reduceLT, Nat.reduceBEq, reduceCtorEq, reduceIte, a1, a2, e3, hx7, lt_t hx7, lt_p hx7, nat_in (lt_n hx7) hlhx7, c11, c13, c14, c16, g10_1, g10_2, g10_5, g10_6, g10_18, g10_19, g10_20, og10_0, og10_1, og10_2, og10_3]
            refine ⟨_, [], [0, 1, 2, 3], (Option.some.inj h).symm, by decide, ?_⟩
            simp only [go_sem, Nat.reduceAdd, Nat.reduceMul, Nat.reduceEqDiff, Nat.reduceLeDiff, Nat.reduceLT, Nat.reduceBEq, reduceCtorEq, reduceIte, a1, a2, e3, hx7, lt_t hx7, lt_p hx7, nat_in (lt_n hx7) hlhx7, c11, c13, c14, c16, g10_1, g10_2, g10_5, g10_6, g10_18, g10_19, g10_20, og10_0, og10_1, og10_2, og10_3, IV, sts_cons, sts_nil, obs_cons, obs_nil]
  · rintro ⟨⟩ ⟨sl, ob, n⟩ hI17 hW18 h
    simp only [IV, sts_cons, sts_nil, obs_cons, obs_nil, and_true, true_and, Nat.reduceAdd, str_len] at hI17
    obtain ⟨⟨g19_1, g19_2, g19_5, g19_6, g19_18, g19_19, g19_20⟩, og19_0, og19_1, og19_2, og19_3, hn⟩ := hI17
    subst hn
    obtain rfl := Option.some.inj h
    simp only [go_sem, Nat.reduceAdd, Nat.reduceMul, Nat.reduceEqDiff, Nat.reduceLeDiff, Nat.reduceLT, Nat.reduceBEq, reduceCtorEq, reduceIte, a1, a2, e3, lt_f (v3.length), g19_1, g19_2, g19_5, g19_6, g19_18, g19_19, g19_20, og19_0, og19_1, og19_2, og19_3]
end Go.Proofs.Ytgempkloppgnmaa

namespace Go.Proofs.Ytgempkloppgnmaa
open Go.Proofs.Try
set_option linter.unusedSimpArgs false
set_option linter.unusedVariables false
set_option maxRecDepth 10000
set_option maxHeartbeats 4000000
theorem s_IsTest_ok {x_0 : CondD} {r : Bool} (h : s_IsTest x_0 = some r) : Sound Try.prog J0 130 [(true, eCond x_0)] [(false, [(false, .bool r)])] := by
  refine fnk Try.func130 (by kernel_rfl) rfl (by kernel_rfl) (by kernel_rfl) ?_
  unfold s_IsTest at h
  simp only [fnS, f130, argSt, go_sem, Nat.reduceAdd, Nat.reduceMul, Nat.reduceEqDiff, Nat.reduceLeDiff, Nat.reduceLT, Nat.reduceBEq, reduceCtorEq, reduceIte]
  obtain ⟨v1, e1, h⟩ := bind_K h
  refine call_K (by first | exact s_IsCond_ok e1 | simpa only [go_sem, Nat.reduceAdd, Nat.reduceMul, Nat.reduceEqDiff, Nat.reduceLeDiff, Nat.reduceLT, Nat.reduceBEq, reduceCtorEq, reduceIte] using s_IsCond_ok e1) ?_
  simp only [go_sem, Nat.reduceAdd, Nat.reduceMul, Nat.reduceEqDiff, Nat.reduceLeDiff, Nat.reduceLT, Nat.reduceBEq, reduceCtorEq, reduceIte]
  refine ite_K h (fun c2 h => ?_) (fun c2 h => ?_)
  · obtain rfl := Option.some.inj h
    simp only [go_sem, Nat.reduceAdd, Nat.reduceMul, Nat.reduceEqDiff, Nat.reduceLeDiff, Nat.reduceLT, Nat.reduceBEq, reduceCtorEq, reduceIte, c2]
  · obtain rfl := Option.some.inj h
    simp only [go_sem, Nat.reduceAdd, Nat.reduceMul, Nat.reduceEqDiff, Nat.reduceLeDiff, Nat.reduceLT, Nat.reduceBEq, reduceCtorEq, reduceIte, c2]
theorem i_IsRule_ok {append_0 : RuleD} {r : Bool} (h : i_IsRule append_0 = some r) : Sound Try.prog J0 81 [(true, eRule append_0)] [(false, [(false, .bool r)])] := by
  refine fnk Try.func81 (by kernel_rfl) rfl (by kernel_rfl) (by kernel_rfl) ?_
  unfold i_IsRule at h
  simp only [fnS, f81, argSt, go_sem, Nat.reduceAdd, Nat.reduceMul, Nat.reduceEqDiff, Nat.reduceLeDiff, Nat.reduceLT, Nat.reduceBEq, reduceCtorEq, reduceIte]
  obtain ⟨v1, e1, h⟩ := bind_K h
  refine call_K (by first | exact i_IsName_ok e1 | simpa only [go_sem, Nat.reduceAdd, Nat.reduceMul, Nat.reduceEqDiff, Nat.reduceLeDiff, Nat.reduceLT, Nat.reduceBEq, reduceCtorEq, reduceIte] using i_IsName_ok e1) ?_
  simp only [go_sem, Nat.reduceAdd, Nat.reduceMul, Nat.reduceEqDiff, Nat.reduceLeDiff, Nat.reduceLT, Nat.reduceBEq, reduceCtorEq, reduceIte]
  refine ite_K h (fun c2 h => ?_) (fun c2 h => ?_)
  · simp only [go_sem, Nat.reduceAdd, Nat.reduceMul, Nat.reduceEqDiff, Nat.reduceLeDiff, Nat.reduceLT, Nat.reduceBEq, reduceCtorEq, reduceIte, c2]
    refine ite_K h (fun c3 h => ?_) (fun c3 h => ?_)
    · obtain rfl := Option.some.inj h
      simp only [go_sem, Nat.reduceAdd, Nat.reduceMul, Nat.reduceEqDiff, Nat.reduceLeDiff, Nat.reduceLT, Nat.reduceBEq, reduceCtorEq, reduceIte, c2, c3]
    · simp only [go_sem, Nat.reduceAdd, Nat.reduceMul, Nat.reduceEqDiff, Nat.reduceLeDiff, Nat.reduceLT, Nat.reduceBEq, reduceCtorEq, reduceIte, c2, c3]
      refine ite_K h (fun c4 h => ?_) (fun c4 h => ?_)
      · obtain rfl := Option.some.inj h
        simp only [go_sem, Nat.reduceAdd, Nat.reduceMul, Nat.reduceEqDiff, Nat.reduceLeDiff, Nat.reduceLT, Nat.reduceBEq, reduceCtorEq, reduceIte, c2, c3, c4]
      · simp only [go_sem, Nat.reduceAdd, Nat.reduceMul, Nat.reduceEqDiff, Nat.reduceLeDiff, Nat.reduceLT, Nat.reduceBEq, reduceCtorEq, reduceIte, c2, c3, c4]
        refine ite_K h (fun c5 h => ?_) (fun c5 h => ?_)
        · obtain rfl := Option.some.inj h
          simp only [go_sem, Nat.reduceAdd, Nat.reduceMul, Nat.reduceEqDiff, Nat.reduceLeDiff, Nat.reduceLT, Nat.reduceBEq, reduceCtorEq, reduceIte, c2, c3, c4, c5]
        · simp only [go_sem, Nat.reduceAdd, Nat.reduceMul, Nat.reduceEqDiff, Nat.reduceLeDiff, Nat.reduceLT, Nat.reduceBEq, reduceCtorEq, reduceIte, c2, c3, c4, c5]
          refine ite_K h (fun c6 h => ?_) (fun c6 h => ?_)
          · obtain rfl := Option.some.inj h
            simp only [go_sem, Nat.reduceAdd, Nat.reduceMul, Nat.reduceEqDiff, Nat.reduceLeDiff, Nat.reduceLT, Nat.reduceBEq, reduceCtorEq, reduceIte, c2, c3, c4, c5, c6]
          · simp only [go_sem, Nat.reduceAdd, Nat.reduceMul, Nat.reduceEqDiff, Nat.reduceLeDiff, Nat.reduceLT, Nat.reduceBEq, reduceCtorEq, reduceIte, c2, c3, c4, c5, c6]
            refine ite_K h (fun c7 h => ?_) (fun c7 h => ?_)
            · obtain rfl := Option.some.inj h
              simp only [go_sem, Nat.reduceAdd, Nat.reduceMul, Nat.reduceEqDiff, Nat.reduceLeDiff, Nat.reduceLT, Nat.reduceBEq, reduceCtorEq, reduceIte, c2, c3, c4, c5, c6, c7]
            · simp only [go_sem, Nat.reduceAdd, Nat.reduceMul, Nat.reduceEqDiff, Nat.reduceLeDiff, Nat.reduceLT, Nat.reduceBEq, reduceCtorEq, reduceIte, c2, c3, c4, c5, c6, c7]
              refine ite_K h (fun c8 h => ?_) (fun c8 h => ?_)
              · obtain rfl := Option.some.inj h
                simp only [go_sem, Nat.reduceAdd, Nat.reduceMul, Nat.reduceEqDiff, Nat.reduceLeDiff, Nat.reduceLT, Nat.reduceBEq, reduceCtorEq, reduceIte, c2, c3, c4, c5, c6, c7, c8]
              · simp only [go_sem, Nat.reduceAdd, Nat.reduceMul, Nat.reduceEqDiff, Nat.reduceLeDiff, Nat.reduceLT, Nat.reduceBEq, reduceCtorEq, reduceIte, c2, c3, c4, c5, c6, c7, c8]
                refine swp_for h (fun i _ st => IV [(1, .bp 0 0), (49, .p false [.c (.sl 120 5 (List.map eCond append_0.cond))]), (50, .p false [.c (.int .i64 ((append_0.cond.length : Nat) : Int))]), (51, .p false [.c (.int .i64 ((i : Nat) : Int))])] [.box 75 [.c (.str append_0.name), .c (.int .i64 append_0.priority), .c (.sl 120 5 (List.map eCond append_0.cond)), .c (.sl 128 3 (List.map eAction append_0.thn))]] st) [] [0] (by decide) ?_ ?_ ?_
                · simp only [go_sem, Nat.reduceAdd, Nat.reduceMul, Nat.reduceEqDiff, Nat.reduceLeDiff, Nat.reduceLT, Nat.reduceBEq, reduceCtorEq, reduceIte, IV, sts_cons, sts_nil, obs_cons, obs_nil, c2, c3, c4, c5, c6, c7, c8]
                · rintro i51 x52 ⟨⟩ ⟨sl, ob, n⟩ y9 hx10 hI11 hW12 h hy9
                  simp only [IV, sts_cons, sts_nil, obs_cons, obs_nil, and_true, true_and, Nat.reduceAdd, str_len] at hI11
                  obtain ⟨⟨g13_1, g13_49, g13_50, g13_51⟩, og13_0, hn⟩ := hI11
                  subst hn
                  have hlhx10 := WF.slotL hW12 g13_49 (j := 0) rfl
                  simp only [go_sem, Nat.reduceAdd, Nat.reduceMul, Nat.reduceEqDiff, Nat.reduceLeDiff, Nat.reduceLT, Nat.reduceBEq, reduceCtorEq, reduceIte, c2, c3, c4, c5, c6, c7, c8, hx10, lt_t hx10, lt_p hx10, nat_in (lt_n hx10) hlhx10, g13_1, g13_49, g13_50, g13_51, og13_0]
                  obtain ⟨v53, e14, h⟩ := bind_K h
                  refine call_K (by first | exact i_IsCond_ok e14 | simpa only [go_sem, Nat.reduceAdd, Nat.reduceMul, Nat.reduceEqDiff, Nat.reduceLeDiff, Nat.reduceLT, Nat.reduceBEq, reduceCtorEq, reduceIte, c2, c3, c4, c5, c6, c7, c8, hx10, lt_t hx10, lt_p hx10, nat_in (lt_n hx10) hlhx10, g13_1, g13_49, g13_50, g13_51, og13_0] using i_IsCond_ok e14) ?_
                  simp only [go_sem, Nat.reduceAdd, Nat.reduceMul, Nat.reduceEqDiff, Nat.reduceLeDiff, Nat.reduceLT, Nat.reduceBEq, reduceCtorEq, reduceIte, c2, c3, c4, c5, c6, c7, c8, hx10, lt_t hx10, lt_p hx10, nat_in (lt_n hx10) hlhx10, g13_1, g13_49, g13_50, g13_51, og13_0]
                  refine ite_K h (fun c15 h => ?_) (fun c15 h => ?_)
                  · simp only [go_sem, Nat.reduceAdd, Nat.reduceMul, Nat.reduceEqDiff, Nat.reduceLeDiff, Nat.reduceLT, Nat.reduceBEq, reduceCtorEq, reduceIte, c2, c3, c4, c5, c6, c7, c8, hx10, lt_t hx10, lt_p hx10, nat_in (lt_n hx10) hlhx10, c15, g13_1, g13_49, g13_50, g13_51, og13_0]
                    refine ite_K h (fun c16 h => ?_) (fun c16 h => ?_)
                    · simp only [go_sem, Nat.reduceAdd, Nat.reduceMul, Nat.reduceEqDiff, Nat.reduceLeDiff, Nat.reduceLT, Nat.reduceBEq, reduceCtorEq, reduceIte, c2, c3, c4, c5, c6, c7, c8, hx10, lt_t hx10, lt_p hx10, nat_in (lt_n hx10) hlhx10, c15, c16, g13_1, g13_49, g13_50, g13_51, og13_0]
                      refine ite_K h (fun c17 h => ?_) (fun c17 h => ?_)
                      · replace h := inr_K h hy9
                        obtain rfl := Option.some.inj h
                        simp only [go_sem, Nat.reduceAdd, Nat.reduceMul, Nat.reduceEqDiff, Nat.reduceLeDiff, Nat.reduceLT, Nat.reduceBEq, reduceCtorEq, reduceIte, c2, c3, c4, c5, c6, c7, c8, hx10, lt_t hx10, lt_p hx10, nat_in (lt_n hx10) hlhx10, c15, c16, c17, g13_1, g13_49, g13_50, g13_51, og13_0]
                      · simp only [go_sem, Nat.reduceAdd, Nat.reduceMul, Nat.reduceEqDiff, Nat.reduceLeDiff, Nat.reduceLT, Nat.reduceBEq, reduceCtorEq, reduceIte, c2, c3, c4, c5, c6, c7, c8, hx10, lt_t hx10, lt_p hx10, nat_in (lt_n hx10) hlhx10, c15, c16, c17, g13_1, g13_49, g13_50, g13_51, og13_0]
                        obtain ⟨v54, e18, h⟩ := bind_K h
                        refine call_K (by first | exact i_condFits_ok e18 | simpa only [go_sem, Nat.reduceAdd, Nat.reduceMul, Nat.reduceEqDiff, Nat.reduceLeDiff, Nat.reduceLT, Nat.reduceBEq, reduceCtorEq, reduceIte, c2, c3, c4, c5, c6, c7, c8, hx10, lt_t hx10, lt_p hx10, nat_in (lt_n hx10) hlhx10, c15, c16, c17, g13_1, g13_49, g13_50, g13_51, og13_0] using i_condFits_ok e18) ?_
                        simp only [go_sem, Nat.reduceAdd, Nat.reduceMul, Nat.reduceEqDiff, Nat.reduceLeDiff, Nat.reduceLT, Nat.reduceBEq, reduceCtorEq, reduceIte, c2, c3, c4, c5, c6, c7, c8, hx10, lt_t hx10, lt_p hx10, nat_in (lt_n hx10) hlhx10, c15, c16, c17, g13_1, g13_49, g13_50, g13_51, og13_0]
                        refine ite_K h (fun c19 h => ?_) (fun c19 h => ?_)
                        · simp only [go_sem, Nat.reduceAdd, Nat.reduceMul, Nat.reduceEqDiff, Nat.reduceLeDiff, Nat.reduceLT, Nat.reduceBEq, reduceCtorEq, reduceIte, c2, c3, c4, c5, c6, c7, c8, hx10, lt_t hx10, lt_p hx10, nat_in (lt_n hx10) hlhx10, c15, c16, c17, c19, g13_1, g13_49, g13_50, g13_51, og13_0]
                          refine ⟨_, [], [0], (Option.some.inj h).symm, by decide, ?_⟩
                          simp only [go_sem, Nat.reduceAdd, Nat.reduceMul, Nat.reduceEqDiff, Nat.reduceLeDiff, Nat.reduceLT, Nat.reduceBEq, reduceCtorEq, reduceIte, c2, c3, c4, c5, c6, c7, c8, hx10, lt_t hx10, lt_p hx10, nat_in (lt_n hx10) hlhx10, c15, c16, c17, c19, g13_1, g13_49, g13_50, g13_51, og13_0, IV, sts_cons, sts_nil, obs_cons, obs_nil]
                        · replace h := inr_K h hy9
                          obtain rfl := Option.some.inj h
                          simp only [go_sem, Nat.reduceAdd, Nat.reduceMul, Nat.reduceEqDiff, Nat.reduceLeDiff, Nat.reduceLT, Nat.reduceBEq, reduceCtorEq, reduceIte, c2, c3, c4, c5, c6, c7, c8, hx10, lt_t hx10, lt_p hx10, nat_in (lt_n hx10) hlhx10, c15, c16, c17, c19, g13_1, g13_49, g13_50, g13_51, og13_0]
                    · simp only [go_sem, Nat.reduceAdd, Nat.reduceMul, Nat.reduceEqDiff, Nat.reduceLeDiff, Nat.reduceLT, Nat.reduceBEq, reduceCtorEq, reduceIte, c2, c3, c4, c5, c6, c7, c8, hx10, lt_t hx10, lt_p hx10, nat_in (lt_n hx10) hlhx10, c15, c16, g13_1, g13_49, g13_50, g13_51, og13_0]
                      obtain ⟨v55, e20, h⟩ := bind_K h
                      refine call_K (by first | exact i_condFits_ok e20 | simpa only [go_sem, Nat.reduceAdd, Nat.reduceMul, Nat.reduceEqDiff, Nat.reduceLeDiff, Nat.reduceLT, Nat.reduceBEq, reduceCtorEq, reduceIte, c2, c3, c4, c5, c6, c7, c8, hx10, lt_t hx10, lt_p hx10, nat_in (lt_n hx10) hlhx10, c15, c16, g13_1, g13_49, g13_50, g13_51, og13_0] using i_condFits_ok e20) ?_
                      simp only [go_sem, Nat.reduceAdd, Nat.reduceMul, Nat.reduceEqDiff, Nat.reduceLeDiff, Nat.reduceLT, Nat.reduceBEq, reduceCtorEq, reduceIte, c2, c3, c4, c5, c6, c7, c8, hx10, lt_t hx10, lt_p hx10, nat_in (lt_n hx10) hlhx10, c15, c16, g13_1, g13_49, g13_50, g13_51, og13_0]
                      refine ite_K h (fun c21 h => ?_) (fun c21 h => ?_)
                      · simp only [go_sem, Nat.reduceAdd, Nat.reduceMul, Nat.reduceEqDiff, Nat.reduceLeDiff, Nat.reduceLT, Nat.reduceBEq, reduceCtorEq, reduceIte, c2, c3, c4, c5, c6, c7, c8, hx10, lt_t hx10, lt_p hx10, nat_in (lt_n hx10) hlhx10, c15, c16, c21, g13_1, g13_49, g13_50, g13_51, og13_0]
                        refine ⟨_, [], [0], (Option.some.inj h).symm, by decide, ?_⟩
                        simp only [go_sem, Nat.reduceAdd, Nat.reduceMul, Nat.reduceEqDiff, Nat.reduceLeDiff, Nat.reduceLT, Nat.reduceBEq, reduceCtorEq, reduceIte, c2, c3, c4, c5, c6, c7, c8, hx10, lt_t hx10, lt_p hx10, nat_in (lt_n hx10) hlhx10, c15, c16, c21, g13_1, g13_49, g13_50, g13_51, og13_0, IV, sts_cons, sts_nil, obs_cons, obs_nil]
                      · replace h := inr_K h hy9
                        obtain rfl := Option.some.inj h
                        simp only [go_sem, Nat.reduceAdd, Nat.reduceMul, Nat.reduceEqDiff, Nat.reduceLeDiff, Nat.reduceLT, Nat.reduceBEq, reduceCtorEq, reduceIte, c2, c3, c4, c5, c6, c7, c8, hx10, lt_t hx10, lt_p hx10, nat_in (lt_n hx10) hlhx10, c15, c16, c21, g13_1, g13_49, g13_50, g13_51, og13_0]
                  · replace h := inr_K h hy9
                    obtain rfl := Option.some.inj h
                    simp only [go_sem, Nat.reduceAdd, Nat.reduceMul, Nat.reduceEqDiff, Nat.reduceLeDiff, Nat.reduceLT, Nat.reduceBEq, reduceCtorEq, reduceIte, c2, c3, c4, c5, c6, c7, c8, hx10, lt_t hx10, lt_p hx10, nat_in (lt_n hx10) hlhx10, c15, g13_1, g13_49, g13_50, g13_51, og13_0]
                · rintro ⟨⟩ ⟨sl, ob, n⟩ hI22 hW23 h
                  simp only [IV, sts_cons, sts_nil, obs_cons, obs_nil, and_true, true_and, Nat.reduceAdd, str_len] at hI22
                  obtain ⟨⟨g24_1, g24_49, g24_50, g24_51⟩, og24_0, hn⟩ := hI22
                  subst hn
                  simp only [go_sem, Nat.reduceAdd, Nat.reduceMul, Nat.reduceEqDiff, Nat.reduceLeDiff, Nat.reduceLT, Nat.reduceBEq, reduceCtorEq, reduceIte, c2, c3, c4, c5, c6, c7, c8, lt_f (append_0.cond.length), g24_1, g24_49, g24_50, g24_51, og24_0]
                  obtain ⟨v56, e25, h⟩ := bind_K h
                  refine call_K (by first | exact i_BoundVars_ok e25 | simpa only [go_sem, Nat.reduceAdd, Nat.reduceMul, Nat.reduceEqDiff, Nat.reduceLeDiff, Nat.reduceLT, Nat.reduceBEq, reduceCtorEq, reduceIte, c2, c3, c4, c5, c6, c7, c8, lt_f (append_0.cond.length), g24_1, g24_49, g24_50, g24_51, og24_0] using i_BoundVars_ok e25) ?_
                  simp only [go_sem, Nat.reduceAdd, Nat.reduceMul, Nat.reduceEqDiff, Nat.reduceLeDiff, Nat.reduceLT, Nat.reduceBEq, reduceCtorEq, reduceIte, c2, c3, c4, c5, c6, c7, c8, lt_f (append_0.cond.length), g24_1, g24_49, g24_50, g24_51, og24_0]
                  refine swp_for h (fun i _ st => IV [(1, .bp 0 0), (5, .p false [.row 1]), (81, .p false [.c (.sl 128 3 (List.map eAction append_0.thn))]), (82, .p false [.c (.int .i64 ((append_0.thn.length : Nat) : Int))]), (83, .p false [.c (.int .i64 ((i : Nat) : Int))])] [.box 75 [.c (.str append_0.name), .c (.int .i64 append_0.priority), .c (.sl 120 5 (List.map eCond append_0.cond)), .c (.sl 128 3 (List.map eAction append_0.thn))], .row 9 1 (List.map eStr v56) 2] st) [] [0, 81] (by decide) ?_ ?_ ?_
                  · simp only [go_sem, Nat.reduceAdd, Nat.reduceMul, Nat.reduceEqDiff, Nat.reduceLeDiff, Nat.reduceLT, Nat.reduceBEq, reduceCtorEq, reduceIte, IV, sts_cons, sts_nil, obs_cons, obs_nil, c2, c3, c4, c5, c6, c7, c8, lt_f (append_0.cond.length), g24_1, g24_49, g24_50, g24_51, og24_0]
                  · rintro i82 x83 ⟨⟩ ⟨sl, ob, n⟩ y26 hx27 hI28 hW29 h hy26
                    simp only [IV, sts_cons, sts_nil, obs_cons, obs_nil, and_true, true_and, Nat.reduceAdd, str_len] at hI28
                    obtain ⟨⟨g30_1, g30_5, g30_81, g30_82, g30_83⟩, og30_0, og30_1, hn⟩ := hI28
                    subst hn
                    have hlhx27 := WF.slotL hW29 g30_81 (j := 0) rfl
                    simp only [go_sem, Nat.reduceAdd, Nat.reduceMul, Nat.reduceEqDiff, Nat.reduceLeDiff, Nat.reduceLT, Nat.reduceBEq, reduceCtorEq, reduceIte, c2, c3, c4, c5, c6, c7, c8, lt_f (append_0.cond.length), hx27, lt_t hx27, lt_p hx27, nat_in (lt_n hx27) hlhx27, g30_1, g30_5, g30_81, g30_82, g30_83, og30_0, og30_1]
                    obtain ⟨v84, e31, h⟩ := bind_K h
                    refine call_K (by first | exact i_IsAction_ok e31 | simpa only [go_sem, Nat.reduceAdd, Nat.reduceMul, Nat.reduceEqDiff, Nat.reduceLeDiff, Nat.reduceLT, Nat.reduceBEq, reduceCtorEq, reduceIte, c2, c3, c4, c5, c6, c7, c8, lt_f (append_0.cond.length), hx27, lt_t hx27, lt_p hx27, nat_in (lt_n hx27) hlhx27, g30_1, g30_5, g30_81, g30_82, g30_83, og30_0, og30_1] using i_IsAction_ok e31) ?_
                    simp only [go_sem, Nat.reduceAdd, Nat.reduceMul, Nat.reduceEqDiff, Nat.reduceLeDiff, Nat.reduceLT, Nat.reduceBEq, reduceCtorEq, reduceIte, c2, c3, c4, c5, c6, c7, c8, lt_f (append_0.cond.length), hx27, lt_t hx27, lt_p hx27, nat_in (lt_n hx27) hlhx27, g30_1, g30_5, g30_81, g30_82, g30_83, og30_0, og30_1]
                    refine ite_K h (fun c32 h => ?_) (fun c32 h => ?_)
                    · simp only [go_sem, Nat.reduceAdd, Nat.reduceMul, Nat.reduceEqDiff, Nat.reduceLeDiff, Nat.reduceLT, Nat.reduceBEq, reduceCtorEq, reduceIte, c2, c3, c4, c5, c6, c7, c8, lt_f (append_0.cond.length), hx27, lt_t hx27, lt_p hx27, nat_in (lt_n hx27) hlhx27, c32, g30_1, g30_5, g30_81, g30_82, g30_83, og30_0, og30_1]
                      obtain ⟨v85, e33, h⟩ := bind_K h
                      refine call_K (by first | exact i_varsAmong_ok e33 | simpa only [go_sem, Nat.reduceAdd, Nat.reduceMul, Nat.reduceEqDiff, Nat.reduceLeDiff, Nat.reduceLT, Nat.reduceBEq, reduceCtorEq, reduceIte, c2, c3, c4, c5, c6, c7, c8, lt_f (append_0.cond.length), hx27, lt_t hx27, lt_p hx27, nat_in (lt_n hx27) hlhx27, c32, g30_1, g30_5, g30_81, g30_82, g30_83, og30_0, og30_1] using i_varsAmong_ok e33) ?_
                      simp only [go_sem, Nat.reduceAdd, Nat.reduceMul, Nat.reduceEqDiff, Nat.reduceLeDiff, Nat.reduceLT, Nat.reduceBEq, reduceCtorEq, reduceIte, c2, c3, c4, c5, c6, c7, c8, lt_f (append_0.cond.length), hx27, lt_t hx27, lt_p hx27, nat_in (lt_n hx27) hlhx27, c32, g30_1, g30_5, g30_81, g30_82, g30_83, og30_0, og30_1]
                      refine swp_for h (fun i _ st => IV [(1, .bp 0 0), (5, .p false [.row 1]), (81, .p false [.c (.sl 128 3 (List.map eAction append_0.thn))]), (82, .p false [.c (.int .i64 ((append_0.thn.length : Nat) : Int))]), (83, .p false [.c (.int .i64 ((i82 : Nat) : Int))]), (93, .p false [.row 2]), (94, .p false [.c (.int .i64 ((v85.length : Nat) : Int))]), (95, .p false [.c (.int .i64 ((i : Nat) : Int))])] [.box 75 [.c (.str append_0.name), .c (.int .i64 append_0.priority), .c (.sl 120 5 (List.map eCond append_0.cond)), .c (.sl 128 3 (List.map eAction append_0.thn))], .row 9 1 (List.map eStr v56) 2, .row 9 1 (List.map eStr v85) 2] st) [] [0, 1, 178] (by decide) ?_ ?_ ?_
                      · simp only [go_sem, Nat.reduceAdd, Nat.reduceMul, Nat.reduceEqDiff, Nat.reduceLeDiff, Nat.reduceLT, Nat.reduceBEq, reduceCtorEq, reduceIte, IV, sts_cons, sts_nil, obs_cons, obs_nil, c2, c3, c4, c5, c6, c7, c8, lt_f (append_0.cond.length), hx27, lt_t hx27, lt_p hx27, nat_in (lt_n hx27) hlhx27, c32, g30_1, g30_5, g30_81, g30_82, g30_83, og30_0, og30_1]
                      · rintro i91 x92 ⟨⟩ ⟨sl, ob, n⟩ y34 hx35 hI36 hW37 h hy34
                        simp only [IV, sts_cons, sts_nil, obs_cons, obs_nil, and_true, true_and, Nat.reduceAdd, str_len] at hI36
                        obtain ⟨⟨g38_1, g38_5, g38_81, g38_82, g38_83, g38_93, g38_94, g38_95⟩, og38_0, og38_1, og38_2, hn⟩ := hI36
                        subst hn
                        have hlhx35 := WF.rowL hW37 og38_2
                        simp only [go_sem, Nat.reduceAdd, Nat.reduceMul, Nat.reduceEqDiff, Nat.reduceLeDiff, Nat.reduceLT, Nat.reduceBEq, reduceCtorEq, reduceIte, c2, c3, c4, c5, c6, c7, c8, lt_f (append_0.cond.length), hx27, lt_t hx27, lt_p hx27, nat_in (lt_n hx27) hlhx27, c32, hx35, lt_t hx35, lt_p hx35, nat_in (lt_n hx35) hlhx35, g38_1, g38_5, g38_81, g38_82, g38_83, g38_93, g38_94, g38_95, og38_0, og38_1, og38_2]
                        obtain ⟨v93, e39, h⟩ := bind_K h
                        refine call_K (by first | exact i_hasText_ok e39 | simpa only [go_sem, Nat.reduceAdd, Nat.reduceMul, Nat.reduceEqDiff, Nat.reduceLeDiff, Nat.reduceLT, Nat.reduceBEq, reduceCtorEq, reduceIte, c2, c3, c4, c5, c6, c7, c8, lt_f (append_0.cond.length), hx27, lt_t hx27, lt_p hx27, nat_in (lt_n hx27) hlhx27, c32, hx35, lt_t hx35, lt_p hx35, nat_in (lt_n hx35) hlhx35, g38_1, g38_5, g38_81, g38_82, g38_83, g38_93, g38_94, g38_95, og38_0, og38_1, og38_2] using i_hasText_ok e39) ?_
                        simp only [go_sem, Nat.reduceAdd, Nat.reduceMul, Nat.reduceEqDiff, Nat.reduceLeDiff, Nat.reduceLT, Nat.reduceBEq, reduceCtorEq, reduceIte, c2, c3, c4, c5, c6, c7, c8, lt_f (append_0.cond.length), hx27, lt_t hx27, lt_p hx27, nat_in (lt_n hx27) hlhx27, c32, hx35, lt_t hx35, lt_p hx35, nat_in (lt_n hx35) hlhx35, g38_1, g38_5, g38_81, g38_82, g38_83, g38_93, g38_94, g38_95, og38_0, og38_1, og38_2]
                        refine ite_K h (fun c40 h => ?_) (fun c40 h => ?_)
                        · simp only [go_sem, Nat.reduceAdd, Nat.reduceMul, Nat.reduceEqDiff, Nat.reduceLeDiff, Nat.reduceLT, Nat.reduceBEq, reduceCtorEq, reduceIte, c2, c3, c4, c5, c6, c7, c8, lt_f (append_0.cond.length), hx27, lt_t hx27, lt_p hx27, nat_in (lt_n hx27) hlhx27, c32, hx35, lt_t hx35, lt_p hx35, nat_in (lt_n hx35) hlhx35, c40, g38_1, g38_5, g38_81, g38_82, g38_83, g38_93, g38_94, g38_95, og38_0, og38_1, og38_2]
                          refine ⟨_, [], [0, 1, 2], (Option.some.inj h).symm, by decide, ?_⟩
                          simp only [go_sem, Nat.reduceAdd, Nat.reduceMul, Nat.reduceEqDiff, Nat.reduceLeDiff, Nat.reduceLT, Nat.reduceBEq, reduceCtorEq, reduceIte, c2, c3, c4, c5, c6, c7, c8, lt_f (append_0.cond.length), hx27, lt_t hx27, lt_p hx27, nat_in (lt_n hx27) hlhx27, c32, hx35, lt_t hx35, lt_p hx35, nat_in (lt_n hx35) hlhx35, c40, g38_1, g38_5, g38_81, g38_82, g38_83, g38_93, g38_94, g38_95, og38_0, og38_1, og38_2, IV, sts_cons, sts_nil, obs_cons, obs_nil]
                        · replace h := inr_K h hy34
                          replace h := inr_K h hy26
                          obtain rfl := Option.some.inj h
                          simp only [go_sem, Nat.reduceAdd, Nat.reduceMul, Nat.reduceEqDiff, Nat.reduceLeDiff, Nat.reduceLT, Nat.reduceBEq, reduceCtorEq, reduceIte, c2, c3, c4, c5, c6, c7, c8, lt_f (append_0.cond.length), hx27, lt_t hx27, lt_p hx27, nat_in (lt_n hx27) hlhx27, c32, hx35, lt_t hx35, lt_p hx35, nat_in (lt_n hx35) hlhx35, c40, g38_1, g38_5, g38_81, g38_82, g38_83, g38_93, g38_94, g38_95, og38_0, og38_1, og38_2]
                      · rintro ⟨⟩ ⟨sl, ob, n⟩ hI41 hW42 h
                        simp only [IV, sts_cons, sts_nil, obs_cons, obs_nil, and_true, true_and, Nat.reduceAdd, str_len] at hI41
                        obtain ⟨⟨g43_1, g43_5, g43_81, g43_82, g43_83, g43_93, g43_94, g43_95⟩, og43_0, og43_1, og43_2, hn⟩ := hI41
                        subst hn
                        simp only [go_sem, Nat.reduceAdd, Nat.reduceMul, Nat.reduceEqDiff, Nat.reduceLeDiff, Nat.reduceLT, Nat.reduceBEq, reduceCtorEq, reduceIte, c2, c3, c4, c5, c6, c7, c8, lt_f (append_0.cond.length), hx27, lt_t hx27, lt_p hx27, nat_in (lt_n hx27) hlhx27, c32, lt_f (v85.length), g43_1, g43_5, g43_81, g43_82, g43_83, g43_93, g43_94, g43_95, og43_0, og43_1, og43_2]
                        refine ⟨_, [], [0, 1], (Option.some.inj h).symm, by decide, ?_⟩
                        simp only [go_sem, Nat.reduceAdd, Nat.reduceMul, Nat.reduceEqDiff, Nat.reduceLeDiff, Nat.reduceLT, Nat.reduceBEq, reduceCtorEq, reduceIte, c2, c3, c4, c5, c6, c7, c8, lt_f (append_0.cond.length), hx27, lt_t hx27, lt_p hx27, nat_in (lt_n hx27) hlhx27, c32, lt_f (v85.length), g43_1, g43_5, g43_81, g43_82, g43_83, g43_93, g43_94, g43_95, og43_0, og43_1, og43_2, IV, sts_cons, sts_nil, obs_cons, obs_nil]
                    · replace h := inr_K h hy26
                      obtain rfl := Option.some.inj h
                      simp only [go_sem, Nat.reduceAdd, Nat.reduceMul, Nat.reduceEqDiff, Nat.reduceLeDiff, Nat.reduceLT, Nat.reduceBEq, reduceCtorEq, reduceIte, c2, c3, c4, c5, c6, c7, c8, lt_f (append_0.cond.length), hx27, lt_t hx27, lt_p hx27, nat_in (lt_n hx27) hlhx27, c32, g30_1, g30_5, g30_81, g30_82, g30_83, og30_0, og30_1]
                  · rintro ⟨⟩ ⟨sl, ob, n⟩ hI44 hW45 h
                    simp only [IV, sts_cons, sts_nil, obs_cons, obs_nil, and_true, true_and, Nat.reduceAdd, str_len] at hI44
                    obtain ⟨⟨g46_1, g46_5, g46_81, g46_82, g46_83⟩, og46_0, og46_1, hn⟩ := hI44
                    subst hn
                    simp only [go_sem, Nat.reduceAdd, Nat.reduceMul, Nat.reduceEqDiff, Nat.reduceLeDiff, Nat.reduceLT, Nat.reduceBEq, reduceCtorEq, reduceIte, c2, c3, c4, c5, c6, c7, c8, lt_f (append_0.cond.length), lt_f (append_0.thn.length), g46_1, g46_5, g46_81, g46_82, g46_83, og46_0, og46_1]
                    obtain ⟨v94, e47, h⟩ := bind_K h
                    refine call_K (by first | exact i_condVarsOf_ok e47 | simpa only [go_sem, Nat.reduceAdd, Nat.reduceMul, Nat.reduceEqDiff, Nat.reduceLeDiff, Nat.reduceLT, Nat.reduceBEq, reduceCtorEq, reduceIte, c2, c3, c4, c5, c6, c7, c8, lt_f (append_0.cond.length), lt_f (append_0.thn.length), g46_1, g46_5, g46_81, g46_82, g46_83, og46_0, og46_1] using i_condVarsOf_ok e47) ?_
                    simp only [go_sem, Nat.reduceAdd, Nat.reduceMul, Nat.reduceEqDiff, Nat.reduceLeDiff, Nat.reduceLT, Nat.reduceBEq, reduceCtorEq, reduceIte, c2, c3, c4, c5, c6, c7, c8, lt_f (append_0.cond.length), lt_f (append_0.thn.length), g46_1, g46_5, g46_81, g46_82, g46_83, og46_0, og46_1]
                    obtain ⟨v95, e48, h⟩ := bind_K h
                    refine call_K (by first | exact i_SortedTexts_ok e48 | simpa only [go_sem, Nat.reduceAdd, Nat.reduceMul, Nat.reduceEqDiff, Nat.reduceLeDiff, Nat.reduceLT, Nat.reduceBEq, reduceCtorEq, reduceIte, c2, c3, c4, c5, c6, c7, c8, lt_f (append_0.cond.length), lt_f (append_0.thn.length), g46_1, g46_5, g46_81, g46_82, g46_83, og46_0, og46_1] using i_SortedTexts_ok e48) ?_
                    obtain rfl := Option.some.inj h
                    simp only [go_sem, Nat.reduceAdd, Nat.reduceMul, Nat.reduceEqDiff, Nat.reduceLeDiff, Nat.reduceLT, Nat.reduceBEq, reduceCtorEq, reduceIte, c2, c3, c4, c5, c6, c7, c8, lt_f (append_0.cond.length), lt_f (append_0.thn.length), g46_1, g46_5, g46_81, g46_82, g46_83, og46_0, og46_1]
  · obtain rfl := Option.some.inj h
    simp only [go_sem, Nat.reduceAdd, Nat.reduceMul, Nat.reduceEqDiff, Nat.reduceLeDiff, Nat.reduceLT, Nat.reduceBEq, reduceCtorEq, reduceIte, c2]
end Go.Proofs.Ytgempkloppgnmaa
