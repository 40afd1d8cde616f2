/- Texts of this proof, joined: BFn, BTok, DT, Dp0, Shelf, SortH, SortZ, Ext, Dp3, Dp5, Dp7, Dp8, BStd, Open, LawFnHitting. What each holds is said at its theorems. -/
import Derived.Test.YtfbonanbiblkbaaHittingQ2
import Derived.Test.YtfbonanbiblkbaaHittingQ1
import Derived.Test.YtfbonanbiblkbaaProg
import Derived.Shelf.Sort.Plain
import Derived.Shelf.Slices.In.SortNone
import Derived.Shelf.Slices.In.SortNone2
import Derived.Deep.Slices
import Derived.ChangeArms
import Derived.ProofKit
set_option linter.unusedSimpArgs false
set_option linter.unusedVariables false
namespace Go.Proofs.Ytfbonanbiblkbaa
open Go.RowKit
section
variable {P : Program} {J : World → Prop} {JF : Nat → Prop} {W : Base} {U : Nat → Prop} {st : St} {w w' : World} {a : Act} {tt : Nat → Option TI} {g : Gh}
/-- the blocks that are written to behind the call: those of calls below, and those of the rows that are given -/
def nK (g : Gh) (K : Nat → Prop) (b : Nat) : Prop := g.Z b ∨ ∃ k, K k ∧ b ∈ g.O k
theorem own_base {k e m n B : Nat} {cs : List Value} (h : w.ownsRow 0 e m (g.val k) n cs) (hB : ∀ b ∈ (g.val k).ownBlock.toList, B ≤ b) : w.ownsRow B e m (g.val k) n cs := by
  refine ⟨h.1, ?_⟩
  rcases h.2 with h0 | ⟨q, cap, cur, hv, hg, r⟩
  · exact .inl h0
  · exact .inr ⟨q, cap, cur, hv, hB q (by simp [hv, Value.ownBlock]), r⟩
variable {K : Nat → Prop}
theorem resAV_ok (hI : HI W g st.ob w) (hK : ∀ k, K k → ∀ e m xs d, st.ob k = .row e m xs d → d = 2) {x : AV} {ct : Bool × CT} {ks : List Nat} {v : Value} (h : resAV st x = some (ct, ks)) (hks : ∀ k ∈ ks, K k ∧ ∀ b ∈ g.O k ++ g.D k, W.heap.size ≤ b) (hx : AVR g w x v) : OC w W.heap.size (nK g K) ct v (g.F ks) := by
  have hsub : ∀ b, nK g K b → g.own b := fun b hb => by
    rcases hb with hz | ⟨k, _, mk⟩
    · exact .inr hz
    · exact .inl ⟨k, mk⟩
  cases x with
  | c y =>
    obtain ⟨L, h1, h2⟩ := hx
    cases y <;> simp only [resAV, Option.some.injEq, Prod.mk.injEq] at h <;> obtain ⟨rfl, rfl⟩ := h
    · exact ⟨⟨h1.1, rfl⟩, by simp [Gh.F]⟩
    · exact ⟨⟨h1.1, rfl⟩, by simp [Gh.F]⟩
    · exact ⟨⟨h1.1, rfl, h1.2.2⟩, by simp [Gh.F]⟩
    · exact ⟨by simp [Gh.F], L, h1, fun b mb hb => h2 b mb (hsub b hb)⟩
  | row k =>
    simp only [resAV] at h
    split at h
    · rename_i e m xs d hk
      obtain ⟨hm, cs, L, o1, o2, o3, o5⟩ := hI.deep hk
      split at h
      · rename_i hd
        simp only [Option.some.injEq, Prod.mk.injEq] at h
        obtain ⟨rfl, rfl⟩ := h
        have hKk := hks k (by simp)
        rcases o5 with ⟨_, q1, q2⟩ | ⟨q, _⟩ | ⟨q, _⟩
        · refine ⟨hm, cs, L, by rw [hx.1]; exact own_base o1 fun b mb => hKk.2 b (by simp [q1, mb]), o2, by simp [Gh.F, q1, q2, hx.1], fun b mb => .inr ⟨k, hKk.1, by rw [q1]; rw [hx.1] at mb; exact mb⟩⟩
        · omega
        · omega
      · rename_i hd
        simp only [Option.some.injEq, Prod.mk.injEq] at h
        obtain ⟨rfl, rfl⟩ := h
        have hnK : ¬ K k := fun h => hd (hK k h e m xs d hk)
        obtain ⟨A, cap, L0, s1, s2, s3, s4, s5⟩ := Sl.row o1
        refine ⟨by simp [Gh.F], L0 ++ L, ⟨A, cap, cs, L0, L, by rw [hx.1, s1], s2, s3, rfl, hm, s4, o2⟩, fun b mb hb => ?_⟩
        rcases List.mem_append.1 mb with m1 | m1
        · have m2 := s5.subset m1
          rcases o5 with ⟨q, _⟩ | ⟨_, q1, q2⟩ | ⟨_, _, _, q⟩
          · exact hd q
          · have mk : b ∈ g.O k ++ g.D k := by simp [q1, m2]
            rcases hb with hz | ⟨j, hj, mj⟩
            · exact hI.nz mk hz
            · exact hI.apart k j (fun e => hnK (e ▸ hj)) b mk (by simp [mj])
          · exact q b m2 (hsub b hb)
        · exact o3 b m1 (hsub b hb)
    · simp at h
  | nil e m =>
    simp only [resAV] at h
    split at h
    · rename_i hm
      simp only [Option.some.injEq, Prod.mk.injEq] at h
      obtain ⟨rfl, rfl⟩ := h
      have hx' : v = .slice none 0 0 := hx
      subst hx'
      exact ⟨hm, [], [], World.ownsRow_nil _ _ _ _, ⟨rfl, rfl⟩, by simp [Gh.F, Value.ownBlock], by simp [Value.ownBlock]⟩
    · simp at h
  | dead => simp [resAV] at h
theorem resAVs_ok (hI : HI W g st.ob w) (hK : ∀ k, K k → ∀ e m xs d, st.ob k = .row e m xs d → d = 2) : ∀ {xs : List AV} {cts : List (Bool × CT)} {ks : List Nat} {vs : List Value}, resAVs st xs = some (cts, ks) → (∀ k ∈ ks, K k ∧ ∀ b ∈ g.O k ++ g.D k, W.heap.size ≤ b) → All2 (AVR g w) xs vs → OCs w W.heap.size (nK g K) cts vs (g.F ks)
  | [], _, _, [], h, _, _ => by
    simp only [resAVs, Option.some.injEq, Prod.mk.injEq] at h
    obtain ⟨rfl, rfl⟩ := h
    exact ⟨rfl, by simp [Gh.F]⟩
  | [], _, _, _ :: _, _, _, h => h.elim
  | _ :: _, _, _, [], _, _, h => h.elim
  | x :: r, cts, ks, v :: vs, h, hks, hr => by
    simp only [resAVs] at h
    obtain ⟨⟨c1, k1⟩, h1, h⟩ := Option.bind_eq_some_iff.1 h
    obtain ⟨⟨c2, k2⟩, h2, h⟩ := Option.map_eq_some_iff.1 h
    simp only [Prod.mk.injEq] at h
    obtain ⟨rfl, rfl⟩ := h
    exact ⟨v, vs, g.F k1, g.F k2, rfl, by simp [Gh.F], resAV_ok hI hK h1 (fun k mk => hks k (by simp [mk])) hr.1, resAVs_ok hI hK h2 (fun k mk => hks k (by simp [mk])) hr.2⟩
theorem resPV_ok (hI : HI W g st.ob w) (hK : ∀ k, K k → ∀ e m xs d, st.ob k = .row e m xs d → d = 2) {ag : Bool} {cs : List AV} {cts : List (Bool × CT)} {ks : List Nat} {v : Value} (h : resAVs st cs = some (cts, ks)) (hks : ∀ k ∈ ks, K k ∧ ∀ b ∈ g.O k ++ g.D k, W.heap.size ≤ b) (hx : PVR g w ag cs v) : OP w W.heap.size (nK g K) (ag, cts) v (g.F ks) := by
  cases ag with
  | true => obtain ⟨vs, rfl, h2⟩ := hx; exact .inl ⟨rfl, vs, rfl, resAVs_ok hI hK h hks h2⟩
  | false =>
    obtain ⟨x, rfl, h2⟩ := hx
    simp only [resAVs] at h
    obtain ⟨⟨c1, k1⟩, h1, h⟩ := Option.bind_eq_some_iff.1 h
    simp at h
    obtain ⟨rfl, rfl⟩ := h
    exact .inr ⟨rfl, c1, rfl, resAV_ok hI hK h1 hks h2⟩
/- what is given is said to be lent -/
theorem wkC_ok {B : Nat} {n : Nat → Prop} : ∀ {r res : List (Bool × CT)} {vs : List Value} {F : List Nat}, OCs w B n r vs F → wkC r res → F.Nodup → ∃ F', F'.Sublist F ∧ ∀ m : Nat → Prop, (∀ b ∈ F', n b → m b) → (∀ b, m b → n b) → (∀ b ∈ F, m b → b ∈ F') → OCs w B m res vs F'
  | [], [], vs, F, h, _, _ => ⟨[], by simp, fun m _ _ _ => ⟨h.1, rfl⟩⟩
  | [], _ :: _, _, _, _, h, _ => h.elim
  | _ :: _, [], _, _, _, h, _ => h.elim
  | x :: r, y :: res, _, _, ⟨v, vs, F1, F2, rfl, rfl, h1, h2⟩, ⟨e1, e2, hw⟩, hnd => by
    rw [List.nodup_append] at hnd
    obtain ⟨F2', s2, h2'⟩ := wkC_ok h2 hw hnd.2.1
    have key : ∃ F1', F1'.Sublist F1 ∧ ∀ m : Nat → Prop, (∀ b ∈ F1', n b → m b) → (∀ b, m b → n b) → (∀ b ∈ F1, m b → b ∈ F1') → OC w B m y v F1' := by
      obtain ⟨b1, x⟩ := x
      obtain ⟨b2, y⟩ := y
      simp only at e1 e2
      subst e1
      cases b1 with
      | true =>
        have : b2 = true := by rcases e2 with e | e <;> simp_all
        subst this
        obtain ⟨rfl, L, q1, q2⟩ := h1
        exact ⟨[], by simp, fun m _ m2 _ => ⟨rfl, L, q1, fun b mb hb => q2 b mb (m2 b hb)⟩⟩
      | false =>
        cases b2 with
        | false =>
          refine ⟨F1, List.Sublist.refl _, fun m m1 _ _ => ?_⟩
          cases x with
          | sl e q xs =>
            obtain ⟨hm, cs, L, o1, o2, o3, o4⟩ := h1
            exact ⟨hm, cs, L, o1, o2, o3, fun b mb => m1 b (by simp [o3, mb]) (o4 b mb)⟩
          | int k i => exact h1
          | bool b => exact h1
          | str s => exact h1
        | true =>
          refine ⟨[], by simp, fun m _ _ m3 => ⟨rfl, ?_⟩⟩
          cases x with
          | sl e q xs =>
            obtain ⟨hm, cs, L, o1, o2, o3, o4⟩ := h1
            obtain ⟨A, cap, L0, s1, s2, s3, s4, s5⟩ := Sl.row o1
            refine ⟨L0 ++ L, ⟨A, cap, cs, L0, L, s1, s2, s3, rfl, hm, s4, o2⟩, fun b mb hb => ?_⟩
            have : b ∈ F1 := by
              rw [o3]
              rcases List.mem_append.1 mb with m1 | m1
              · exact List.mem_append.2 (.inl (s5.subset m1))
              · exact List.mem_append.2 (.inr m1)
            have := m3 b this hb
            simp at this
          | int k i => exact ⟨[], h1.1, by simp⟩
          | bool b => exact ⟨[], h1.1, by simp⟩
          | str s => exact ⟨[], h1.1, by simp⟩
    obtain ⟨F1', s1, h1'⟩ := key
    refine ⟨F1' ++ F2', List.Sublist.append s1 s2, fun m m1 m2 m3 => ⟨v, vs, F1', F2', rfl, rfl, h1' m (fun b mb => m1 b (by simp [mb])) m2 (fun b mb hb => ?_), h2' m (fun b mb => m1 b (by simp [mb])) m2 (fun b mb hb => ?_)⟩⟩
    · rcases List.mem_append.1 (m3 b (by simp [mb]) hb) with h | h
      · exact h
      · exact absurd rfl (hnd.2.2 b mb b (s2.subset h))
    · rcases List.mem_append.1 (m3 b (by simp [mb]) hb) with h | h
      · exact absurd rfl (hnd.2.2 b (s1.subset h) b mb)
      · exact h
theorem wkP_ok {B : Nat} {n : Nat → Prop} {x y : RT} {v : Value} {F : List Nat} (h : OP w B n x v F) (e1 : x.1 = y.1) (hw : wkC x.2 y.2) (hnd : F.Nodup) : ∃ F', F'.Sublist F ∧ ∀ m : Nat → Prop, (∀ b ∈ F', n b → m b) → (∀ b, m b → n b) → (∀ b ∈ F, m b → b ∈ F') → OP w B m y v F' := by
  rcases h with ⟨h1, vs, rfl, h2⟩ | ⟨h1, ct, h2, h3⟩
  · obtain ⟨F', s, h⟩ := wkC_ok h2 hw hnd
    exact ⟨F', s, fun m a b c => .inl ⟨e1 ▸ h1, vs, rfl, h m a b c⟩⟩
  · obtain ⟨F', s, h⟩ := wkC_ok (r := x.2) (vs := [v]) (F := F) (by rw [h2]; exact ⟨v, [], F, [], rfl, by simp, h3, rfl, rfl⟩) hw hnd
    refine ⟨F', s, fun m p1 p2 p3 => .inr ⟨e1 ▸ h1, ?_⟩⟩
    have h4 := h m p1 p2 p3
    generalize y.2 = l at h4 hw
    cases l with
    | nil => rw [h2] at hw; exact hw.elim
    | cons c l =>
      cases l with
      | nil =>
        obtain ⟨v', vs', F1, F2, q1, rfl, q3, q4⟩ := h4
        simp only [List.cons.injEq] at q1
        obtain ⟨rfl, rfl⟩ := q1
        obtain ⟨_, rfl⟩ := q4
        exact ⟨c, rfl, by simpa using q3⟩
      | cons _ _ => rw [h2] at hw; exact hw.2.2.elim
theorem wkR_ok {B : Nat} {n : Nat → Prop} : ∀ {r res : List RT} {vs : List Value} {F : List Nat}, OPs w B n r vs F → wkR r res → F.Nodup → ∃ F', F'.Sublist F ∧ ∀ m : Nat → Prop, (∀ b ∈ F', n b → m b) → (∀ b, m b → n b) → (∀ b ∈ F, m b → b ∈ F') → OPs w B m res vs F'
  | [], [], vs, F, h, _, _ => ⟨[], by simp, fun m _ _ _ => ⟨h.1, rfl⟩⟩
  | [], _ :: _, _, _, _, h, _ => h.elim
  | _ :: _, [], _, _, _, h, _ => h.elim
  | x :: r, y :: res, _, _, ⟨v, vs, F1, F2, rfl, rfl, h1, h2⟩, ⟨e1, e2, hw⟩, hnd => by
    rw [List.nodup_append] at hnd
    obtain ⟨F2', s2, h2'⟩ := wkR_ok h2 hw hnd.2.1
    obtain ⟨F1', s1, h1'⟩ := wkP_ok h1 e1 e2 hnd.1
    refine ⟨F1' ++ F2', List.Sublist.append s1 s2, fun m m1 m2 m3 => ⟨v, vs, F1', F2', rfl, rfl, h1' m (fun b mb => m1 b (by simp [mb])) m2 (fun b mb hb => ?_), h2' m (fun b mb => m1 b (by simp [mb])) m2 (fun b mb hb => ?_)⟩⟩
    · rcases List.mem_append.1 (m3 b (by simp [mb]) hb) with h | h
      · exact h
      · exact absurd rfl (hnd.2.2 b mb b (s2.subset h))
    · rcases List.mem_append.1 (m3 b (by simp [mb]) hb) with h | h
      · exact absurd rfl (hnd.2.2 b (s1.subset h) b mb)
      · exact h
def resRun (tmps : Array Value) : ResultVar → Sem Value
  | .tmp t => pure (tmps.getD t undef)
  | .cell b t => do loadVar t (← asAddr (tmps.getD b undef))
theorem results_eq (fn : Func) (tmps : Array Value) : results fn tmps = (do let vs ← fn.results.mapM (resRun tmps); pure (if h : vs.size = 1 then vs[0] else .tuple vs)) := by
  unfold results
  congr 1
theorem resOf_ok (htt : ∀ t i, tt t = some i → TOk P t i) (hI : HI W g st.ob w) (hS : ∀ t, SVR g w (st.sl t) (a.tmps.getD t undef)) (hU : StU U st) (hK : ∀ k, K k → ∀ e m xs d, st.ob k = .row e m xs d → d = 2) : ∀ {rs : List ResultVar} {res : List RT} {ks : List Nat}, resOf tt st rs = some (res, ks) → (∀ k ∈ ks, K k ∧ ∀ b ∈ g.O k ++ g.D k, W.heap.size ≤ b) →
    ∃ vs : List Value, (rs.mapM (resRun a.tmps)).run P w = .ok vs w ∧ OPs w W.heap.size (nK g K) res vs (g.F ks)
  | [], res, ks, h, _ => by
    simp only [resOf, Option.some.injEq, Prod.mk.injEq] at h
    obtain ⟨rfl, rfl⟩ := h
    exact ⟨[], by simp, rfl, by simp [Gh.F]⟩
  | .tmp t :: r, res, ks, h, hks => by
    simp only [resOf] at h
    split at h
    · rename_i ag cs hsl
      obtain ⟨⟨c1, k1⟩, h1, h⟩ := Option.bind_eq_some_iff.1 h
      obtain ⟨⟨c2, k2⟩, h2, h⟩ := Option.map_eq_some_iff.1 h
      simp only [Prod.mk.injEq] at h
      obtain ⟨rfl, rfl⟩ := h
      obtain ⟨vs, i1, i2⟩ := resOf_ok htt hI hS hU hK h2 (fun k mk => hks k (by simp [mk]))
      have hs := hS t
      rw [hsl] at hs
      refine ⟨a.tmps.getD t undef :: vs, ?_, _, vs, g.F k1, g.F k2, rfl, by simp [Gh.F], resPV_ok hI hK h1 (fun k mk => hks k (by simp [mk])) hs, i2⟩
      simp only [List.mapM_cons, resRun, Sem.run_bind, Sem.run_pure, Result.andThen_ok, i1]
    · simp at h
  | .cell t ty :: r, res, ks, h, hks => by
    simp only [resOf] at h
    split at h
    · rename_i ag cs hsl
      obtain ⟨⟨c1, k1⟩, h1, h⟩ := Option.bind_eq_some_iff.1 h
      obtain ⟨⟨c2, k2⟩, h2, h⟩ := Option.map_eq_some_iff.1 h
      simp only [Prod.mk.injEq] at h
      obtain ⟨rfl, rfl⟩ := h
      obtain ⟨vs, i1, i2⟩ := resOf_ok htt hI hS hU hK h2 (fun k mk => hks k (by simp [mk]))
      obtain ⟨cv, l1, l2, _⟩ := load_ok (P := P) (U := U) htt hI hU hsl (hS t)
      have hl : (do loadVar ty (← asAddr (a.tmps.getD t undef)) : Sem Value).run P w = .ok cv w := by
        have : ∃ b, a.tmps.getD t undef = .pointer (some b) := by
          have hs := hS t
          cases hsl' : st.sl t with
          | bp k off => rw [hsl'] at hs; obtain ⟨b, _, hv⟩ := hs; exact ⟨_, hv⟩
          | rp k m i off => rw [hsl'] at hs; obtain ⟨b, _, _, _, hv⟩ := hs; exact ⟨_, hv⟩
          | ep e off => rw [hsl'] at hs; obtain ⟨b, _, _, _, hv, _⟩ := hs; exact ⟨_, hv⟩
          | _ => rw [hsl'] at hsl; simp [loadV] at hsl
        obtain ⟨b, hb⟩ := this
        rw [hb] at l1 ⊢
        simpa [Instr.loadAt, Instr.sureAddr, asAddr] using l1
      refine ⟨cv :: vs, ?_, _, vs, g.F k1, g.F k2, rfl, by simp [Gh.F], resPV_ok hI hK h1 (fun k mk => hks k (by simp [mk])) l2, i2⟩
      have hl' : (resRun a.tmps (.cell t ty)).run P w = .ok cv w := hl
      simp only [List.mapM_cons, Sem.run_bind, hl', i1, Sem.run_pure, Result.andThen_ok]
    · simp at h
theorem ks_row : ∀ {xs : List AV} {cts : List (Bool × CT)} {ks : List Nat}, resAVs st xs = some (cts, ks) → ∀ k ∈ ks, ∃ e m xs, st.ob k = .row e m xs 2
  | [], _, _, h, k, mk => by
    simp only [resAVs, Option.some.injEq, Prod.mk.injEq] at h
    rw [← h.2] at mk; simp at mk
  | x :: r, cts, ks, h, k, mk => by
    simp only [resAVs] at h
    obtain ⟨⟨c1, k1⟩, h1, h⟩ := Option.bind_eq_some_iff.1 h
    obtain ⟨⟨c2, k2⟩, h2, h⟩ := Option.map_eq_some_iff.1 h
    simp only [Prod.mk.injEq] at h
    obtain ⟨rfl, rfl⟩ := h
    rcases List.mem_append.1 mk with mk | mk
    · cases x with
      | c y => cases y <;> simp only [resAV, Option.some.injEq, Prod.mk.injEq] at h1 <;> (rw [← h1.2] at mk; simp at mk)
      | row j =>
        simp only [resAV] at h1
        split at h1
        · rename_i e m xs d hk
          split at h1
          · rename_i hd
            simp only [Option.some.injEq, Prod.mk.injEq] at h1
            rw [← h1.2] at mk
            simp at mk
            subst mk
            exact ⟨e, m, xs, by rw [hk, hd]⟩
          · simp only [Option.some.injEq, Prod.mk.injEq] at h1
            rw [← h1.2] at mk; simp at mk
        · simp at h1
      | nil e m =>
        simp only [resAV] at h1
        split at h1
        · simp only [Option.some.injEq, Prod.mk.injEq] at h1
          rw [← h1.2] at mk; simp at mk
        · simp at h1
      | dead => simp [resAV] at h1
    · exact ks_row h2 k mk
theorem ks_rows : ∀ {rs : List ResultVar} {res : List RT} {ks : List Nat}, resOf tt st rs = some (res, ks) → ∀ k ∈ ks, ∃ e m xs, st.ob k = .row e m xs 2
  | [], _, _, h, k, mk => by
    simp only [resOf, Option.some.injEq, Prod.mk.injEq] at h
    rw [← h.2] at mk; simp at mk
  | .tmp t :: r, res, ks, h, k, mk => by
    simp only [resOf] at h
    split at h
    · obtain ⟨⟨c1, k1⟩, h1, h⟩ := Option.bind_eq_some_iff.1 h
      obtain ⟨⟨c2, k2⟩, h2, h⟩ := Option.map_eq_some_iff.1 h
      simp only [Prod.mk.injEq] at h
      obtain ⟨rfl, rfl⟩ := h
      rcases List.mem_append.1 mk with mk | mk
      · exact ks_row h1 k mk
      · exact ks_rows h2 k mk
    · simp at h
  | .cell t ty :: r, res, ks, h, k, mk => by
    simp only [resOf] at h
    split at h
    · obtain ⟨⟨c1, k1⟩, h1, h⟩ := Option.bind_eq_some_iff.1 h
      obtain ⟨⟨c2, k2⟩, h2, h⟩ := Option.map_eq_some_iff.1 h
      simp only [Prod.mk.injEq] at h
      obtain ⟨rfl, rfl⟩ := h
      rcases List.mem_append.1 mk with mk | mk
      · exact ks_row h1 k mk
      · exact ks_rows h2 k mk
    · simp at h
theorem arg_SVR {z : Nat → Prop} {x : Bool × List CT} {v : Value} (hg : ∀ b, g.own b → z b) (h : ArgR w z x v) : SVR g w (.p x.1 (x.2.map .c)) v := by
  rcases h with ⟨h1, vs, L, rfl, h2, h4⟩ | ⟨h1, ct, L, h2, h3, h4⟩
  · rw [h1]; exact ⟨vs, rfl, h2.avr fun b mb hb => h4 b mb (hg b hb)⟩
  · rw [h1, h2]; exact ⟨_, rfl, L, h3, fun b mb hb => h4 b mb (hg b hb)⟩
/-- the results of a call whose code has run to its end -/
theorem ret_ok (htt : ∀ t i, tt t = some i → TOk P t i) {fn : Func} {res : List RT} (hI : Inv W U st a w) (hH : HI W g st.ob w) (hS : ∀ t, SVR g w (st.sl t) (a.tmps.getD t undef)) {r : List RT} {ks : List Nat} (hx : resOf tt st fn.results.toList = some (r, ks)) (hnd : ks.Nodup) (hw : wkR r res)
    (hB : ∀ k ∈ ks, ∀ b ∈ g.O k ++ g.D k, W.heap.size ≤ b) (K0 : Nat → Prop) (hK0 : ∀ k, K0 k → ∀ e m xs d, st.ob k = .row e m xs d → d = 2) :
    ∃ v m, (results fn a.tmps).run P w = .ok v w ∧ ResR w W.heap.size m res v ∧ (∀ b, m b → g.own b) ∧ (∀ b, m b → g.Z b ∨ (∃ k, (k ∈ ks ∨ K0 k) ∧ b ∈ g.O k)) ∧ ∀ b, b ∉ g.F ks → (g.Z b ∨ ∃ k, K0 k ∧ b ∈ g.O k) → m b := by
  obtain ⟨us, r1, r2⟩ := resOf_ok (K := fun k => k ∈ ks ∨ K0 k) htt hH hS hI.wf (fun k hk e m xs d he => by
    rcases hk with hk | hk
    · obtain ⟨e', m', xs', h'⟩ := ks_rows hx k hk
      rw [he] at h'
      simp only [Ob.row.injEq] at h'
      exact h'.2.2.2
    · exact hK0 k hk e m xs d he) hx (fun k mk => ⟨.inl mk, hB k mk⟩)
  have hndF := hH.nodupF hnd
  obtain ⟨F', s, hF⟩ := wkR_ok r2 hw hndF
  have hge : ∀ b ∈ g.F ks, W.heap.size ≤ b := fun b mb => by
    obtain ⟨k, hk, mk⟩ := mem_F mb
    exact hB k hk b mk
  refine ⟨(if h : us.toArray.size = 1 then us.toArray[0] else .tuple us.toArray), fun b => nK g (fun k => k ∈ ks ∨ K0 k) b ∧ (b ∈ g.F ks → b ∈ F'), ?_, ⟨us, F', hF _ (fun b mb hb => ⟨hb, fun _ => mb⟩) (fun b hb => hb.1) (fun b mb hb => hb.2 mb), ⟨hndF.sublist s, fun b mb => hge b (s.subset mb), fun b mb => ?_⟩, rfl⟩, fun b hb => ?_, fun b hb => hb.1, fun b hb hn => ⟨?_, fun mb => absurd mb hb⟩⟩
  · rw [results_eq]
    have e : fn.results.mapM (resRun a.tmps) = List.toArray <$> fn.results.toList.mapM (resRun a.tmps) := by
      rw [← List.mapM_toArray]
    have e2 : (List.toArray <$> fn.results.toList.mapM (resRun a.tmps)).run P w = .ok us.toArray w := by
      rw [map_eq_pure_bind]
      simp only [Sem.run_bind, r1, Result.andThen_ok, Sem.run_pure]
    rw [e]
    simp only [Sem.run_bind, e2, Result.andThen_ok, Sem.run_pure]
  · obtain ⟨k, _, mk⟩ := mem_F (s.subset mb)
    exact (hH.plain k b mk).2
  · rcases hb.1 with hz | ⟨k, _, mk⟩
    · exact .inr hz
    · exact .inl ⟨k, mk⟩
  · rcases hn with hz | ⟨k, hk, mk⟩
    · exact .inl hz
    · exact .inr ⟨k, .inr hk, mk⟩
/-- how the world's premise bears the changes of a call -/
structure JOk (J : World → Prop) (JF : Nat → Prop) : Prop where
  below : ∀ (x : Nat → Prop) (w w' : World), J w → (∀ b, x b → JF b) → w'.os = w.os → w'.tape = w.tape → w'.output = w.output → w.heap.size ≤ w'.heap.size → (∀ k, k < w.heap.size → ¬ x k → w'.heap[k]? = w.heap[k]?) → J w'
  new : ∀ (w : World) b, J w → w.heap.size ≤ b → JF b
theorem slot_arg {args : List (Bool × List CT)} {vs : List Value} {N t o : Nat} (h : vs.length ≤ N) (v : Value) (hv : vs[t]? = some v) : (vs.toArray ++ Array.replicate (N - vs.toArray.size) undef).getD t undef = v := by
  have hl : t < vs.length := (List.getElem?_eq_some_iff.1 hv).1
  simp only [Array.getD_eq_getD_getElem?, Array.getElem?_append, List.size_toArray, hl, if_true, List.getElem?_toArray, hv, Option.getD_some]
theorem slot_und {vs : List Value} {N t : Nat} (ht : vs.length ≤ t) : (vs.toArray ++ Array.replicate (N - vs.toArray.size) undef).getD t undef = undef := by
  simp only [Array.getD_eq_getD_getElem?, Array.getElem?_append, List.size_toArray, show ¬ t < vs.length by omega, if_false, Array.getElem?_replicate]
  split <;> rfl
theorem fn_sound (htt : ∀ t i, tt t = some i → TOk P t i) (hJ : JOk J JF) (hmix : P.follows .mixedOrders = true) {hds : FuncId → Nat} {f : FuncId} {fn : Func} {c : Code} {args : List (Bool × List CT)} {res : List RT} (hf : P.funcs[f]? = some fn) (hname : (fn.name == "runtime.NumGoroutine") = false) (hb : fn.body = some c)
    (hok : codeOk tt hds false fn.ntmps c = true) (hlen : Nat.ble args.length fn.ntmps = true) (h : fnS tt (SC P J JF hds) fn.results.toList c args res) : Sound P J f args res := by
  refine ⟨⟨fn, hf, hname, by rw [hb]; rfl⟩, fun w z vs hj hz hargs => ?_⟩
  have hlen' : args.length ≤ fn.ntmps := Nat.le_of_ble_eq_true hlen
  have hvl := hargs.len
  refine calls_of_wp hf hb ?_
  let W : Base := { w with z := z, x := fun _ => False, hv := none }
  let g0 : Gh := ⟨fun _ => undef, fun _ => [], fun _ => [], z⟩
  have hg0 : ∀ b, g0.own b → z b := fun b hb => by
    rcases hb with ⟨k, m⟩ | h
    · simp [g0] at m
    · exact h
  have hI0 : Inv W (fun _ => False) (argSt args) { tmps := vs.toArray ++ Array.replicate (fn.ntmps - vs.toArray.size) undef, defers := [] } w := by
    refine ⟨⟨g0, ⟨⟨rfl, rfl, rfl, Nat.le_refl _, fun _ _ _ => rfl⟩, fun k => ⟨rfl, rfl⟩, fun k => by simp [g0], fun k j _ b m => by simp [g0] at m, fun k b m => by simp [g0] at m, rfl, fun b hb => ⟨hz b hb, fun h => h⟩⟩, fun t => ?_⟩, ⟨fun t => ?_, fun k => trivial, fun k _ => rfl⟩, rfl, fun v hv => by simp [W] at hv⟩
    · show SVR g0 w (match args[t]? with | some x => .p x.1 (x.2.map .c) | none => .und) _
      cases ht : args[t]? with
      | none => exact slot_und (by have : args.length ≤ t := by simpa using ht
                                   omega)
      | some x =>
        obtain ⟨v, hv, hr⟩ := hargs.at ht
        show SVR g0 w (.p x.1 (x.2.map .c)) ((vs.toArray ++ Array.replicate (fn.ntmps - vs.toArray.size) undef).getD t undef)
        rw [slot_arg (args := args) (o := 0) (by omega) v hv]
        exact arg_SVR hg0 hr
    · show svU _ (match args[t]? with | some x => .p x.1 (x.2.map .c) | none => .und)
      split
      · exact svU_cs true _
      · trivial
  have hM : MOk P J JF W tt := ⟨htt, fun w' hb => hJ.below (fun _ => False) w w' hj (fun _ h => h.elim) hb.os hb.tape hb.output hb.size (fun k hk hx => hb.block k hk hx), fun b hb => hJ.new w b hj hb, fun b h => h.elim⟩
  refine swp_sound (W := W) hM hmix (.inl rfl) c hok (retK tt fn.results.toList fun _ r _ => wkR r res) _ ?_ _ (argSt args) _ w hI0 (fun _ _ h => h) (by simp; omega) h
  intro ex U' st' a' w' hI' _ _ hK
  have fin : (match resOf tt st' fn.results.toList with | some x => x.2.Nodup ∧ wkR x.1 res | none => False) → a'.defers = [] ∧ ∃ v, (results fn a'.tmps).run P w' = .ok v w' ∧ ∃ u n, Ending.returned v = .returned u ∧ ResR w' w.heap.size n res u ∧ (∀ b, z b → n b) ∧ Below w.heap.size w w' := fun hK => by
    split at hK
    · rename_i x hx
      obtain ⟨r, ks⟩ := x
      obtain ⟨hnd, hw⟩ := hK
      obtain ⟨g, hH, hS⟩ := hI'.ex
      have hBg : ∀ k ∈ ks, ∀ b ∈ g.O k ++ g.D k, W.heap.size ≤ b := fun k _ b mb => (hH.plain k b mb).1.resolve_right fun h => h
      obtain ⟨v, m, e1, e2, _, _, e4⟩ := ret_ok htt hI' hH hS hx hnd hw hBg (fun _ => False) (fun _ h => h.elim)
      have hbel := hH.below
      exact ⟨hI'.defers, v, e1, v, m, rfl, e2, fun b hb => e4 b (fun mb => by obtain ⟨k, hk, mk⟩ := mem_F mb; have := hBg k hk b mk; have := hz b hb; have e : W.heap.size = w.heap.size := rfl; omega) (.inl (by rw [hH.gz]; exact hb)), hbel.os, hbel.tape, hbel.output, hbel.size, fun k hk => hbel.block k hk fun h => h⟩
    · exact hK.elim
  cases ex with
  | normal => exact fin hK
  | exit id => exact hK.elim
  | ret => exact fin hK
theorem fn_soundB (htt : ∀ t i, tt t = some i → TOk P t i) (hJ : JOk J JF) (hmix : P.follows .mixedOrders = true) {hds : FuncId → Nat} {f : FuncId} {fn : Func} {c : Code} {args : List (Bool × List CT)} {t : Nat} {cs : List CT} (hf : P.funcs[f]? = some fn) (hname : (fn.name == "runtime.NumGoroutine") = false) (hb : fn.body = some c)
    (hok : codeOk tt hds false fn.ntmps c = true) (hlen : Nat.ble args.length fn.ntmps = true) (h : fnB tt (SC P J JF hds) fn.results.toList c args t cs) : SoundB P J f args t cs := by
  refine ⟨⟨fn, hf, hname, by rw [hb]; rfl⟩, fun w z vs hj hz hargs => ?_⟩
  have hlen' : args.length ≤ fn.ntmps := Nat.le_of_ble_eq_true hlen
  have hvl := hargs.len
  refine calls_of_wp hf hb ?_
  let W : Base := { w with z := z, x := fun _ => False, hv := none }
  let g0 : Gh := ⟨fun _ => undef, fun _ => [], fun _ => [], z⟩
  have hg0 : ∀ b, g0.own b → z b := fun b hb => by
    rcases hb with ⟨k, m⟩ | h
    · simp [g0] at m
    · exact h
  have hI0 : Inv W (fun _ => False) (argSt args) { tmps := vs.toArray ++ Array.replicate (fn.ntmps - vs.toArray.size) undef, defers := [] } w := by
    refine ⟨⟨g0, ⟨⟨rfl, rfl, rfl, Nat.le_refl _, fun _ _ _ => rfl⟩, fun k => ⟨rfl, rfl⟩, fun k => by simp [g0], fun k j _ b m => by simp [g0] at m, fun k b m => by simp [g0] at m, rfl, fun b hb => ⟨hz b hb, fun h => h⟩⟩, fun t => ?_⟩, ⟨fun t => ?_, fun k => trivial, fun k _ => rfl⟩, rfl, fun v hv => by simp [W] at hv⟩
    · show SVR g0 w (match args[t]? with | some x => .p x.1 (x.2.map .c) | none => .und) _
      cases ht : args[t]? with
      | none => exact slot_und (by have : args.length ≤ t := by simpa using ht
                                   omega)
      | some x =>
        obtain ⟨v, hv, hr⟩ := hargs.at ht
        show SVR g0 w (.p x.1 (x.2.map .c)) ((vs.toArray ++ Array.replicate (fn.ntmps - vs.toArray.size) undef).getD t undef)
        rw [slot_arg (args := args) (o := 0) (by omega) v hv]
        exact arg_SVR hg0 hr
    · show svU _ (match args[t]? with | some x => .p x.1 (x.2.map .c) | none => .und)
      split
      · exact svU_cs true _
      · trivial
  have hM : MOk P J JF W tt := ⟨htt, fun w' hb => hJ.below (fun _ => False) w w' hj (fun _ h => h.elim) hb.os hb.tape hb.output hb.size (fun k hk hx => hb.block k hk hx), fun b hb => hJ.new w b hj hb, fun b h => h.elim⟩
  refine swp_sound (W := W) hM hmix (.inl rfl) c hok (retB fn.results.toList t cs) _ ?_ _ (argSt args) _ w hI0 (fun _ _ h => h) (by simp; omega) h
  intro ex U' st' a' w' hI' _ _ hK
  have fin : newBack st' fn.results.toList t cs → a'.defers = [] ∧ ∃ v, (results fn a'.tmps).run P w' = .ok v w' ∧ ∃ (b : Nat) (us : List Value) (L : List Nat) (n : Nat → Prop), Ending.returned v = .returned (.pointer (some ⟨b, 0, none⟩)) ∧ w.heap.size ≤ b ∧ w'.heap[b]? = some (.cells us.toArray t (0, 0)) ∧ RCs w' cs us L ∧ (∀ x ∈ L, ¬ n x) ∧ n b ∧ (∀ x, z x → n x) ∧ Below w.heap.size w w' := fun hK => by
    unfold newBack at hK
    split at hK
    · rename_i s hrs
      obtain ⟨k, ds, k1, k2, k3, k4⟩ := hK
      obtain ⟨g, hH, hS⟩ := hI'.ex
      have hs := hS s
      rw [k1] at hs
      obtain ⟨b, b1, b2⟩ := hs
      have hob := hH.obs k
      rw [k2] at hob
      obtain ⟨b', us, o1, o2, o3, o4, o5⟩ := hob
      have hbb : b' = b := by rw [b1] at o1; simpa using o1.symm
      subst hbb
      obtain ⟨L, hL, hL2⟩ := avArgs_ok hH k4 o5
      have hno := hL2 fun y my => by
        have := List.all_eq_true.1 k3 y my
        cases y <;> simp [avNoRow] at this <;> trivial
      have hbel := hH.below
      refine ⟨hI'.defers, _, ?_, b', us, L, fun x => g.own x, rfl, (hH.plain k b' (by simp [o2])).1.resolve_right fun h => h, o4, hL, hno, .inl ⟨k, by simp [o2]⟩, fun x hx => .inr (by rw [hH.gz]; exact hx), hbel.os, hbel.tape, hbel.output, hbel.size, fun k hk => hbel.block k hk fun h => h⟩
      have er : fn.results = #[.tmp s] := by
        have := congrArg List.toArray hrs
        simpa using this
      rw [results_eq, er]
      simp [resRun, b2]
    · exact hK.elim
  cases ex with
  | normal => exact fin hK
  | exit id => exact hK.elim
  | ret => exact fin hK
theorem fn_soundH (htt : ∀ t i, tt t = some i → TOk P t i) (hJ : JOk J JF) (hmix : P.follows .mixedOrders = true) {hds : FuncId → Nat} {f : FuncId} {fn : Func} {c : Code} {h h' : Hand} {args : List (Bool × List CT)} {res : List RT} (hf : P.funcs[f]? = some fn) (hname : (fn.name == "runtime.NumGoroutine") = false) (hb : fn.body = some c)
    (hok : codeOk tt hds true fn.ntmps c = true) (hlen : Nat.blt args.length fn.ntmps = true) (hh : fnH tt (SC P J JF hds) fn.results.toList c h args res h') : SoundH P J JF f h args res h' := by
  refine ⟨⟨fn, hf, hname, by rw [hb]; rfl⟩, fun w z q v0 vs hj hqf hz hhand hargs => ?_⟩
  have hlen' : args.length < fn.ntmps := Nat.le_of_ble_eq_true hlen
  have hvl := hargs.len
  refine calls_of_wp hf hb ?_
  let W : Base := { w with z := z, x := fun b => q = some b, hv := some v0 }
  let g0 : Gh := ⟨fun k => if k = 0 then v0 else undef, fun k => if k = 0 then q.toList else [], fun _ => [], z⟩
  have hg0 : ∀ b, g0.own b → inQ z q b := fun b hb => by
    rcases hb with ⟨k, m⟩ | h
    · simp only [g0] at m
      split at m
      · exact .inr (by simpa using m)
      · simp at m
    · exact .inl h
  have hqlt : ∀ b, q = some b → ∃ cur e, w.heap[b]? = some (.cells cur e (0, 0)) := fun b hb => by
    cases h with
    | row e m xs =>
      obtain ⟨_, _, h3, cs, h4, _⟩ := hhand
      rcases h4.2 with ⟨h0, _⟩ | ⟨gg, cap, cur, hv, _, hcc, _⟩
      · rw [h0] at h3; simp [Value.ownBlock] at h3; rw [← h3] at hb; simp at hb
      · rw [hv] at h3; simp only [Value.ownBlock] at h3; rw [hb] at h3; simp at h3; subst h3; exact ⟨_, _, hcc⟩
    | box t cs =>
      obtain ⟨b', vs, L, h1, h2, h3, _⟩ := hhand
      rw [hb] at h1; simp at h1; subst h1
      exact ⟨_, _, h3⟩
  have hob0 : ObR g0 w 0 (handOb h) := by
    cases h with
    | row e m xs =>
      obtain ⟨h1, h2, h3, cs, h4, h5⟩ := hhand
      exact ⟨h2, cs, [], by simpa [g0] using h4, h5, .inl ⟨rfl, by simp [g0, h3], by simp [g0]⟩⟩
    | box t cs =>
      obtain ⟨b, vs, L, h1, h2, h3, h4, h5⟩ := hhand
      exact ⟨b, vs, by simpa [g0] using h2, by simp [g0, h1], by simp [g0], h3, h4.avr fun x mx hx => h5 x mx (hg0 x hx)⟩
  have hsv0 : SVR g0 w (handSV h) v0 := by
    cases h with
    | row e m xs =>
      obtain ⟨h1, h2, h3, cs, h4, h5⟩ := hhand
      obtain ⟨A, cap, hv⟩ := own_val h4
      exact ⟨_, rfl, by simp [g0], by simp [hv, Value.oneCell']⟩
    | box t cs =>
      obtain ⟨b, vs, L, h1, h2, h3, h4, h5⟩ := hhand
      exact ⟨b, by simpa [g0] using h2, h2⟩
  have hI0 : Inv W (fun k => k = 0) (handSt h args) { tmps := (v0 :: vs).toArray ++ Array.replicate (fn.ntmps - (v0 :: vs).toArray.size) undef, defers := [] } w := by
    refine ⟨⟨g0, ⟨⟨rfl, rfl, rfl, Nat.le_refl _, fun _ _ _ => rfl⟩, fun k => ?_, fun k => ?_, fun k j hkj b m => ?_, fun k b m => ?_, rfl, fun b hb => ⟨(hz b hb).1, (hz b hb).2⟩⟩, fun t => ?_⟩, ⟨fun t => ?_, fun k => ?_, fun k hk => by simp [handSt, hk]⟩, rfl, fun v hv => ?_⟩
    · show ObR g0 w k (if k = 0 then handOb h else .gone)
      by_cases hk : k = 0
      · subst hk; exact hob0
      · rw [if_neg hk]; exact ⟨by simp [g0, hk], rfl⟩
    · by_cases hk : k = 0
      · subst hk; cases q <;> simp [g0]
      · simp [g0, hk]
    · by_cases hk : k = 0
      · have : ¬ j = 0 := fun e => hkj (by omega)
        simp [g0, this]
      · simp [g0, hk] at m
    · by_cases hk : k = 0
      · subst hk
        have hb : q = some b := by simpa [g0] using m
        exact ⟨.inr hb, hqlt b hb⟩
      · simp [g0, hk] at m
    · show SVR g0 w (match t with | 0 => handSV h | t + 1 => (match args[t]? with | some x => .p x.1 (x.2.map .c) | none => .und)) _
      cases t with
      | zero =>
        show SVR g0 w (handSV h) (((v0 :: vs).toArray ++ Array.replicate (fn.ntmps - (v0 :: vs).toArray.size) undef).getD 0 undef)
        rw [slot_arg (args := args) (o := 0) (by simp; omega) v0 rfl]
        exact hsv0
      | succ t =>
        show SVR g0 w (match args[t]? with | some x => .p x.1 (x.2.map .c) | none => .und) _
        cases ht : args[t]? with
        | none => exact slot_und (by have : args.length ≤ t := by simpa using ht
                                     simp; omega)
        | some x =>
          obtain ⟨v, hv, hr⟩ := hargs.at ht
          show SVR g0 w (.p x.1 (x.2.map .c)) (((v0 :: vs).toArray ++ Array.replicate (fn.ntmps - (v0 :: vs).toArray.size) undef).getD (t + 1) undef)
          rw [slot_arg (args := args) (o := 0) (by simp; omega) v (by simpa using hv)]
          exact arg_SVR hg0 hr
    · show svU _ (match t with | 0 => handSV h | t + 1 => (match args[t]? with | some x => .p x.1 (x.2.map .c) | none => .und))
      cases t with
      | zero => cases h with
        | row e m xs => intro y my; simp at my; subst my; rfl
        | box t cs => rfl
      | succ t =>
        show svU _ (match args[t]? with | some x => .p x.1 (x.2.map .c) | none => .und)
        split
        · exact svU_cs true _
        · trivial
    · show obU _ (if k = 0 then handOb h else .gone)
      by_cases hk : k = 0
      · rw [if_pos hk]
        cases h with
        | row e m xs => trivial
        | box t cs => exact svU_cs true _
      · rw [if_neg hk]; trivial
    · have : v0 = v := by simpa [W] using hv
      subst this
      exact slot_arg (args := args) (o := 0) (by simp; omega) v0 rfl
  have hM : MOk P J JF W tt := ⟨htt, fun w' hb => hJ.below (fun b => q = some b) w w' hj hqf hb.os hb.tape hb.output hb.size (fun k hk hx => hb.block k hk hx), fun b hb => hJ.new w b hj hb, hqf⟩
  refine swp_sound (W := W) hM hmix (.inr rfl) c hok (retK tt fn.results.toList fun st r ks => wkR r res ∧ handBack st ks h') _ ?_ _ (handSt h args) _ w hI0 (fun k hk h0 => by simp [handSt] at hk; omega) (by simp; omega) hh
  intro ex U' st' a' w' hI' _ _ hK
  have fin : (match resOf tt st' fn.results.toList with | some x => x.2.Nodup ∧ wkR x.1 res ∧ handBack st' x.2 h' | none => False) → a'.defers = [] ∧ ∃ v, (results fn a'.tmps).run P w' = .ok v w' ∧ ∃ u n, Ending.returned v = .returned u ∧ ResR w' w.heap.size n res u ∧ (∀ b, inQ z q b → n b) ∧ HandR w' n q h' v0 ∧ BelQ q w w' := fun hK => by
    split at hK
    · rename_i x hx
      obtain ⟨r, ks⟩ := x
      obtain ⟨hnd, hw, hbk⟩ := hK
      obtain ⟨g, hH, hS⟩ := hI'.ex
      have hv0 : a'.tmps.getD 0 undef = v0 := hI'.hand v0 rfl
      have hS0 := hS 0
      rw [hv0] at hS0
      -- the key of what was handed in
      have hkey : ∃ k, g.val k = v0 ∧ g.O k = q.toList ∧ g.D k = [] ∧ k ∉ ks ∧ (∀ e m xs d, st'.ob k = .row e m xs d → d = 2) ∧ ∀ n : Nat → Prop, (∀ b, n b → g.own b) → HandR w' n q h' v0 := by
        cases h' with
        | row e m xs =>
          obtain ⟨k, hk1, hk2, hk3, hk4⟩ := hbk
          rw [hk1] at hS0
          obtain ⟨x, hx1, hx2⟩ := hS0
          simp only [List.cons.injEq, and_true] at hx1
          subst hx1
          have hob := hH.obs k
          rw [hk2] at hob
          obtain ⟨hm, cs, L, o1, o2, o3⟩ := hob
          obtain rfl := REs_flat o2 hk3
          rcases o3 with ⟨_, q1, q2⟩ | ⟨q1, _⟩ | ⟨q1, _⟩
          · have hq : v0.ownBlock = q := by
              cases h with
              | row e1 m1 xs1 => exact hhand.2.2.1
              | box t1 cs1 =>
                obtain ⟨b, vs, L, h1, h2, _⟩ := hhand
                obtain ⟨A, cap, hv⟩ := own_val o1
                rw [← hx2.1, h2] at hv
                simp at hv
            exact ⟨k, hx2.1.symm, by rw [q1, ← hx2.1, hq], q2, hk4, fun e' m' xs' d' h => by rw [hk2] at h; simp only [Ob.row.injEq] at h; exact h.2.2.2.symm, fun n _ => ⟨hk3, hm, hq, cs, by rw [hx2.1]; exact o1, o2⟩⟩
          · omega
          · omega
        | box t cs =>
          obtain ⟨k, ds, hk1, hk2, hk3, hk4⟩ := hbk
          rw [hk1] at hS0
          obtain ⟨b, hb1, hb2⟩ := hS0
          have hob := hH.obs k
          rw [hk2] at hob
          obtain ⟨b', vs', o1, o2, o3, o4, o5⟩ := hob
          have hbb : b' = b := by rw [hb1] at o1; simpa using o1.symm
          subst hbb
          have hq : q = some b' := by
            cases h with
            | row e1 m1 xs1 =>
              obtain ⟨_, _, _, cs1, h4, _⟩ := hhand
              obtain ⟨A, cap, hv⟩ := own_val h4
              rw [hv] at hb2
              simp at hb2
            | box t1 cs1 =>
              obtain ⟨b2, vs2, L2, h1, h2, _⟩ := hhand
              rw [h2] at hb2
              simp at hb2
              rw [h1, hb2]
          obtain ⟨L, hL, hL2⟩ := avArgs_ok hH hk4 o5
          refine ⟨k, by rw [o1, hb2], by rw [o2, hq]; rfl, o3, fun mk => ?_, fun e' m' xs' d' h => by rw [hk2] at h; simp at h, fun n hn => ⟨b', vs', L, hq, hb2, o4, hL, fun x mx hx => hL2 (fun y my => ?_) x mx (hn x hx)⟩⟩
          · obtain ⟨e', m', xs', h'⟩ := ks_rows hx k mk
            rw [hk2] at h'
            simp at h'
          · have := List.all_eq_true.1 hk3 y my
            cases y <;> simp [avNoRow] at this <;> trivial
      obtain ⟨k0, c1, c2, c3, c4, c5, c6⟩ := hkey
      have hBg : ∀ k ∈ ks, ∀ b ∈ g.O k ++ g.D k, W.heap.size ≤ b := fun k hk b mb => (hH.plain k b mb).1.resolve_right fun h => hH.apart k k0 (fun e => c4 (e ▸ hk)) b mb (by rw [c2]; simp; exact .inl h)
      obtain ⟨v, m, e1, e2, e3, _, e4⟩ := ret_ok htt hI' hH hS hx hnd hw hBg (fun k => k = k0) (fun k hk => hk ▸ c5)
      have hbel := hH.below
      refine ⟨hI'.defers, v, e1, v, m, rfl, e2, fun b hb => ?_, c6 m e3, hbel.os, hbel.tape, hbel.output, hbel.size, fun k hk hq => hbel.block k hk hq⟩
      refine e4 b (fun mb => ?_) ?_
      · obtain ⟨k, hk, mk⟩ := mem_F mb
        have hge := hBg k hk b mk
        have e : W.heap.size = w.heap.size := rfl
        rcases hb with hb | hb
        · have := (hz b hb).1; omega
        · obtain ⟨cur, e', hc⟩ := hqlt b hb
          have := (Array.getElem?_eq_some_iff.1 hc).1
          omega
      · rcases hb with hb | hb
        · exact .inl (by rw [hH.gz]; exact hb)
        · exact .inr ⟨k0, rfl, by rw [c2, hb]; simp⟩
    · exact hK.elim
  cases ex with
  | normal => exact fin hK
  | exit id => exact hK.elim
  | ret => exact fin hK
end
end Go.Proofs.Ytfbonanbiblkbaa

namespace Go.Proofs.Ytfbonanbiblkbaa
open Go.RowKit
def all2B {α β : Type} (f : α → β → Bool) : List α → List β → Bool
  | [], [] => true
  | a :: l, b :: r => f a b && all2B f l r
  | _, _ => false
theorem all2B_ok {α β : Type} {f : α → β → Bool} {R : α → β → Prop} (h : ∀ a b, f a b = true → R a b) : ∀ {l : List α} {r : List β}, all2B f l r = true → All2 R l r
  | [], [], _ => trivial
  | a :: l, b :: r, hh => by
    simp only [all2B, Bool.and_eq_true] at hh
    exact ⟨h a b hh.1, all2B_ok h hh.2⟩
  | [], _ :: _, hh => by simp [all2B] at hh
  | _ :: _, [], hh => by simp [all2B] at hh
def fieldB (P : Program) (fi : FI) (f : Field) : Bool :=
  f.offset == fi.off && !(fi.size == 0) && match P.info? f.type, P.underlying f.type with
    | some j, some d => j.size == fi.size && (aggD d == fi.agg)
    | _, _ => false
def nilB : Value → Bool
  | .slice none 0 0 => true
  | _ => false
def tOk (P : Program) (t : TypeId) (ti : TI) : Bool :=
  match P.underlying t, P.info? t with
  | some d, some i => match ti with
    | .atom z => kindB d z && i.size == 1 && match i.zero with | some zv => constB z zv | none => false
    | .strct fs n z => match d with
      | .struct fields => i.size == n && (match i.zero with | some (.agg zvs) => all2B constB z zvs.toList | _ => false) && all2B (fieldB P) fs fields.toList
      | _ => false
    | .slice e m bytes z => match d with
      | .slice e' => e == e' && Nat.blt 0 m && Nat.ble bytes 131072 && (match P.info? e with
          | some ie => ie.size == m && ie.bytes == bytes && (match ie.zero with | some zv => all2B constB z zv.cells.toList | none => false)
          | none => false) && z.length == m && i.size == 1 && (match i.zero with | some zv => nilB zv | none => false)
      | _ => false
  | _, _ => false
theorem nilB_ok {v : Value} (h : nilB v = true) : v = .slice none 0 0 := by
  unfold nilB at h
  split at h
  · rfl
  · simp at h
theorem tOk_ok {P : Program} {t : TypeId} {ti : TI} (h : tOk P t ti = true) : TOk P t ti := by
  unfold tOk at h
  split at h
  · rename_i d i hd hi
    cases ti with
    | atom z =>
      simp only [Bool.and_eq_true, beq_iff_eq] at h
      obtain ⟨⟨h1, h2⟩, h3⟩ := h
      split at h3
      · rename_i zv hz; exact ⟨d, zv, i, hd, h1, hi, hz, h2, h3⟩
      · simp at h3
    | strct fs n z =>
      simp only at h
      split at h
      · rename_i fields
        simp only [Bool.and_eq_true, beq_iff_eq] at h
        obtain ⟨⟨h1, h2⟩, h3⟩ := h
        split at h2
        · rename_i zvs hz
          refine ⟨fields, i, zvs, hd, hi, h1, hz, all2B_ok (fun _ _ h => h) h2, all2B_ok (fun fi f hf => ?_) h3⟩
          unfold fieldB at hf
          simp only [Bool.and_eq_true, beq_iff_eq, Bool.not_eq_true', beq_eq_false_iff_ne] at hf
          obtain ⟨⟨f1, f2⟩, f3⟩ := hf
          split at f3
          · rename_i j d' hj hd'
            simp only [Bool.and_eq_true, beq_iff_eq] at f3
            exact ⟨f1, f2, j, d', hj, f3.1, hd', f3.2⟩
          · simp at f3
        · simp at h2
      · simp at h
    | slice e m bytes z =>
      simp only at h
      split at h
      · rename_i e'
        simp only [Bool.and_eq_true, beq_iff_eq] at h
        obtain ⟨⟨⟨⟨⟨⟨h1, h2⟩, h3⟩, h4⟩, h5⟩, h6⟩, h7⟩ := h
        subst h1
        split at h4
        · rename_i ie hie
          simp only [Bool.and_eq_true, beq_iff_eq] at h4
          obtain ⟨⟨k1, k2⟩, k3⟩ := h4
          split at k3
          · rename_i zv hz
            split at h7
            · rename_i zv' hz'
              exact ⟨hd, Nat.le_of_ble_eq_true h2, Nat.le_of_ble_eq_true h3, ⟨ie, zv, hie, k1, k2, hz, all2B_ok (fun _ _ h => h) k3, h5⟩, i, hi, h6, by rw [hz', nilB_ok h7]⟩
            · simp at h7
          · simp at k3
        · simp at h4
      · simp at h
  · simp at h
def look : List (Nat × TI) → Nat → Option TI
  | [], _ => none
  | p :: r, t => if p.1 = t then some p.2 else look r t
theorem tts_ok {P : Program} : ∀ (l : List (Nat × TI)), (l.all fun p => tOk P p.1 p.2) = true → ∀ t i, look l t = some i → TOk P t i
  | [], _, t, i, h => by simp [look] at h
  | p :: r, ha, t, i, h => by
    simp only [List.all_cons, Bool.and_eq_true] at ha
    simp only [look] at h
    split at h
    · rename_i e
      simp only [Option.some.injEq] at h
      subst h e
      exact tOk_ok ha.1
    · exact tts_ok r ha.2 t i h
end Go.Proofs.Ytfbonanbiblkbaa

namespace Go.Proofs.Ytfbonanbiblkbaa
open Go.RowKit
def ttL : List (Nat × TI) := [
  (2, .atom (.c (.int .i64 0))),
  (3, .atom (.c (.int .i64 0))),
  (4, .atom (.c (.bool false))),
  (5, .atom (.c (.int .u8 0))),
  (9, .atom (.c (.str ⟨#[]⟩))),
  (12, .atom (.c (.int .u64 0))),
  (14, .strct [⟨0, 1, false⟩, ⟨1, 1, false⟩] 2 [.c (.str ⟨#[]⟩), .c (.int .u64 0)]),
  (21, .atom (.c (.int .i32 0))),
  (22, .slice 5 1 1 [.c (.int .u8 0)]),
  (24, .slice 3 1 8 [.c (.int .i64 0)]),
  (35, .slice 49 3 56 [.c (.int .i64 0), .nil 3 1, .nil 3 1]),
  (37, .strct [⟨0, 1, false⟩, ⟨1, 1, false⟩] 2 [.c (.int .i64 0), .nil 49 3]),
  (39, .strct [⟨0, 2, true⟩, ⟨2, 1, false⟩, ⟨3, 1, false⟩] 4 [.c (.int .i64 0), .nil 49 3, .nil 3 1, .nil 3 1]),
  (49, .strct [⟨0, 1, false⟩, ⟨1, 1, false⟩, ⟨2, 1, false⟩] 3 [.c (.int .i64 0), .nil 3 1, .nil 3 1]),
  (52, .slice 24 1 24 [.nil 3 1]),
  (54, .slice 4 1 1 [.c (.bool false)]),
  (75, .strct [⟨0, 1, false⟩, ⟨1, 1, false⟩, ⟨2, 1, false⟩] 3 [.nil 5 1, .c (.int .i64 0), .c (.int .i64 0)]),
  (93, .slice 54 1 24 [.nil 4 1]),
  (98, .atom (.c (.int .u64 0))),
  (114, .atom (.c (.int .u32 0))),
  (116, .atom (.c (.int .u64 0)))]
def tt (t : Nat) : Option TI := look ttL t
theorem htt : ∀ t i, tt t = some i → TOk Try.prog t i := tts_ok ttL (by kernel_rfl)
theorem hmix : Try.prog.follows .mixedOrders = true := by kernel_rfl
def J0 : World → Prop := fun _ => True
def JF0 : Nat → Prop := fun _ => True
theorem hJ0 : JOk J0 JF0 := ⟨fun _ _ _ _ _ _ _ _ _ _ => trivial, fun _ _ _ _ => trivial⟩
def hdL : List (Nat × Nat) := [(35, 3), (36, 1), (38, 1), (39, 1), (40, 1), (43, 1), (66, 1), (67, 1), (69, 1), (71, 1), (72, 1)]
def hlook : List (Nat × Nat) → Nat → Nat
  | [], _ => 0
  | p :: r, f => match Nat.beq p.1 f with | true => p.2 | false => hlook r f
def hds (f : FuncId) : Nat := hlook hdL f
theorem hd_3 : (SC Try.prog J0 JF0 hds).hd 3 = 0 := _root_.id (by kernel_rfl)
theorem hd_4 : (SC Try.prog J0 JF0 hds).hd 4 = 0 := _root_.id (by kernel_rfl)
theorem hd_10 : (SC Try.prog J0 JF0 hds).hd 10 = 0 := _root_.id (by kernel_rfl)
theorem hd_11 : (SC Try.prog J0 JF0 hds).hd 11 = 0 := _root_.id (by kernel_rfl)
theorem hd_12 : (SC Try.prog J0 JF0 hds).hd 12 = 0 := _root_.id (by kernel_rfl)
theorem hd_13 : (SC Try.prog J0 JF0 hds).hd 13 = 0 := _root_.id (by kernel_rfl)
theorem hd_14 : (SC Try.prog J0 JF0 hds).hd 14 = 0 := _root_.id (by kernel_rfl)
theorem hd_15 : (SC Try.prog J0 JF0 hds).hd 15 = 0 := _root_.id (by kernel_rfl)
theorem hd_16 : (SC Try.prog J0 JF0 hds).hd 16 = 0 := _root_.id (by kernel_rfl)
theorem hd_17 : (SC Try.prog J0 JF0 hds).hd 17 = 0 := _root_.id (by kernel_rfl)
theorem hd_18 : (SC Try.prog J0 JF0 hds).hd 18 = 0 := _root_.id (by kernel_rfl)
theorem hd_19 : (SC Try.prog J0 JF0 hds).hd 19 = 0 := _root_.id (by kernel_rfl)
theorem hd_20 : (SC Try.prog J0 JF0 hds).hd 20 = 0 := _root_.id (by kernel_rfl)
theorem hd_22 : (SC Try.prog J0 JF0 hds).hd 22 = 0 := _root_.id (by kernel_rfl)
theorem hd_23 : (SC Try.prog J0 JF0 hds).hd 23 = 0 := _root_.id (by kernel_rfl)
theorem hd_25 : (SC Try.prog J0 JF0 hds).hd 25 = 0 := _root_.id (by kernel_rfl)
theorem hd_26 : (SC Try.prog J0 JF0 hds).hd 26 = 0 := _root_.id (by kernel_rfl)
theorem hd_28 : (SC Try.prog J0 JF0 hds).hd 28 = 0 := _root_.id (by kernel_rfl)
theorem hd_29 : (SC Try.prog J0 JF0 hds).hd 29 = 0 := _root_.id (by kernel_rfl)
theorem hd_30 : (SC Try.prog J0 JF0 hds).hd 30 = 0 := _root_.id (by kernel_rfl)
theorem hd_31 : (SC Try.prog J0 JF0 hds).hd 31 = 0 := _root_.id (by kernel_rfl)
theorem hd_34 : (SC Try.prog J0 JF0 hds).hd 34 = 0 := _root_.id (by kernel_rfl)
theorem hd_35 : (SC Try.prog J0 JF0 hds).hd 35 = 3 := _root_.id (by kernel_rfl)
theorem hd_36 : (SC Try.prog J0 JF0 hds).hd 36 = 1 := _root_.id (by kernel_rfl)
theorem hd_37 : (SC Try.prog J0 JF0 hds).hd 37 = 0 := _root_.id (by kernel_rfl)
theorem hd_38 : (SC Try.prog J0 JF0 hds).hd 38 = 1 := _root_.id (by kernel_rfl)
theorem hd_39 : (SC Try.prog J0 JF0 hds).hd 39 = 1 := _root_.id (by kernel_rfl)
theorem hd_40 : (SC Try.prog J0 JF0 hds).hd 40 = 1 := _root_.id (by kernel_rfl)
theorem hd_41 : (SC Try.prog J0 JF0 hds).hd 41 = 0 := _root_.id (by kernel_rfl)
theorem hd_42 : (SC Try.prog J0 JF0 hds).hd 42 = 0 := _root_.id (by kernel_rfl)
theorem hd_43 : (SC Try.prog J0 JF0 hds).hd 43 = 1 := _root_.id (by kernel_rfl)
theorem hd_46 : (SC Try.prog J0 JF0 hds).hd 46 = 0 := _root_.id (by kernel_rfl)
theorem hd_47 : (SC Try.prog J0 JF0 hds).hd 47 = 0 := _root_.id (by kernel_rfl)
theorem hd_48 : (SC Try.prog J0 JF0 hds).hd 48 = 0 := _root_.id (by kernel_rfl)
theorem hd_50 : (SC Try.prog J0 JF0 hds).hd 50 = 0 := _root_.id (by kernel_rfl)
theorem hd_51 : (SC Try.prog J0 JF0 hds).hd 51 = 0 := _root_.id (by kernel_rfl)
theorem hd_53 : (SC Try.prog J0 JF0 hds).hd 53 = 0 := _root_.id (by kernel_rfl)
theorem hd_54 : (SC Try.prog J0 JF0 hds).hd 54 = 0 := _root_.id (by kernel_rfl)
theorem hd_55 : (SC Try.prog J0 JF0 hds).hd 55 = 0 := _root_.id (by kernel_rfl)
theorem hd_56 : (SC Try.prog J0 JF0 hds).hd 56 = 0 := _root_.id (by kernel_rfl)
theorem hd_57 : (SC Try.prog J0 JF0 hds).hd 57 = 0 := _root_.id (by kernel_rfl)
theorem hd_59 : (SC Try.prog J0 JF0 hds).hd 59 = 0 := _root_.id (by kernel_rfl)
theorem hd_60 : (SC Try.prog J0 JF0 hds).hd 60 = 0 := _root_.id (by kernel_rfl)
theorem hd_61 : (SC Try.prog J0 JF0 hds).hd 61 = 0 := _root_.id (by kernel_rfl)
theorem hd_65 : (SC Try.prog J0 JF0 hds).hd 65 = 0 := _root_.id (by kernel_rfl)
theorem hd_66 : (SC Try.prog J0 JF0 hds).hd 66 = 1 := _root_.id (by kernel_rfl)
theorem hd_67 : (SC Try.prog J0 JF0 hds).hd 67 = 1 := _root_.id (by kernel_rfl)
theorem hd_69 : (SC Try.prog J0 JF0 hds).hd 69 = 1 := _root_.id (by kernel_rfl)
theorem hd_70 : (SC Try.prog J0 JF0 hds).hd 70 = 0 := _root_.id (by kernel_rfl)
theorem hd_71 : (SC Try.prog J0 JF0 hds).hd 71 = 1 := _root_.id (by kernel_rfl)
theorem hd_72 : (SC Try.prog J0 JF0 hds).hd 72 = 1 := _root_.id (by kernel_rfl)
theorem hd_73 : (SC Try.prog J0 JF0 hds).hd 73 = 0 := _root_.id (by kernel_rfl)
theorem hd_74 : (SC Try.prog J0 JF0 hds).hd 74 = 0 := _root_.id (by kernel_rfl)
theorem hd_75 : (SC Try.prog J0 JF0 hds).hd 75 = 0 := _root_.id (by kernel_rfl)
theorem hd_76 : (SC Try.prog J0 JF0 hds).hd 76 = 0 := _root_.id (by kernel_rfl)
theorem hd_77 : (SC Try.prog J0 JF0 hds).hd 77 = 0 := _root_.id (by kernel_rfl)
theorem hd_78 : (SC Try.prog J0 JF0 hds).hd 78 = 0 := _root_.id (by kernel_rfl)
theorem hd_84 : (SC Try.prog J0 JF0 hds).hd 84 = 0 := _root_.id (by kernel_rfl)
theorem hd_87 : (SC Try.prog J0 JF0 hds).hd 87 = 0 := _root_.id (by kernel_rfl)
theorem hd_88 : (SC Try.prog J0 JF0 hds).hd 88 = 0 := _root_.id (by kernel_rfl)
theorem hd_89 : (SC Try.prog J0 JF0 hds).hd 89 = 0 := _root_.id (by kernel_rfl)
theorem hd_101 : (SC Try.prog J0 JF0 hds).hd 101 = 0 := _root_.id (by kernel_rfl)
theorem hd_102 : (SC Try.prog J0 JF0 hds).hd 102 = 0 := _root_.id (by kernel_rfl)
theorem tt2 : tt 2 = some (.atom (.c (.int .i64 0))) := _root_.id rfl
theorem tt3 : tt 3 = some (.atom (.c (.int .i64 0))) := _root_.id rfl
theorem tt4 : tt 4 = some (.atom (.c (.bool false))) := _root_.id rfl
theorem tt5 : tt 5 = some (.atom (.c (.int .u8 0))) := _root_.id rfl
theorem tt9 : tt 9 = some (.atom (.c (.str ⟨#[]⟩))) := _root_.id rfl
theorem tt12 : tt 12 = some (.atom (.c (.int .u64 0))) := _root_.id rfl
theorem tt14 : tt 14 = some (.strct [⟨0, 1, false⟩, ⟨1, 1, false⟩] 2 [.c (.str ⟨#[]⟩), .c (.int .u64 0)]) := _root_.id rfl
theorem tt21 : tt 21 = some (.atom (.c (.int .i32 0))) := _root_.id rfl
theorem tt22 : tt 22 = some (.slice 5 1 1 [.c (.int .u8 0)]) := _root_.id rfl
theorem tt24 : tt 24 = some (.slice 3 1 8 [.c (.int .i64 0)]) := _root_.id rfl
theorem tt35 : tt 35 = some (.slice 49 3 56 [.c (.int .i64 0), .nil 3 1, .nil 3 1]) := _root_.id rfl
theorem tt37 : tt 37 = some (.strct [⟨0, 1, false⟩, ⟨1, 1, false⟩] 2 [.c (.int .i64 0), .nil 49 3]) := _root_.id rfl
theorem tt39 : tt 39 = some (.strct [⟨0, 2, true⟩, ⟨2, 1, false⟩, ⟨3, 1, false⟩] 4 [.c (.int .i64 0), .nil 49 3, .nil 3 1, .nil 3 1]) := _root_.id rfl
theorem tt49 : tt 49 = some (.strct [⟨0, 1, false⟩, ⟨1, 1, false⟩, ⟨2, 1, false⟩] 3 [.c (.int .i64 0), .nil 3 1, .nil 3 1]) := _root_.id rfl
theorem tt52 : tt 52 = some (.slice 24 1 24 [.nil 3 1]) := _root_.id rfl
theorem tt54 : tt 54 = some (.slice 4 1 1 [.c (.bool false)]) := _root_.id rfl
theorem tt75 : tt 75 = some (.strct [⟨0, 1, false⟩, ⟨1, 1, false⟩, ⟨2, 1, false⟩] 3 [.nil 5 1, .c (.int .i64 0), .c (.int .i64 0)]) := _root_.id rfl
theorem tt93 : tt 93 = some (.slice 54 1 24 [.nil 4 1]) := _root_.id rfl
theorem tt98 : tt 98 = some (.atom (.c (.int .u64 0))) := _root_.id rfl
theorem tt114 : tt 114 = some (.atom (.c (.int .u32 0))) := _root_.id rfl
theorem tt116 : tt 116 = some (.atom (.c (.int .u64 0))) := _root_.id rfl
theorem fnk {f : FuncId} {fn : Func} {c : Code} {args : List (Bool × List CT)} {res : List RT} (hf : Try.prog.funcs[f]? = some fn) (hname : (fn.name == "runtime.NumGoroutine") = false) (hb : fn.body = some c) (hok : codeOk tt hds false fn.ntmps c = true) (hlen : Nat.ble args.length fn.ntmps = true) (h : fnS tt (SC Try.prog J0 JF0 hds) fn.results.toList c args res) : Sound Try.prog J0 f args res := fn_sound htt hJ0 hmix hf hname hb hok hlen h
theorem fnh {f : FuncId} {fn : Func} {c : Code} {h h' : Hand} {args : List (Bool × List CT)} {res : List RT} (hf : Try.prog.funcs[f]? = some fn) (hname : (fn.name == "runtime.NumGoroutine") = false) (hb : fn.body = some c) (hok : codeOk tt hds true fn.ntmps c = true) (hlen : Nat.blt args.length fn.ntmps = true) (hh : fnH tt (SC Try.prog J0 JF0 hds) fn.results.toList c h args res h') : SoundH Try.prog J0 JF0 f h args res h' := fn_soundH htt hJ0 hmix hf hname hb hok hlen hh
theorem fnb {f : FuncId} {fn : Func} {c : Code} {args : List (Bool × List CT)} {t : Nat} {cs : List CT} (hf : Try.prog.funcs[f]? = some fn) (hname : (fn.name == "runtime.NumGoroutine") = false) (hb : fn.body = some c) (hok : codeOk tt hds false fn.ntmps c = true) (hlen : Nat.ble args.length fn.ntmps = true) (h : fnB tt (SC Try.prog J0 JF0 hds) fn.results.toList c args t cs) : SoundB Try.prog J0 f args t cs := fn_soundB htt hJ0 hmix hf hname hb hok hlen h
def eReason (x : ReasonD) : List CT := [.int .i64 x.for_, .sl 3 1 (List.map eInt x.inn), .sl 3 1 (List.map eInt x.outs)]
theorem eReason_eq (x : ReasonD) : eReason x = [.int .i64 x.for_, .sl 3 1 (List.map eInt x.inn), .sl 3 1 (List.map eInt x.outs)] := _root_.id rfl
def eBeliefs (x : BeliefsD) : List CT := [.int .i64 x.nodes, .sl 49 3 (List.map eReason x.reasons)]
theorem eBeliefs_eq (x : BeliefsD) : eBeliefs x = [.int .i64 x.nodes, .sl 49 3 (List.map eReason x.reasons)] := _root_.id rfl
def eFrame (x : FrameD) : List CT := [.int .i64 x.beliefs.nodes, .sl 49 3 (List.map eReason x.beliefs.reasons), .sl 3 1 (List.map eInt x.assumed), .sl 3 1 (List.map eInt x.bad)]
theorem eFrame_eq (x : FrameD) : eFrame x = [.int .i64 x.beliefs.nodes, .sl 49 3 (List.map eReason x.beliefs.reasons), .sl 3 1 (List.map eInt x.assumed), .sl 3 1 (List.map eInt x.bad)] := _root_.id rfl
def el1Cur (x : l1CurD) : List CT := [.sl 5 1 (List.map eByte x.b), .int .i64 x.i, .int .i64 x.h]
theorem el1Cur_eq (x : l1CurD) : el1Cur x = [.sl 5 1 (List.map eByte x.b), .int .i64 x.i, .int .i64 x.h] := _root_.id rfl
def eSlInt_3 (x : (List Int)) : List CT := [.sl 3 1 (List.map eInt x)]
theorem eSlInt_3_eq (x : (List Int)) : eSlInt_3 x = [.sl 3 1 (List.map eInt x)] := _root_.id rfl
def eSlBool_4 (x : (List Bool)) : List CT := [.sl 4 1 (List.map eBool x)]
theorem eSlBool_4_eq (x : (List Bool)) : eSlBool_4 x = [.sl 4 1 (List.map eBool x)] := _root_.id rfl
attribute [go_sem] tt2 tt3 tt4 tt5 tt9 tt12 tt14 tt21 tt22 tt24 tt35 tt37 tt39 tt49 tt52 tt54 tt75 tt93 tt98 tt114 tt116 hd_3 hd_4 hd_10 hd_11 hd_12 hd_13 hd_14 hd_15 hd_16 hd_17 hd_18 hd_19 hd_20 hd_22 hd_23 hd_25 hd_26 hd_28 hd_29
attribute [go_sem] hd_30 hd_31 hd_34 hd_35 hd_36 hd_37 hd_38 hd_39 hd_40 hd_41 hd_42 hd_43 hd_46 hd_47 hd_48 hd_50 hd_51 hd_53 hd_54 hd_55 hd_56 hd_57 hd_59 hd_60 hd_61 hd_65 hd_66 hd_67 hd_69 hd_70 hd_71 hd_72 hd_73 hd_74 hd_75 hd_76 hd_77 hd_78 hd_84 hd_87
attribute [go_sem] hd_88 hd_89 hd_101 hd_102 eReason_eq eBeliefs_eq eFrame_eq el1Cur_eq eSlInt_3_eq eSlBool_4_eq
end Go.Proofs.Ytfbonanbiblkbaa

namespace Go.Proofs.Ytfbonanbiblkbaa
open Go.Proofs.Try
set_option linter.unusedSimpArgs false
set_option linter.unusedVariables false
set_option maxRecDepth 1000000
set_option maxHeartbeats 4000000
theorem w_big_ok {code_0 : (List Int)} {r : Bool} (h : w_big code_0 = some r) : Sound Try.prog J0 10 [(false, [.sl 5 1 (List.map eByte code_0)])] [(false, [(false, .bool r)])] := by
  refine fnk Try.func10 (by kernel_rfl) rfl (by kernel_rfl) (by kernel_rfl) ?_
  unfold w_big at h
  simp only [fnS, f10, argSt, go_sem, Int.reduceLT, Int.reduceLE, Int.reduceBEq, Int.reduceBNe, Nat.reduceBNe, Nat.reduceAdd, Nat.reduceMul, Nat.reduceEqDiff, Nat.reduceLeDiff, Nat.reduceLT, Nat.reduceBEq, reduceCtorEq, reduceIte]
  obtain rfl := Option.some.inj h
  try simp only [go_sem, Int.reduceLT, Int.reduceLE, Int.reduceBEq, Int.reduceBNe, Nat.reduceBNe, Nat.reduceAdd, Nat.reduceMul, Nat.reduceEqDiff, Nat.reduceLeDiff, Nat.reduceLT, Nat.reduceBEq, reduceCtorEq, reduceIte]
theorem s_l1New_ok {code_0 : (List Int)} {r : l1CurD} (h : s_l1New code_0 = some r) : SoundB Try.prog J0 35 [(false, [.sl 5 1 (List.map eByte code_0)])] 75 (el1Cur r) := by
  refine fnb Try.func35 (by kernel_rfl) rfl (by kernel_rfl) (by kernel_rfl) ?_
  unfold s_l1New at h
  simp only [fnB, f35, argSt, go_sem, Int.reduceLT, Int.reduceLE, Int.reduceBEq, Int.reduceBNe, Nat.reduceBNe, Nat.reduceAdd, Nat.reduceMul, Nat.reduceEqDiff, Nat.reduceLeDiff, Nat.reduceLT, Nat.reduceBEq, reduceCtorEq, reduceIte]
  refine swp_for h (fun i h_2 st => IV [(0, .p false [.c (.sl 5 1 (List.map eByte code_0))]), (3, .p false [.c (.int .i64 h_2)]), (4, .p false [.c (.int .i64 ((i : Nat) : Int))])] [] st) [] [] (by decide) ?_ ?_ ?_
  · simp only [go_sem, Int.reduceLT, Int.reduceLE, Int.reduceBEq, Int.reduceBNe, Nat.reduceBNe, Nat.reduceAdd, Nat.reduceMul, Nat.reduceEqDiff, Nat.reduceLeDiff, Nat.reduceLT, Nat.reduceBEq, reduceCtorEq, reduceIte, IV, sts_cons, sts_nil, obs_cons, obs_nil]
  · rintro i5 x6 h_2 ⟨sl, ob, n⟩ y1 hx2 hI3 hW4 h hy1
    simp only [IV, sts_cons, sts_nil, obs_cons, obs_nil, and_true, true_and, Nat.reduceAdd, str_len] at hI3
    obtain ⟨⟨g5_0, g5_3, g5_4⟩, hn⟩ := hI3
    subst hn
    have hlhx2 := WF.slotL hW4 g5_0 (j := 0) rfl
    try simp only [go_sem, Int.reduceLT, Int.reduceLE, Int.reduceBEq, Int.reduceBNe, Nat.reduceBNe, Nat.reduceAdd, Nat.reduceMul, Nat.reduceEqDiff, Nat.reduceLeDiff, Nat.reduceLT, Nat.reduceBEq, reduceCtorEq, reduceIte, hx2, lt_t hx2, lt_p hx2, nat_in (lt_n hx2) hlhx2, g5_0, g5_3, g5_4]
    refine ite_K h (fun c6 h => ?_) (fun c6 h => ?_)
    · try simp only [go_sem, Int.reduceLT, Int.reduceLE, Int.reduceBEq, Int.reduceBNe, Nat.reduceBNe, Nat.reduceAdd, Nat.reduceMul, Nat.reduceEqDiff, Nat.reduceLeDiff, Nat.reduceLT, Nat.reduceBEq, reduceCtorEq, reduceIte, hx2, lt_t hx2, lt_p hx2, nat_in (lt_n hx2) hlhx2, c6, g5_0, g5_3, g5_4]
      refine ⟨_, [], [], (Option.some.inj h).symm, by decide, ?_⟩
      try simp only [go_sem, Int.reduceLT, Int.reduceLE, Int.reduceBEq, Int.reduceBNe, Nat.reduceBNe, Nat.reduceAdd, Nat.reduceMul, Nat.reduceEqDiff, Nat.reduceLeDiff, Nat.reduceLT, Nat.reduceBEq, reduceCtorEq, reduceIte, hx2, lt_t hx2, lt_p hx2, nat_in (lt_n hx2) hlhx2, c6, g5_0, g5_3, g5_4, IV, sts_cons, sts_nil, obs_cons, obs_nil]
    · replace h := inr_K h hy1
      obtain rfl := Option.some.inj h
      try simp only [go_sem, Int.reduceLT, Int.reduceLE, Int.reduceBEq, Int.reduceBNe, Nat.reduceBNe, Nat.reduceAdd, Nat.reduceMul, Nat.reduceEqDiff, Nat.reduceLeDiff, Nat.reduceLT, Nat.reduceBEq, reduceCtorEq, reduceIte, hx2, lt_t hx2, lt_p hx2, nat_in (lt_n hx2) hlhx2, c6, g5_0, g5_3, g5_4]
  · rintro h_2 ⟨sl, ob, n⟩ hI7 hW8 h
    simp only [IV, sts_cons, sts_nil, obs_cons, obs_nil, and_true, true_and, Nat.reduceAdd, str_len] at hI7
    obtain ⟨⟨g9_0, g9_3, g9_4⟩, hn⟩ := hI7
    subst hn
    obtain rfl := Option.some.inj h
    try simp only [go_sem, Int.reduceLT, Int.reduceLE, Int.reduceBEq, Int.reduceBNe, Nat.reduceBNe, Nat.reduceAdd, Nat.reduceMul, Nat.reduceEqDiff, Nat.reduceLeDiff, Nat.reduceLT, Nat.reduceBEq, reduceCtorEq, reduceIte, lt_f (code_0.length), g9_0, g9_3, g9_4]
theorem s_l1Byte_ok {c_0 : l1CurD} {r : (Int × l1CurD)} (h : s_l1Byte c_0 = some r) : SoundH Try.prog J0 JF0 69 (.box 75 (el1Cur c_0)) [] [(false, [(false, .int .i64 r.1)])] (.box 75 (el1Cur r.2)) := by
  refine fnh Try.func69 (by kernel_rfl) rfl (by kernel_rfl) (by kernel_rfl) ?_
  unfold s_l1Byte at h
  have kn0 : ¬ ((35 : Int) < 0) := by decide
  have kn1 : ¬ ((45 : Int) < 0) := by decide
  simp only [fnH, f69, handSt, handSV, handOb, go_sem, Int.reduceLT, Int.reduceLE, Int.reduceBEq, Int.reduceBNe, Nat.reduceBNe, Nat.reduceAdd, Nat.reduceMul, Nat.reduceEqDiff, Nat.reduceLeDiff, Nat.reduceLT, Nat.reduceBEq, reduceCtorEq, reduceIte, kn0, kn1]
  refine ite_K h (fun c1 h => ?_) (fun c1 h => ?_)
  · obtain ⟨x1, a2, a3, e4, h⟩ := at_K h
    obtain rfl := Option.some.inj h
    try simp only [go_sem, Int.reduceLT, Int.reduceLE, Int.reduceBEq, Int.reduceBNe, Nat.reduceBNe, Nat.reduceAdd, Nat.reduceMul, Nat.reduceEqDiff, Nat.reduceLeDiff, Nat.reduceLT, Nat.reduceBEq, reduceCtorEq, reduceIte, kn0, kn1, c1, a2, a3, e4]
  · obtain rfl := Option.some.inj h
    try simp only [go_sem, Int.reduceLT, Int.reduceLE, Int.reduceBEq, Int.reduceBNe, Nat.reduceBNe, Nat.reduceAdd, Nat.reduceMul, Nat.reduceEqDiff, Nat.reduceLeDiff, Nat.reduceLT, Nat.reduceBEq, reduceCtorEq, reduceIte, kn0, kn1, c1]
theorem w_ints_ok {a_0 : (List Int)} {b_1 : (List Int)} {r : Bool} (h : w_ints a_0 b_1 = some r) : Sound Try.prog J0 13 [(false, [.sl 3 1 (List.map eInt a_0)]), (false, [.sl 3 1 (List.map eInt b_1)])] [(false, [(false, .bool r)])] := by
  refine fnk Try.func13 (by kernel_rfl) rfl (by kernel_rfl) (by kernel_rfl) ?_
  unfold w_ints at h
  simp only [fnS, f13, argSt, go_sem, Int.reduceLT, Int.reduceLE, Int.reduceBEq, Int.reduceBNe, Nat.reduceBNe, Nat.reduceAdd, Nat.reduceMul, Nat.reduceEqDiff, Nat.reduceLeDiff, Nat.reduceLT, Nat.reduceBEq, reduceCtorEq, reduceIte]
  refine ite_K h (fun c1 h => ?_) (fun c1 h => ?_)
  · obtain rfl := Option.some.inj h
    try simp only [go_sem, Int.reduceLT, Int.reduceLE, Int.reduceBEq, Int.reduceBNe, Nat.reduceBNe, Nat.reduceAdd, Nat.reduceMul, Nat.reduceEqDiff, Nat.reduceLeDiff, Nat.reduceLT, Nat.reduceBEq, reduceCtorEq, reduceIte, c1]
  · try simp only [go_sem, Int.reduceLT, Int.reduceLE, Int.reduceBEq, Int.reduceBNe, Nat.reduceBNe, Nat.reduceAdd, Nat.reduceMul, Nat.reduceEqDiff, Nat.reduceLeDiff, Nat.reduceLT, Nat.reduceBEq, reduceCtorEq, reduceIte, c1]
    refine swp_for h (fun i _ st => IV [(0, .p false [.c (.sl 3 1 (List.map eInt a_0))]), (1, .p false [.c (.sl 3 1 (List.map eInt b_1))]), (5, .p false [.c (.int .i64 ((i : Nat) : Int))])] [] st) [] [] (by decide) ?_ ?_ ?_
    · simp only [go_sem, Int.reduceLT, Int.reduceLE, Int.reduceBEq, Int.reduceBNe, Nat.reduceBNe, Nat.reduceAdd, Nat.reduceMul, Nat.reduceEqDiff, Nat.reduceLeDiff, Nat.reduceLT, Nat.reduceBEq, reduceCtorEq, reduceIte, IV, sts_cons, sts_nil, obs_cons, obs_nil, c1]
    · rintro i6 x7 ⟨⟩ ⟨sl, ob, n⟩ y2 hx3 hI4 hW5 h hy2
      simp only [IV, sts_cons, sts_nil, obs_cons, obs_nil, and_true, true_and, Nat.reduceAdd, str_len] at hI4
      obtain ⟨⟨g6_0, g6_1, g6_5⟩, hn⟩ := hI4
      subst hn
      have hlhx3 := WF.slotL hW5 g6_0 (j := 0) rfl
      obtain ⟨x8, a7, a8, e9, h⟩ := at_K h
      simp only [Int.toNat_natCast] at e9
      try simp only [go_sem, Int.reduceLT, Int.reduceLE, Int.reduceBEq, Int.reduceBNe, Nat.reduceBNe, Nat.reduceAdd, Nat.reduceMul, Nat.reduceEqDiff, Nat.reduceLeDiff, Nat.reduceLT, Nat.reduceBEq, reduceCtorEq, reduceIte, c1, hx3, lt_t hx3, lt_p hx3, nat_in (lt_n hx3) hlhx3, a7, a8, e9, g6_0, g6_1, g6_5]
      refine ite_K h (fun c10 h => ?_) (fun c10 h => ?_)
      · replace h := inr_K h hy2
        obtain rfl := Option.some.inj h
        try simp only [go_sem, Int.reduceLT, Int.reduceLE, Int.reduceBEq, Int.reduceBNe, Nat.reduceBNe, Nat.reduceAdd, Nat.reduceMul, Nat.reduceEqDiff, Nat.reduceLeDiff, Nat.reduceLT, Nat.reduceBEq, reduceCtorEq, reduceIte, c1, hx3, lt_t hx3, lt_p hx3, nat_in (lt_n hx3) hlhx3, a7, a8, e9, c10, g6_0, g6_1, g6_5]
      · try simp only [go_sem, Int.reduceLT, Int.reduceLE, Int.reduceBEq, Int.reduceBNe, Nat.reduceBNe, Nat.reduceAdd, Nat.reduceMul, Nat.reduceEqDiff, Nat.reduceLeDiff, Nat.reduceLT, Nat.reduceBEq, reduceCtorEq, reduceIte, c1, hx3, lt_t hx3, lt_p hx3, nat_in (lt_n hx3) hlhx3, a7, a8, e9, c10, g6_0, g6_1, g6_5]
        refine ⟨_, [], [], (Option.some.inj h).symm, by decide, ?_⟩
        try simp only [go_sem, Int.reduceLT, Int.reduceLE, Int.reduceBEq, Int.reduceBNe, Nat.reduceBNe, Nat.reduceAdd, Nat.reduceMul, Nat.reduceEqDiff, Nat.reduceLeDiff, Nat.reduceLT, Nat.reduceBEq, reduceCtorEq, reduceIte, c1, hx3, lt_t hx3, lt_p hx3, nat_in (lt_n hx3) hlhx3, a7, a8, e9, c10, g6_0, g6_1, g6_5, IV, sts_cons, sts_nil, obs_cons, obs_nil]
    · rintro ⟨⟩ ⟨sl, ob, n⟩ hI11 hW12 h
      simp only [IV, sts_cons, sts_nil, obs_cons, obs_nil, and_true, true_and, Nat.reduceAdd, str_len] at hI11
      obtain ⟨⟨g13_0, g13_1, g13_5⟩, hn⟩ := hI11
      subst hn
      obtain rfl := Option.some.inj h
      try simp only [go_sem, Int.reduceLT, Int.reduceLE, Int.reduceBEq, Int.reduceBNe, Nat.reduceBNe, Nat.reduceAdd, Nat.reduceMul, Nat.reduceEqDiff, Nat.reduceLeDiff, Nat.reduceLT, Nat.reduceBEq, reduceCtorEq, reduceIte, c1, lt_f (a_0.length), g13_0, g13_1, g13_5]
theorem i_IsPart_ok {a_0 : Int} {b_1 : Int} {r : Bool} (h : i_IsPart a_0 b_1 = some r) : Sound Try.prog J0 16 [(false, [.int .i64 a_0]), (false, [.int .i64 b_1])] [(false, [(false, .bool r)])] := by
  refine fnk Try.func16 (by kernel_rfl) rfl (by kernel_rfl) (by kernel_rfl) ?_
  unfold i_IsPart at h
  simp only [fnS, f16, argSt, go_sem, Int.reduceLT, Int.reduceLE, Int.reduceBEq, Int.reduceBNe, Nat.reduceBNe, Nat.reduceAdd, Nat.reduceMul, Nat.reduceEqDiff, Nat.reduceLeDiff, Nat.reduceLT, Nat.reduceBEq, reduceCtorEq, reduceIte]
  refine ite_K h (fun c1 h => ?_) (fun c1 h => ?_)
  · try simp only [go_sem, Int.reduceLT, Int.reduceLE, Int.reduceBEq, Int.reduceBNe, Nat.reduceBNe, Nat.reduceAdd, Nat.reduceMul, Nat.reduceEqDiff, Nat.reduceLeDiff, Nat.reduceLT, Nat.reduceBEq, reduceCtorEq, reduceIte, c1]
    refine ite_K h (fun c2 h => ?_) (fun c2 h => ?_)
    · obtain rfl := Option.some.inj h
      try simp only [go_sem, Int.reduceLT, Int.reduceLE, Int.reduceBEq, Int.reduceBNe, Nat.reduceBNe, Nat.reduceAdd, Nat.reduceMul, Nat.reduceEqDiff, Nat.reduceLeDiff, Nat.reduceLT, Nat.reduceBEq, reduceCtorEq, reduceIte, c1, c2]
    · obtain rfl := Option.some.inj h
      try simp only [go_sem, Int.reduceLT, Int.reduceLE, Int.reduceBEq, Int.reduceBNe, Nat.reduceBNe, Nat.reduceAdd, Nat.reduceMul, Nat.reduceEqDiff, Nat.reduceLeDiff, Nat.reduceLT, Nat.reduceBEq, reduceCtorEq, reduceIte, c1, c2]
  · obtain rfl := Option.some.inj h
    try simp only [go_sem, Int.reduceLT, Int.reduceLE, Int.reduceBEq, Int.reduceBNe, Nat.reduceBNe, Nat.reduceAdd, Nat.reduceMul, Nat.reduceEqDiff, Nat.reduceLeDiff, Nat.reduceLT, Nat.reduceBEq, reduceCtorEq, reduceIte, c1]
theorem i_hasInt_ok {l_0 : (List Int)} {n_1 : Int} {r : Bool} (h : i_hasInt l_0 n_1 = some r) : Sound Try.prog J0 37 [(false, [.sl 3 1 (List.map eInt l_0)]), (false, [.int .i64 n_1])] [(false, [(false, .bool r)])] := by
  refine fnk Try.func37 (by kernel_rfl) rfl (by kernel_rfl) (by kernel_rfl) ?_
  unfold i_hasInt at h
  simp only [fnS, f37, argSt, go_sem, Int.reduceLT, Int.reduceLE, Int.reduceBEq, Int.reduceBNe, Nat.reduceBNe, Nat.reduceAdd, Nat.reduceMul, Nat.reduceEqDiff, Nat.reduceLeDiff, Nat.reduceLT, Nat.reduceBEq, reduceCtorEq, reduceIte]
  refine swp_for h (fun i _ st => IV [(1, .p false [.c (.int .i64 n_1)]), (7, .p false [.c (.sl 3 1 (List.map eInt l_0))]), (8, .p false [.c (.int .i64 ((l_0.length : Nat) : Int))]), (9, .p false [.c (.int .i64 ((i : Nat) : Int))])] [] st) [] [] (by decide) ?_ ?_ ?_
  · simp only [go_sem, Int.reduceLT, Int.reduceLE, Int.reduceBEq, Int.reduceBNe, Nat.reduceBNe, Nat.reduceAdd, Nat.reduceMul, Nat.reduceEqDiff, Nat.reduceLeDiff, Nat.reduceLT, Nat.reduceBEq, reduceCtorEq, reduceIte, IV, sts_cons, sts_nil, obs_cons, obs_nil]
  · rintro i4 x5 ⟨⟩ ⟨sl, ob, n⟩ y1 hx2 hI3 hW4 h hy1
    simp only [IV, sts_cons, sts_nil, obs_cons, obs_nil, and_true, true_and, Nat.reduceAdd, str_len] at hI3
    obtain ⟨⟨g5_1, g5_7, g5_8, g5_9⟩, hn⟩ := hI3
    subst hn
    have hlhx2 := WF.slotL hW4 g5_7 (j := 0) rfl
    try simp only [go_sem, Int.reduceLT, Int.reduceLE, Int.reduceBEq, Int.reduceBNe, Nat.reduceBNe, Nat.reduceAdd, Nat.reduceMul, Nat.reduceEqDiff, Nat.reduceLeDiff, Nat.reduceLT, Nat.reduceBEq, reduceCtorEq, reduceIte, hx2, lt_t hx2, lt_p hx2, nat_in (lt_n hx2) hlhx2, g5_1, g5_7, g5_8, g5_9]
    refine ite_K h (fun c6 h => ?_) (fun c6 h => ?_)
    · replace h := inr_K h hy1
      obtain rfl := Option.some.inj h
      try simp only [go_sem, Int.reduceLT, Int.reduceLE, Int.reduceBEq, Int.reduceBNe, Nat.reduceBNe, Nat.reduceAdd, Nat.reduceMul, Nat.reduceEqDiff, Nat.reduceLeDiff, Nat.reduceLT, Nat.reduceBEq, reduceCtorEq, reduceIte, hx2, lt_t hx2, lt_p hx2, nat_in (lt_n hx2) hlhx2, c6, g5_1, g5_7, g5_8, g5_9]
    · try simp only [go_sem, Int.reduceLT, Int.reduceLE, Int.reduceBEq, Int.reduceBNe, Nat.reduceBNe, Nat.reduceAdd, Nat.reduceMul, Nat.reduceEqDiff, Nat.reduceLeDiff, Nat.reduceLT, Nat.reduceBEq, reduceCtorEq, reduceIte, hx2, lt_t hx2, lt_p hx2, nat_in (lt_n hx2) hlhx2, c6, g5_1, g5_7, g5_8, g5_9]
      refine ⟨_, [], [], (Option.some.inj h).symm, by decide, ?_⟩
      try simp only [go_sem, Int.reduceLT, Int.reduceLE, Int.reduceBEq, Int.reduceBNe, Nat.reduceBNe, Nat.reduceAdd, Nat.reduceMul, Nat.reduceEqDiff, Nat.reduceLeDiff, Nat.reduceLT, Nat.reduceBEq, reduceCtorEq, reduceIte, hx2, lt_t hx2, lt_p hx2, nat_in (lt_n hx2) hlhx2, c6, g5_1, g5_7, g5_8, g5_9, IV, sts_cons, sts_nil, obs_cons, obs_nil]
  · rintro ⟨⟩ ⟨sl, ob, n⟩ hI7 hW8 h
    simp only [IV, sts_cons, sts_nil, obs_cons, obs_nil, and_true, true_and, Nat.reduceAdd, str_len] at hI7
    obtain ⟨⟨g9_1, g9_7, g9_8, g9_9⟩, hn⟩ := hI7
    subst hn
    obtain rfl := Option.some.inj h
    try simp only [go_sem, Int.reduceLT, Int.reduceLE, Int.reduceBEq, Int.reduceBNe, Nat.reduceBNe, Nat.reduceAdd, Nat.reduceMul, Nat.reduceEqDiff, Nat.reduceLeDiff, Nat.reduceLT, Nat.reduceBEq, reduceCtorEq, reduceIte, lt_f (l_0.length), g9_1, g9_7, g9_8, g9_9]
theorem s_l1In_ok {x_0 : Int} {least_1 : Int} {most_2 : Int} {r : Bool} (h : s_l1In x_0 least_1 most_2 = some r) : Sound Try.prog J0 41 [(false, [.int .i64 x_0]), (false, [.int .i64 least_1]), (false, [.int .i64 most_2])] [(false, [(false, .bool r)])] := by
  refine fnk Try.func41 (by kernel_rfl) rfl (by kernel_rfl) (by kernel_rfl) ?_
  unfold s_l1In at h
  simp only [fnS, f41, argSt, go_sem, Int.reduceLT, Int.reduceLE, Int.reduceBEq, Int.reduceBNe, Nat.reduceBNe, Nat.reduceAdd, Nat.reduceMul, Nat.reduceEqDiff, Nat.reduceLeDiff, Nat.reduceLT, Nat.reduceBEq, reduceCtorEq, reduceIte]
  refine ite_K h (fun c1 h => ?_) (fun c1 h => ?_)
  · obtain rfl := Option.some.inj h
    try simp only [go_sem, Int.reduceLT, Int.reduceLE, Int.reduceBEq, Int.reduceBNe, Nat.reduceBNe, Nat.reduceAdd, Nat.reduceMul, Nat.reduceEqDiff, Nat.reduceLeDiff, Nat.reduceLT, Nat.reduceBEq, reduceCtorEq, reduceIte, c1]
  · obtain rfl := Option.some.inj h
    try simp only [go_sem, Int.reduceLT, Int.reduceLE, Int.reduceBEq, Int.reduceBNe, Nat.reduceBNe, Nat.reduceAdd, Nat.reduceMul, Nat.reduceEqDiff, Nat.reduceLeDiff, Nat.reduceLT, Nat.reduceBEq, reduceCtorEq, reduceIte, c1]
theorem s_IsPart_ok {a_0 : Int} {b_1 : Int} {r : Bool} (h : s_IsPart a_0 b_1 = some r) : Sound Try.prog J0 55 [(false, [.int .i64 a_0]), (false, [.int .i64 b_1])] [(false, [(false, .bool r)])] := by
  refine fnk Try.func55 (by kernel_rfl) rfl (by kernel_rfl) (by kernel_rfl) ?_
  unfold s_IsPart at h
  simp only [fnS, f55, argSt, go_sem, Int.reduceLT, Int.reduceLE, Int.reduceBEq, Int.reduceBNe, Nat.reduceBNe, Nat.reduceAdd, Nat.reduceMul, Nat.reduceEqDiff, Nat.reduceLeDiff, Nat.reduceLT, Nat.reduceBEq, reduceCtorEq, reduceIte]
  refine ite_K h (fun c1 h => ?_) (fun c1 h => ?_)
  · try simp only [go_sem, Int.reduceLT, Int.reduceLE, Int.reduceBEq, Int.reduceBNe, Nat.reduceBNe, Nat.reduceAdd, Nat.reduceMul, Nat.reduceEqDiff, Nat.reduceLeDiff, Nat.reduceLT, Nat.reduceBEq, reduceCtorEq, reduceIte, c1]
    refine ite_K h (fun c2 h => ?_) (fun c2 h => ?_)
    · obtain rfl := Option.some.inj h
      try simp only [go_sem, Int.reduceLT, Int.reduceLE, Int.reduceBEq, Int.reduceBNe, Nat.reduceBNe, Nat.reduceAdd, Nat.reduceMul, Nat.reduceEqDiff, Nat.reduceLeDiff, Nat.reduceLT, Nat.reduceBEq, reduceCtorEq, reduceIte, c1, c2]
    · obtain rfl := Option.some.inj h
      try simp only [go_sem, Int.reduceLT, Int.reduceLE, Int.reduceBEq, Int.reduceBNe, Nat.reduceBNe, Nat.reduceAdd, Nat.reduceMul, Nat.reduceEqDiff, Nat.reduceLeDiff, Nat.reduceLT, Nat.reduceBEq, reduceCtorEq, reduceIte, c1, c2]
  · obtain rfl := Option.some.inj h
    try simp only [go_sem, Int.reduceLT, Int.reduceLE, Int.reduceBEq, Int.reduceBNe, Nat.reduceBNe, Nat.reduceAdd, Nat.reduceMul, Nat.reduceEqDiff, Nat.reduceLeDiff, Nat.reduceLT, Nat.reduceBEq, reduceCtorEq, reduceIte, c1]
theorem s_l13Put_ok {l_0 : (List Int)} {x_1 : Int} {r : (List Int)} (h : s_l13Put l_0 x_1 = some r) : Sound Try.prog J0 70 [(false, [.sl 3 1 (List.map eInt l_0)]), (false, [.int .i64 x_1])] [(false, [(false, .sl 3 1 (List.map eInt r))])] := by
  refine fnk Try.func70 (by kernel_rfl) rfl (by kernel_rfl) (by kernel_rfl) ?_
  unfold s_l13Put at h
  simp only [fnS, f70, argSt, go_sem, Int.reduceLT, Int.reduceLE, Int.reduceBEq, Int.reduceBNe, Nat.reduceBNe, Nat.reduceAdd, Nat.reduceMul, Nat.reduceEqDiff, Nat.reduceLeDiff, Nat.reduceLT, Nat.reduceBEq, reduceCtorEq, reduceIte]
  refine swp_for h (fun i s st => match s with | (row_2, done_3) => IV [(0, .p false [.c (.sl 3 1 (List.map eInt l_0))]), (1, .p false [.c (.int .i64 x_1)]), (5, .p false [.row 0]), (6, .p false [.c (.bool done_3)]), (7, .p false [.c (.int .i64 ((i : Nat) : Int))])] [.row 3 1 (List.map eInt row_2) 2] st) [] [16] (by decide) ?_ ?_ ?_
  · simp only [go_sem, Int.reduceLT, Int.reduceLE, Int.reduceBEq, Int.reduceBNe, Nat.reduceBNe, Nat.reduceAdd, Nat.reduceMul, Nat.reduceEqDiff, Nat.reduceLeDiff, Nat.reduceLT, Nat.reduceBEq, reduceCtorEq, reduceIte, IV, sts_cons, sts_nil, obs_cons, obs_nil]
  · rintro i7 x8 ⟨row_2, done_3⟩ ⟨sl, ob, n⟩ y1 hx2 hI3 hW4 h hy1
    simp only [IV, sts_cons, sts_nil, obs_cons, obs_nil, and_true, true_and, Nat.reduceAdd, str_len] at hI3
    obtain ⟨⟨g5_0, g5_1, g5_5, g5_6, g5_7⟩, og5_0, hn⟩ := hI3
    subst hn
    have hlhx2 := WF.slotL hW4 g5_0 (j := 0) rfl
    try simp only [go_sem, Int.reduceLT, Int.reduceLE, Int.reduceBEq, Int.reduceBNe, Nat.reduceBNe, Nat.reduceAdd, Nat.reduceMul, Nat.reduceEqDiff, Nat.reduceLeDiff, Nat.reduceLT, Nat.reduceBEq, reduceCtorEq, reduceIte, hx2, lt_t hx2, lt_p hx2, nat_in (lt_n hx2) hlhx2, g5_0, g5_1, g5_5, g5_6, g5_7, og5_0]
    refine ite_K h (fun c6 h => ?_) (fun c6 h => ?_)
    · obtain ⟨p7, h⟩ := chk_K h
      try simp only [Nat.reduceLeDiff] at p7
      try simp only [go_sem, Int.reduceLT, Int.reduceLE, Int.reduceBEq, Int.reduceBNe, Nat.reduceBNe, Nat.reduceAdd, Nat.reduceMul, Nat.reduceEqDiff, Nat.reduceLeDiff, Nat.reduceLT, Nat.reduceBEq, reduceCtorEq, reduceIte, hx2, lt_t hx2, lt_p hx2, nat_in (lt_n hx2) hlhx2, c6, p7, g5_0, g5_1, g5_5, g5_6, g5_7, og5_0]
      refine ⟨_, [], [321], (Option.some.inj h).symm, by decide, ?_⟩
      try simp only [go_sem, Int.reduceLT, Int.reduceLE, Int.reduceBEq, Int.reduceBNe, Nat.reduceBNe, Nat.reduceAdd, Nat.reduceMul, Nat.reduceEqDiff, Nat.reduceLeDiff, Nat.reduceLT, Nat.reduceBEq, reduceCtorEq, reduceIte, hx2, lt_t hx2, lt_p hx2, nat_in (lt_n hx2) hlhx2, c6, p7, g5_0, g5_1, g5_5, g5_6, g5_7, og5_0, IV, sts_cons, sts_nil, obs_cons, obs_nil]
    · try simp only [go_sem, Int.reduceLT, Int.reduceLE, Int.reduceBEq, Int.reduceBNe, Nat.reduceBNe, Nat.reduceAdd, Nat.reduceMul, Nat.reduceEqDiff, Nat.reduceLeDiff, Nat.reduceLT, Nat.reduceBEq, reduceCtorEq, reduceIte, hx2, lt_t hx2, lt_p hx2, nat_in (lt_n hx2) hlhx2, c6, g5_0, g5_1, g5_5, g5_6, g5_7, og5_0]
      refine ite_K h (fun c8 h => ?_) (fun c8 h => ?_)
      · try simp only [go_sem, Int.reduceLT, Int.reduceLE, Int.reduceBEq, Int.reduceBNe, Nat.reduceBNe, Nat.reduceAdd, Nat.reduceMul, Nat.reduceEqDiff, Nat.reduceLeDiff, Nat.reduceLT, Nat.reduceBEq, reduceCtorEq, reduceIte, hx2, lt_t hx2, lt_p hx2, nat_in (lt_n hx2) hlhx2, c6, c8, g5_0, g5_1, g5_5, g5_6, g5_7, og5_0]
        refine ite_K h (fun c9 h => ?_) (fun c9 h => ?_)
        · obtain ⟨p10, h⟩ := chk_K h
          try simp only [Nat.reduceLeDiff] at p10
          obtain ⟨p11, h⟩ := chk_K h
          try simp only [Nat.reduceLeDiff] at p11
          try simp only [go_sem, Int.reduceLT, Int.reduceLE, Int.reduceBEq, Int.reduceBNe, Nat.reduceBNe, Nat.reduceAdd, Nat.reduceMul, Nat.reduceEqDiff, Nat.reduceLeDiff, Nat.reduceLT, Nat.reduceBEq, reduceCtorEq, reduceIte, hx2, lt_t hx2, lt_p hx2, nat_in (lt_n hx2) hlhx2, c6, c8, c9, p10, p11, g5_0, g5_1, g5_5, g5_6, g5_7, og5_0]
          refine ⟨_, [], [513], (Option.some.inj h).symm, by decide, ?_⟩
          try simp only [go_sem, Int.reduceLT, Int.reduceLE, Int.reduceBEq, Int.reduceBNe, Nat.reduceBNe, Nat.reduceAdd, Nat.reduceMul, Nat.reduceEqDiff, Nat.reduceLeDiff, Nat.reduceLT, Nat.reduceBEq, reduceCtorEq, reduceIte, hx2, lt_t hx2, lt_p hx2, nat_in (lt_n hx2) hlhx2, c6, c8, c9, p10, p11, g5_0, g5_1, g5_5, g5_6, g5_7, og5_0, IV, sts_cons, sts_nil, obs_cons, obs_nil]
        · obtain ⟨p12, h⟩ := chk_K h
          try simp only [Nat.reduceLeDiff] at p12
          try simp only [go_sem, Int.reduceLT, Int.reduceLE, Int.reduceBEq, Int.reduceBNe, Nat.reduceBNe, Nat.reduceAdd, Nat.reduceMul, Nat.reduceEqDiff, Nat.reduceLeDiff, Nat.reduceLT, Nat.reduceBEq, reduceCtorEq, reduceIte, hx2, lt_t hx2, lt_p hx2, nat_in (lt_n hx2) hlhx2, c6, c8, c9, p12, g5_0, g5_1, g5_5, g5_6, g5_7, og5_0]
          refine ⟨_, [], [433], (Option.some.inj h).symm, by decide, ?_⟩
          try simp only [go_sem, Int.reduceLT, Int.reduceLE, Int.reduceBEq, Int.reduceBNe, Nat.reduceBNe, Nat.reduceAdd, Nat.reduceMul, Nat.reduceEqDiff, Nat.reduceLeDiff, Nat.reduceLT, Nat.reduceBEq, reduceCtorEq, reduceIte, hx2, lt_t hx2, lt_p hx2, nat_in (lt_n hx2) hlhx2, c6, c8, c9, p12, g5_0, g5_1, g5_5, g5_6, g5_7, og5_0, IV, sts_cons, sts_nil, obs_cons, obs_nil]
      · obtain ⟨p13, h⟩ := chk_K h
        try simp only [Nat.reduceLeDiff] at p13
        try simp only [go_sem, Int.reduceLT, Int.reduceLE, Int.reduceBEq, Int.reduceBNe, Nat.reduceBNe, Nat.reduceAdd, Nat.reduceMul, Nat.reduceEqDiff, Nat.reduceLeDiff, Nat.reduceLT, Nat.reduceBEq, reduceCtorEq, reduceIte, hx2, lt_t hx2, lt_p hx2, nat_in (lt_n hx2) hlhx2, c6, c8, p13, g5_0, g5_1, g5_5, g5_6, g5_7, og5_0]
        refine ⟨_, [], [321], (Option.some.inj h).symm, by decide, ?_⟩
        try simp only [go_sem, Int.reduceLT, Int.reduceLE, Int.reduceBEq, Int.reduceBNe, Nat.reduceBNe, Nat.reduceAdd, Nat.reduceMul, Nat.reduceEqDiff, Nat.reduceLeDiff, Nat.reduceLT, Nat.reduceBEq, reduceCtorEq, reduceIte, hx2, lt_t hx2, lt_p hx2, nat_in (lt_n hx2) hlhx2, c6, c8, p13, g5_0, g5_1, g5_5, g5_6, g5_7, og5_0, IV, sts_cons, sts_nil, obs_cons, obs_nil]
  · rintro ⟨row_2, done_3⟩ ⟨sl, ob, n⟩ hI14 hW15 h
    simp only [IV, sts_cons, sts_nil, obs_cons, obs_nil, and_true, true_and, Nat.reduceAdd, str_len] at hI14
    obtain ⟨⟨g16_0, g16_1, g16_5, g16_6, g16_7⟩, og16_0, hn⟩ := hI14
    subst hn
    try simp only [go_sem, Int.reduceLT, Int.reduceLE, Int.reduceBEq, Int.reduceBNe, Nat.reduceBNe, Nat.reduceAdd, Nat.reduceMul, Nat.reduceEqDiff, Nat.reduceLeDiff, Nat.reduceLT, Nat.reduceBEq, reduceCtorEq, reduceIte, lt_f (l_0.length), g16_0, g16_1, g16_5, g16_6, g16_7, og16_0]
    refine ite_K h (fun c17 h => ?_) (fun c17 h => ?_)
    · obtain rfl := Option.some.inj h
      try simp only [go_sem, Int.reduceLT, Int.reduceLE, Int.reduceBEq, Int.reduceBNe, Nat.reduceBNe, Nat.reduceAdd, Nat.reduceMul, Nat.reduceEqDiff, Nat.reduceLeDiff, Nat.reduceLT, Nat.reduceBEq, reduceCtorEq, reduceIte, lt_f (l_0.length), c17, g16_0, g16_1, g16_5, g16_6, g16_7, og16_0]
    · obtain ⟨p18, h⟩ := chk_K h
      try simp only [Nat.reduceLeDiff] at p18
      obtain rfl := Option.some.inj h
      try simp only [go_sem, Int.reduceLT, Int.reduceLE, Int.reduceBEq, Int.reduceBNe, Nat.reduceBNe, Nat.reduceAdd, Nat.reduceMul, Nat.reduceEqDiff, Nat.reduceLeDiff, Nat.reduceLT, Nat.reduceBEq, reduceCtorEq, reduceIte, lt_f (l_0.length), c17, p18, g16_0, g16_1, g16_5, g16_6, g16_7, og16_0]
end Go.Proofs.Ytfbonanbiblkbaa

namespace Go.Proofs
open Go.Shelf
def Try.lays191_ren : Go.Shelf.Ren := ⟨fun | 191 => 38 | 189 => 68 | 125 => 86 | 257 => 85 | 128 => 112 | 129 => 113 | 294 => 103 | 295 => 104 | 296 => 105 | 297 => 106 | 298 => 107 | 299 => 108 | 216 => 109 | 300 => 110 | 301 => 111 | 328 => 115 | 329 => 116 | 330 => 117 | 331 => 118 | 332 => 119 | 215 => 120 | 343 => 122 | n => n, fun | 28 => 24 | 0 => 0 | 3 => 3 | 46 => 98 | 51 => 114 | 53 => 116 | 4 => 4 | 183 => 107 | 182 => 106 | 131 => 111 | 5 => 5 | 9 => 9 | 218 => 117 | 222 => 121 | 228 => 123 | 229 => 124 | n => n, fun | n => n⟩
theorem Try.lays191 : Go.Proofs.Lays.n191 Try.prog Try.lays191_ren := {
  mixed := by kernel_rfl
  f125 := Try.func86.trans (congrArg some (by kernel_rfl))
  f128 := Try.func112.trans (congrArg some (by kernel_rfl))
  f129 := Try.func113.trans (congrArg some (by kernel_rfl))
  f189 := Try.func68.trans (congrArg some (by kernel_rfl))
  f191 := Try.func38.trans (congrArg some (by kernel_rfl))
  f215 := Try.func120.trans (congrArg some (by kernel_rfl))
  f216 := Try.func109.trans (congrArg some (by kernel_rfl))
  f257 := Try.func85.trans (congrArg some (by kernel_rfl))
  f294 := Try.func103.trans (congrArg some (by kernel_rfl))
  f295 := Try.func104.trans (congrArg some (by kernel_rfl))
  f296 := Try.func105.trans (congrArg some (by kernel_rfl))
  f297 := Try.func106.trans (congrArg some (by kernel_rfl))
  f298 := Try.func107.trans (congrArg some (by kernel_rfl))
  f299 := Try.func108.trans (congrArg some (by kernel_rfl))
  f300 := Try.func110.trans (congrArg some (by kernel_rfl))
  f301 := Try.func111.trans (congrArg some (by kernel_rfl))
  f328 := Try.func115.trans (congrArg some (by kernel_rfl))
  f329 := Try.func116.trans (congrArg some (by kernel_rfl))
  f330 := Try.func117.trans (congrArg some (by kernel_rfl))
  f331 := Try.func118.trans (congrArg some (by kernel_rfl))
  f332 := Try.func119.trans (congrArg some (by kernel_rfl))
  f343 := Try.func122.trans (congrArg some (by kernel_rfl))
  t0 := Try.underlying0
  a0 := Try.isAgg0
  z0 := Try.sizeOf0
  v0 := Try.zeroValue0
  t3 := Try.underlying3
  a3 := Try.isAgg3
  z3 := Try.sizeOf3
  v3 := Try.zeroValue3
  t4 := Try.underlying4
  a4 := Try.isAgg4
  z4 := Try.sizeOf4
  v4 := Try.zeroValue4
  t5 := Try.underlying5
  a5 := Try.isAgg5
  z5 := Try.sizeOf5
  v5 := Try.zeroValue5
  t9 := Try.underlying9
  a9 := Try.isAgg9
  z9 := Try.sizeOf9
  v9 := Try.zeroValue9
  t28 := Try.underlying24
  a28 := Try.isAgg24
  z28 := Try.sizeOf24
  v28 := Try.zeroValue24
  t46 := Try.underlying98
  a46 := Try.isAgg98
  z46 := Try.sizeOf98
  v46 := Try.zeroValue98
  t51 := Try.underlying114
  a51 := Try.isAgg114
  z51 := Try.sizeOf114
  v51 := Try.zeroValue114
  t53 := Try.underlying116
  a53 := Try.isAgg116
  z53 := Try.sizeOf116
  v53 := Try.zeroValue116
  t131 := Try.underlying111
  a131 := Try.isAgg111
  z131 := Try.sizeOf111
  v131 := Try.zeroValue111
  t182 := Try.underlying106
  a182 := Try.isAgg106
  z182 := Try.sizeOf106
  v182 := Try.zeroValue106
  t183 := Try.underlying107
  a183 := Try.isAgg107
  z183 := Try.sizeOf107
  v183 := Try.zeroValue107
  t218 := Try.underlying117
  a218 := Try.isAgg117
  z218 := Try.sizeOf117
  v218 := Try.zeroValue117
  t222 := Try.underlying121
  a222 := Try.isAgg121
  z222 := Try.sizeOf121
  v222 := Try.zeroValue121
  t228 := Try.underlying123
  a228 := Try.isAgg123
  z228 := Try.sizeOf123
  v228 := Try.zeroValue123
  t229 := Try.underlying124
  a229 := Try.isAgg124
  z229 := Try.sizeOf124
  v229 := Try.zeroValue124 }
open Go.Sort Go.RowKit in
theorem Try.sort_Ints (blk off cap : Nat) (zs : List Int) (w : World) (hH : Holds (Value.int .i64) w blk off zs.toArray) (hblk : blk < w.heap.size) (hsz : zs.length < 4611686018427387904) :
    Calls Try.prog 38 #[.slice (some ⟨blk, off, none⟩) zs.length cap] w fun e w' =>
      e = .returned (.tuple #[]) ∧ ∃ n os, w' = grow (putRow (Value.int .i64) (Sort.ahead w n) blk off (zs.mergeSort fun x y => decide (x ≤ y)).toArray) os := Any.sort_Ints Try.lays191 blk off cap zs w hH hblk hsz
open Go.RowKit Go.Sort in
/-- .. and plain. (LAID: no walk: one application.) -/
theorem Try.sort_Ints_none (p : Option Addr) (cap : Nat) (w : World) :
    Calls Try.prog 38 #[.slice p 0 cap] w fun e w' => e = .returned (.tuple #[]) ∧ w' = w := Any.sort_Ints_none Try.lays191 p cap w
end Go.Proofs

namespace Go.Proofs.Ytfbonanbiblkbaa
open Go.RowKit Go.Sort
theorem sort_hand {α : Type} [Inhabited α] {P : Program} {J : World → Prop} {JF : Nat → Prop} (enc : α → Value) (el : α → List CT) (hel : ∀ (w : World) x v L, RCs w (el x) v L → v = [enc x]) (hmv : ∀ (w w' : World) x, RCs w (el x) [enc x] [] → RCs w' (el x) [enc x] []) (hflat : ∀ l : List α, flatEs (l.map el) = true) {f : FuncId} {e : TypeId} {zs d : List α} (hc : Callable P f) (hd : d.length = zs.length) (hsub : ∀ x ∈ d, x ∈ zs)
    (hN : ∀ p cap w, Calls P f #[.slice p 0 cap] w fun e w' => e = .returned (.tuple #[]) ∧ w' = w)
    (hC : ∀ blk cap w, Holds enc w blk 0 zs.toArray → blk < w.heap.size → Calls P f #[.slice (some ⟨blk, 0, none⟩) zs.length cap] w fun e w' => e = .returned (.tuple #[]) ∧ ∃ n os, w' = grow (putRow enc (Sort.ahead w n) blk 0 d.toArray) os) :
    SoundH P J JF f (.row e 1 (zs.map el)) [] [] (.row e 1 (d.map el)) := by
  refine ⟨hc, fun w z q v0 vs hj hqf hz hh ha => ?_⟩
  cases vs with
  | cons _ _ => exact ha.elim
  | nil =>
  obtain ⟨hfl, hm, hq, cs, hown, hre⟩ := hh
  have hcs : ∀ (l : List α) (cs : List Value) (L : List Nat), REs w 1 (l.map el) cs L → cs = l.map enc ∧ (L = [] → ∀ x ∈ l, RCs w (el x) [enc x] []) := by
    intro l
    induction l with
    | nil => intro cs L h; exact ⟨h.1, fun _ x mx => by simp at mx⟩
    | cons x l ih =>
      rintro cs L ⟨c1, c2, L1, L2, rfl, rfl, h3, h4⟩
      obtain ⟨i1, i2⟩ := ih _ _ h4
      have e1 := hel _ _ _ _ h3.1
      refine ⟨by rw [e1, i1]; rfl, fun hL y my => ?_⟩
      obtain ⟨l1, l2⟩ := List.append_eq_nil_iff.1 hL
      rcases List.mem_cons.1 my with rfl | my
      · rw [← e1, ← l1]; exact h3.1
      · exact i2 l2 y my
  obtain ⟨e1, e2⟩ := hcs zs cs [] hre
  have e2 := e2 rfl
  subst e1
  have hre' : ∀ (w' : World) (l : List α), (∀ x ∈ l, x ∈ zs) → REs w' 1 (l.map el) (l.map enc) [] := by
    intro w' l
    induction l with
    | nil => intro _; exact ⟨rfl, rfl⟩
    | cons x l ih => intro hl; exact ⟨[enc x], l.map enc, [], [], rfl, rfl, ⟨hmv w w' x (e2 x (hl x (by simp))), rfl⟩, ih fun y my => hl y (by simp [my])⟩
  have hzl : (zs.map el).length = zs.length := by simp
  rw [hzl] at hown
  have done : ∀ w' : World, w'.os = w.os → w'.tape = w.tape → w'.output = w.output → w.heap.size ≤ w'.heap.size → (∀ k, k < w.heap.size → ¬ q = some k → w'.heap[k]? = w.heap[k]?) → w'.ownsRow 0 e 1 v0 d.length (d.map enc) → ∃ v n, Ending.returned (.tuple #[]) = .returned v ∧ ResR w' w.heap.size n [] v ∧ (∀ b, inQ z q b → n b) ∧ HandR w' n q (.row e 1 (d.map el)) v0 ∧ BelQ q w w' :=
    fun w' h1 h2 h3 h4 h5 h6 => ⟨_, inQ z q, rfl, ⟨[], [], ⟨rfl, rfl⟩, Own.nil _ _, rfl⟩, fun _ h => h, ⟨hflat d, by omega, hq, d.map enc, by simpa using h6, hre' w' d hsub⟩, ⟨h1, h2, h3, h4, h5⟩⟩
  rcases Nat.eq_zero_or_pos zs.length with h0 | h0
  · have hz0 : zs = [] := List.eq_nil_of_length_eq_zero h0
    have hd0 : d = [] := List.eq_nil_of_length_eq_zero (hd.trans h0)
    obtain ⟨A, cap, hv⟩ := own_val hown
    rw [h0] at hv
    subst hv
    refine (hN A cap w).mono ?_
    rintro e' w' ⟨rfl, rfl⟩
    exact done w' rfl rfl rfl (Nat.le_refl _) (fun _ _ _ => rfl) (by rw [hd0]; rw [hz0] at hown; exact hown)
  · rcases hown.2 with ⟨h', hl0⟩ | ⟨g, cap, cur, h', hb, hg, hnc, hcm, hcsz, htake⟩
    · omega
    · subst h'
      have hlt : g < w.heap.size := (Array.getElem?_eq_some_iff.1 hg).1
      have hcur : ∀ j, j < zs.length → cur[j]? = some (enc zs[j]!) := fun j hj => by
        have := congrArg (fun l => l[j]?) htake
        simp only [Nat.mul_one, List.getElem?_take, hj, if_true, Array.getElem?_toList, List.getElem?_map] at this
        rw [this]
        simp [List.getElem!_eq_getElem?_getD, hj]
      refine (hC g cap w (fun j hj => ?_) hlt).mono ?_
      · have hj' : j < zs.length := by simpa using hj
        refine ⟨?_, by simp [World.frozen?, hg]⟩
        simp only [World.cell?, hg, Option.isSome_none, Bool.false_eq_true, if_false, Nat.zero_add]
        rw [hcur j hj']
        simp [hj']
      · rintro e' w' ⟨rfl, n, os, rfl⟩
        have hh : (putRow enc (Sort.ahead w n) g 0 d.toArray).heap[g]? = some (.cells (putCells enc 0 d.toArray cur) e (0, 0)) := by
          simp only [putRow, mapBlock, heap_ahead, Array.getElem?_modify, if_true, hg, Option.map_some, onCells]
        refine done _ rfl rfl rfl (by simp) (fun k hk hqk => ?_) ⟨by simp, .inr ⟨g, cap, putCells enc 0 d.toArray cur, by rw [hd], by omega, ?_, by omega, hcm, by simpa [putCells] using hcsz, ?_⟩⟩
        · rw [heap_grow_old _ _ (by simpa using hk)]
          simp only [putRow, mapBlock, heap_ahead, Array.getElem?_modify]
          rw [if_neg (fun e => hqk (by rw [← hq]; simp [Value.ownBlock, e]))]
        · rw [heap_grow_old _ _ (by simpa using hlt)]; exact hh
        · apply List.ext_getElem?
          intro j
          simp only [Nat.mul_one, List.getElem?_take, List.getElem?_map, Array.getElem?_toList, putCells, Array.getElem?_mapIdx, List.size_toArray]
          by_cases hj : j < d.length
          · have hjc : j < cur.size := by omega
            simp [hj, hjc]
          · simp [hj]
end Go.Proofs.Ytfbonanbiblkbaa

namespace Go.Proofs.Ytfbonanbiblkbaa
open Go.RowKit Go.Sort
theorem sortInts_H {J : World → Prop} {JF : Nat → Prop} {l r : List Int} (h : x_sortInts l = some r) : SoundH Try.prog J JF 38 (.row 3 1 (l.map eInt)) [] [] (.row 3 1 (r.map eInt)) := by
  obtain ⟨h1, h2⟩ := chk_K h
  obtain rfl := Option.some.inj h2
  refine sort_hand (Value.int .i64) eInt (fun w x v L h => ?_) (fun w w' x h => h) eInt_flat ⟨Try.f38, Try.func38, by kernel_rfl, by kernel_rfl⟩ (by simp [sortZ]) (fun x hx => by simpa [sortZ] using hx) (fun p cap w => Try.sort_Ints_none p cap w) (fun blk cap w hH hb => Try.sort_Ints blk 0 cap l w hH hb (by omega))
  obtain ⟨u, vs, L1, L2, rfl, rfl, q1, rfl, rfl⟩ := h
  rw [q1.1]
end Go.Proofs.Ytfbonanbiblkbaa

namespace Go.Proofs.Ytfbonanbiblkbaa
theorem x_sortInts_ok {l r : List Int} (h : x_sortInts l = some r) : SoundH Try.prog J0 JF0 38 (.row 3 1 (l.map eInt)) [] [] (.row 3 1 (r.map eInt)) := sortInts_H h
end Go.Proofs.Ytfbonanbiblkbaa

namespace Go.Proofs.Ytfbonanbiblkbaa
open Go.Proofs.Try
set_option linter.unusedSimpArgs false
set_option linter.unusedVariables false
set_option maxRecDepth 1000000
set_option maxHeartbeats 4000000
theorem s_l1Below_ok {c_0 : l1CurD} {n_1 : Int} {r : (Int × l1CurD)} (h : s_l1Below c_0 n_1 = some r) : SoundH Try.prog J0 JF0 39 (.box 75 (el1Cur c_0)) [(false, [.int .i64 n_1])] [(false, [(false, .int .i64 r.1)])] (.box 75 (el1Cur r.2)) := by
  refine fnh Try.func39 (by kernel_rfl) rfl (by kernel_rfl) (by kernel_rfl) ?_
  unfold s_l1Below at h
  simp only [fnH, f39, handSt, handSV, handOb, go_sem, Int.reduceLT, Int.reduceLE, Int.reduceBEq, Int.reduceBNe, Nat.reduceBNe, Nat.reduceAdd, Nat.reduceMul, Nat.reduceEqDiff, Nat.reduceLeDiff, Nat.reduceLT, Nat.reduceBEq, reduceCtorEq, reduceIte]
  refine ite_K h (fun c1 h => ?_) (fun c1 h => ?_)
  · obtain rfl := Option.some.inj h
    try simp only [go_sem, Int.reduceLT, Int.reduceLE, Int.reduceBEq, Int.reduceBNe, Nat.reduceBNe, Nat.reduceAdd, Nat.reduceMul, Nat.reduceEqDiff, Nat.reduceLeDiff, Nat.reduceLT, Nat.reduceBEq, reduceCtorEq, reduceIte, c1]
  · try simp only [go_sem, Int.reduceLT, Int.reduceLE, Int.reduceBEq, Int.reduceBNe, Nat.reduceBNe, Nat.reduceAdd, Nat.reduceMul, Nat.reduceEqDiff, Nat.reduceLeDiff, Nat.reduceLT, Nat.reduceBEq, reduceCtorEq, reduceIte, c1]
    refine ite_K h (fun c2 h => ?_) (fun c2 h => ?_)
    · try simp only [go_sem, Int.reduceLT, Int.reduceLE, Int.reduceBEq, Int.reduceBNe, Nat.reduceBNe, Nat.reduceAdd, Nat.reduceMul, Nat.reduceEqDiff, Nat.reduceLeDiff, Nat.reduceLT, Nat.reduceBEq, reduceCtorEq, reduceIte, c1, c2]
      obtain ⟨v1, e3, h⟩ := bind_K h
      refine hand_K (by first | exact s_l1Byte_ok e3 | simpa only [go_sem, Int.reduceLT, Int.reduceLE, Int.reduceBEq, Int.reduceBNe, Nat.reduceBNe, Nat.reduceAdd, Nat.reduceMul, Nat.reduceEqDiff, Nat.reduceLeDiff, Nat.reduceLT, Nat.reduceBEq, reduceCtorEq, reduceIte, c1, c2] using s_l1Byte_ok e3) ?_
      obtain ⟨p4, h⟩ := chk_K h
      obtain rfl := Option.some.inj h
      try simp only [go_sem, Int.reduceLT, Int.reduceLE, Int.reduceBEq, Int.reduceBNe, Nat.reduceBNe, Nat.reduceAdd, Nat.reduceMul, Nat.reduceEqDiff, Nat.reduceLeDiff, Nat.reduceLT, Nat.reduceBEq, reduceCtorEq, reduceIte, c1, c2, p4]
    · try simp only [go_sem, Int.reduceLT, Int.reduceLE, Int.reduceBEq, Int.reduceBNe, Nat.reduceBNe, Nat.reduceAdd, Nat.reduceMul, Nat.reduceEqDiff, Nat.reduceLeDiff, Nat.reduceLT, Nat.reduceBEq, reduceCtorEq, reduceIte, c1, c2]
      obtain ⟨v2, e5, h⟩ := bind_K h
      refine hand_K (by first | exact s_l1Byte_ok e5 | simpa only [go_sem, Int.reduceLT, Int.reduceLE, Int.reduceBEq, Int.reduceBNe, Nat.reduceBNe, Nat.reduceAdd, Nat.reduceMul, Nat.reduceEqDiff, Nat.reduceLeDiff, Nat.reduceLT, Nat.reduceBEq, reduceCtorEq, reduceIte, c1, c2] using s_l1Byte_ok e5) ?_
      try simp only [go_sem, Int.reduceLT, Int.reduceLE, Int.reduceBEq, Int.reduceBNe, Nat.reduceBNe, Nat.reduceAdd, Nat.reduceMul, Nat.reduceEqDiff, Nat.reduceLeDiff, Nat.reduceLT, Nat.reduceBEq, reduceCtorEq, reduceIte, c1, c2]
      obtain ⟨v3, e6, h⟩ := bind_K h
      refine hand_K (by first | exact s_l1Byte_ok e6 | simpa only [go_sem, Int.reduceLT, Int.reduceLE, Int.reduceBEq, Int.reduceBNe, Nat.reduceBNe, Nat.reduceAdd, Nat.reduceMul, Nat.reduceEqDiff, Nat.reduceLeDiff, Nat.reduceLT, Nat.reduceBEq, reduceCtorEq, reduceIte, c1, c2] using s_l1Byte_ok e6) ?_
      try simp only [go_sem, Int.reduceLT, Int.reduceLE, Int.reduceBEq, Int.reduceBNe, Nat.reduceBNe, Nat.reduceAdd, Nat.reduceMul, Nat.reduceEqDiff, Nat.reduceLeDiff, Nat.reduceLT, Nat.reduceBEq, reduceCtorEq, reduceIte, c1, c2]
      obtain ⟨v4, e7, h⟩ := bind_K h
      refine hand_K (by first | exact s_l1Byte_ok e7 | simpa only [go_sem, Int.reduceLT, Int.reduceLE, Int.reduceBEq, Int.reduceBNe, Nat.reduceBNe, Nat.reduceAdd, Nat.reduceMul, Nat.reduceEqDiff, Nat.reduceLeDiff, Nat.reduceLT, Nat.reduceBEq, reduceCtorEq, reduceIte, c1, c2] using s_l1Byte_ok e7) ?_
      obtain ⟨p8, h⟩ := chk_K h
      obtain rfl := Option.some.inj h
      try simp only [go_sem, Int.reduceLT, Int.reduceLE, Int.reduceBEq, Int.reduceBNe, Nat.reduceBNe, Nat.reduceAdd, Nat.reduceMul, Nat.reduceEqDiff, Nat.reduceLeDiff, Nat.reduceLT, Nat.reduceBEq, reduceCtorEq, reduceIte, c1, c2, p8]
theorem i_LeastSets_ok {l_0 : (List Int)} {r : (List Int)} (h : i_LeastSets l_0 = some r) : Sound Try.prog J0 15 [(false, [.sl 3 1 (List.map eInt l_0)])] [(false, [(false, .sl 3 1 (List.map eInt r))])] := by
  refine fnk Try.func15 (by kernel_rfl) rfl (by kernel_rfl) (by kernel_rfl) ?_
  unfold i_LeastSets at h
  simp only [fnS, f15, argSt, go_sem, Int.reduceLT, Int.reduceLE, Int.reduceBEq, Int.reduceBNe, Nat.reduceBNe, Nat.reduceAdd, Nat.reduceMul, Nat.reduceEqDiff, Nat.reduceLeDiff, Nat.reduceLT, Nat.reduceBEq, reduceCtorEq, reduceIte]
  refine swp_for h (fun i row_33 st => IV [(0, .p false [.c (.sl 3 1 (List.map eInt l_0))]), (3, .p false [.row 0]), (9, .p false [.c (.sl 3 1 (List.map eInt l_0))]), (10, .p false [.c (.int .i64 ((l_0.length : Nat) : Int))]), (11, .p false [.c (.int .i64 ((i : Nat) : Int))])] [.row 3 1 (List.map eInt row_33) 2] st) [(false, 3, 0)] [80] (by decide) ?_ ?_ ?_
  · simp only [go_sem, Int.reduceLT, Int.reduceLE, Int.reduceBEq, Int.reduceBNe, Nat.reduceBNe, Nat.reduceAdd, Nat.reduceMul, Nat.reduceEqDiff, Nat.reduceLeDiff, Nat.reduceLT, Nat.reduceBEq, reduceCtorEq, reduceIte, IV, sts_cons, sts_nil, obs_cons, obs_nil]
  · rintro i54 x55 row_33 ⟨sl, ob, n⟩ y1 hx2 hI3 hW4 h hy1
    simp only [IV, sts_cons, sts_nil, obs_cons, obs_nil, and_true, true_and, Nat.reduceAdd, str_len] at hI3
    obtain ⟨⟨g5_0, g5_3, g5_9, g5_10, g5_11⟩, og5_0, hn⟩ := hI3
    subst hn
    have hlhx2 := WF.slotL hW4 g5_0 (j := 0) rfl
    try simp only [go_sem, Int.reduceLT, Int.reduceLE, Int.reduceBEq, Int.reduceBNe, Nat.reduceBNe, Nat.reduceAdd, Nat.reduceMul, Nat.reduceEqDiff, Nat.reduceLeDiff, Nat.reduceLT, Nat.reduceBEq, reduceCtorEq, reduceIte, hx2, lt_t hx2, lt_p hx2, nat_in (lt_n hx2) hlhx2, g5_0, g5_3, g5_9, g5_10, g5_11, og5_0]
    refine ite_K h (fun c6 h => ?_) (fun c6 h => ?_)
    · try simp only [go_sem, Int.reduceLT, Int.reduceLE, Int.reduceBEq, Int.reduceBNe, Nat.reduceBNe, Nat.reduceAdd, Nat.reduceMul, Nat.reduceEqDiff, Nat.reduceLeDiff, Nat.reduceLT, Nat.reduceBEq, reduceCtorEq, reduceIte, hx2, lt_t hx2, lt_p hx2, nat_in (lt_n hx2) hlhx2, c6, g5_0, g5_3, g5_9, g5_10, g5_11, og5_0]
      obtain ⟨v56, e7, h⟩ := bind_K h
      refine call_K (by first | exact i_hasInt_ok e7 | simpa only [go_sem, Int.reduceLT, Int.reduceLE, Int.reduceBEq, Int.reduceBNe, Nat.reduceBNe, Nat.reduceAdd, Nat.reduceMul, Nat.reduceEqDiff, Nat.reduceLeDiff, Nat.reduceLT, Nat.reduceBEq, reduceCtorEq, reduceIte, hx2, lt_t hx2, lt_p hx2, nat_in (lt_n hx2) hlhx2, c6, g5_0, g5_3, g5_9, g5_10, g5_11, og5_0] using i_hasInt_ok e7) ?_
      try simp only [go_sem, Int.reduceLT, Int.reduceLE, Int.reduceBEq, Int.reduceBNe, Nat.reduceBNe, Nat.reduceAdd, Nat.reduceMul, Nat.reduceEqDiff, Nat.reduceLeDiff, Nat.reduceLT, Nat.reduceBEq, reduceCtorEq, reduceIte, hx2, lt_t hx2, lt_p hx2, nat_in (lt_n hx2) hlhx2, c6, g5_0, g5_3, g5_9, g5_10, g5_11, og5_0]
      refine swp_for h (fun i s st => match s with | (u_59, u_60, least_62) => IV [(0, .p false [.c (.sl 3 1 (List.map eInt l_0))]), (3, .p false [.row 0]), (5, .p false [.c (.int .i64 x55)]), (6, .p false [.c (.bool least_62)]), (9, .p false [.c (.sl 3 1 (List.map eInt l_0))]), (10, .p false [.c (.int .i64 ((l_0.length : Nat) : Int))]), (11, .p false [.c (.int .i64 ((i54 : Nat) : Int))]), (18, .p false [.row 0]), (19, .p false [.c (.int .i64 x55)]), (20, .p false [.c (.bool u_59)]), (21, .p false [.c (.bool u_60)]), (23, .p false [.c (.sl 3 1 (List.map eInt l_0))]), (24, .p false [.c (.int .i64 ((l_0.length : Nat) : Int))]), (25, .p false [.c (.int .i64 ((i : Nat) : Int))])] [.row 3 1 (List.map eInt row_33) 2] st) [] [0] (by decide) ?_ ?_ ?_
      · simp only [go_sem, Int.reduceLT, Int.reduceLE, Int.reduceBEq, Int.reduceBNe, Nat.reduceBNe, Nat.reduceAdd, Nat.reduceMul, Nat.reduceEqDiff, Nat.reduceLeDiff, Nat.reduceLT, Nat.reduceBEq, reduceCtorEq, reduceIte, IV, sts_cons, sts_nil, obs_cons, obs_nil, hx2, lt_t hx2, lt_p hx2, nat_in (lt_n hx2) hlhx2, c6, g5_0, g5_3, g5_9, g5_10, g5_11, og5_0]
      · rintro i65 x66 ⟨u_59, u_60, least_62⟩ ⟨sl, ob, n⟩ y8 hx9 hI10 hW11 h hy8
        simp only [IV, sts_cons, sts_nil, obs_cons, obs_nil, and_true, true_and, Nat.reduceAdd, str_len] at hI10
        obtain ⟨⟨g12_0, g12_3, g12_5, g12_6, g12_9, g12_10, g12_11, g12_18, g12_19, g12_20, g12_21, g12_23, g12_24, g12_25⟩, og12_0, hn⟩ := hI10
        subst hn
        have hlhx9 := WF.slotL hW11 g12_0 (j := 0) rfl
        try simp only [go_sem, Int.reduceLT, Int.reduceLE, Int.reduceBEq, Int.reduceBNe, Nat.reduceBNe, Nat.reduceAdd, Nat.reduceMul, Nat.reduceEqDiff, Nat.reduceLeDiff, Nat.reduceLT, Nat.reduceBEq, reduceCtorEq, reduceIte, hx2, lt_t hx2, lt_p hx2, nat_in (lt_n hx2) hlhx2, c6, hx9, lt_t hx9, lt_p hx9, nat_in (lt_n hx9) hlhx9, g12_0, g12_3, g12_5, g12_6, g12_9, g12_10, g12_11, g12_18, g12_19, g12_20, g12_21, g12_23, g12_24, g12_25, og12_0]
        refine ite_K h (fun c13 h => ?_) (fun c13 h => ?_)
        · try simp only [go_sem, Int.reduceLT, Int.reduceLE, Int.reduceBEq, Int.reduceBNe, Nat.reduceBNe, Nat.reduceAdd, Nat.reduceMul, Nat.reduceEqDiff, Nat.reduceLeDiff, Nat.reduceLT, Nat.reduceBEq, reduceCtorEq, reduceIte, hx2, lt_t hx2, lt_p hx2, nat_in (lt_n hx2) hlhx2, c6, hx9, lt_t hx9, lt_p hx9, nat_in (lt_n hx9) hlhx9, c13, g12_0, g12_3, g12_5, g12_6, g12_9, g12_10, g12_11, g12_18, g12_19, g12_20, g12_21, g12_23, g12_24, g12_25, og12_0]
          refine ite_K h (fun c14 h => ?_) (fun c14 h => ?_)
          · try simp only [go_sem, Int.reduceLT, Int.reduceLE, Int.reduceBEq, Int.reduceBNe, Nat.reduceBNe, Nat.reduceAdd, Nat.reduceMul, Nat.reduceEqDiff, Nat.reduceLeDiff, Nat.reduceLT, Nat.reduceBEq, reduceCtorEq, reduceIte, hx2, lt_t hx2, lt_p hx2, nat_in (lt_n hx2) hlhx2, c6, hx9, lt_t hx9, lt_p hx9, nat_in (lt_n hx9) hlhx9, c13, c14, g12_0, g12_3, g12_5, g12_6, g12_9, g12_10, g12_11, g12_18, g12_19, g12_20, g12_21, g12_23, g12_24, g12_25, og12_0]
            refine ⟨_, [], [0], (Option.some.inj h).symm, by decide, ?_⟩
            try simp only [go_sem, Int.reduceLT, Int.reduceLE, Int.reduceBEq, Int.reduceBNe, Nat.reduceBNe, Nat.reduceAdd, Nat.reduceMul, Nat.reduceEqDiff, Nat.reduceLeDiff, Nat.reduceLT, Nat.reduceBEq, reduceCtorEq, reduceIte, hx2, lt_t hx2, lt_p hx2, nat_in (lt_n hx2) hlhx2, c6, hx9, lt_t hx9, lt_p hx9, nat_in (lt_n hx9) hlhx9, c13, c14, g12_0, g12_3, g12_5, g12_6, g12_9, g12_10, g12_11, g12_18, g12_19, g12_20, g12_21, g12_23, g12_24, g12_25, og12_0, IV, sts_cons, sts_nil, obs_cons, obs_nil]
          · try simp only [go_sem, Int.reduceLT, Int.reduceLE, Int.reduceBEq, Int.reduceBNe, Nat.reduceBNe, Nat.reduceAdd, Nat.reduceMul, Nat.reduceEqDiff, Nat.reduceLeDiff, Nat.reduceLT, Nat.reduceBEq, reduceCtorEq, reduceIte, hx2, lt_t hx2, lt_p hx2, nat_in (lt_n hx2) hlhx2, c6, hx9, lt_t hx9, lt_p hx9, nat_in (lt_n hx9) hlhx9, c13, c14, g12_0, g12_3, g12_5, g12_6, g12_9, g12_10, g12_11, g12_18, g12_19, g12_20, g12_21, g12_23, g12_24, g12_25, og12_0]
            obtain ⟨v67, e15, h⟩ := bind_K h
            refine call_K (by first | exact i_IsPart_ok e15 | simpa only [go_sem, Int.reduceLT, Int.reduceLE, Int.reduceBEq, Int.reduceBNe, Nat.reduceBNe, Nat.reduceAdd, Nat.reduceMul, Nat.reduceEqDiff, Nat.reduceLeDiff, Nat.reduceLT, Nat.reduceBEq, reduceCtorEq, reduceIte, hx2, lt_t hx2, lt_p hx2, nat_in (lt_n hx2) hlhx2, c6, hx9, lt_t hx9, lt_p hx9, nat_in (lt_n hx9) hlhx9, c13, c14, g12_0, g12_3, g12_5, g12_6, g12_9, g12_10, g12_11, g12_18, g12_19, g12_20, g12_21, g12_23, g12_24, g12_25, og12_0] using i_IsPart_ok e15) ?_
            try simp only [go_sem, Int.reduceLT, Int.reduceLE, Int.reduceBEq, Int.reduceBNe, Nat.reduceBNe, Nat.reduceAdd, Nat.reduceMul, Nat.reduceEqDiff, Nat.reduceLeDiff, Nat.reduceLT, Nat.reduceBEq, reduceCtorEq, reduceIte, hx2, lt_t hx2, lt_p hx2, nat_in (lt_n hx2) hlhx2, c6, hx9, lt_t hx9, lt_p hx9, nat_in (lt_n hx9) hlhx9, c13, c14, g12_0, g12_3, g12_5, g12_6, g12_9, g12_10, g12_11, g12_18, g12_19, g12_20, g12_21, g12_23, g12_24, g12_25, og12_0]
            refine ⟨_, [], [0], (Option.some.inj h).symm, by decide, ?_⟩
            try simp only [go_sem, Int.reduceLT, Int.reduceLE, Int.reduceBEq, Int.reduceBNe, Nat.reduceBNe, Nat.reduceAdd, Nat.reduceMul, Nat.reduceEqDiff, Nat.reduceLeDiff, Nat.reduceLT, Nat.reduceBEq, reduceCtorEq, reduceIte, hx2, lt_t hx2, lt_p hx2, nat_in (lt_n hx2) hlhx2, c6, hx9, lt_t hx9, lt_p hx9, nat_in (lt_n hx9) hlhx9, c13, c14, g12_0, g12_3, g12_5, g12_6, g12_9, g12_10, g12_11, g12_18, g12_19, g12_20, g12_21, g12_23, g12_24, g12_25, og12_0, IV, sts_cons, sts_nil, obs_cons, obs_nil]
        · try simp only [go_sem, Int.reduceLT, Int.reduceLE, Int.reduceBEq, Int.reduceBNe, Nat.reduceBNe, Nat.reduceAdd, Nat.reduceMul, Nat.reduceEqDiff, Nat.reduceLeDiff, Nat.reduceLT, Nat.reduceBEq, reduceCtorEq, reduceIte, hx2, lt_t hx2, lt_p hx2, nat_in (lt_n hx2) hlhx2, c6, hx9, lt_t hx9, lt_p hx9, nat_in (lt_n hx9) hlhx9, c13, g12_0, g12_3, g12_5, g12_6, g12_9, g12_10, g12_11, g12_18, g12_19, g12_20, g12_21, g12_23, g12_24, g12_25, og12_0]
          refine ⟨_, [], [0], (Option.some.inj h).symm, by decide, ?_⟩
          try simp only [go_sem, Int.reduceLT, Int.reduceLE, Int.reduceBEq, Int.reduceBNe, Nat.reduceBNe, Nat.reduceAdd, Nat.reduceMul, Nat.reduceEqDiff, Nat.reduceLeDiff, Nat.reduceLT, Nat.reduceBEq, reduceCtorEq, reduceIte, hx2, lt_t hx2, lt_p hx2, nat_in (lt_n hx2) hlhx2, c6, hx9, lt_t hx9, lt_p hx9, nat_in (lt_n hx9) hlhx9, c13, g12_0, g12_3, g12_5, g12_6, g12_9, g12_10, g12_11, g12_18, g12_19, g12_20, g12_21, g12_23, g12_24, g12_25, og12_0, IV, sts_cons, sts_nil, obs_cons, obs_nil]
      · rintro ⟨u_59, u_60, least_62⟩ ⟨sl, ob, n⟩ hI16 hW17 h
        simp only [IV, sts_cons, sts_nil, obs_cons, obs_nil, and_true, true_and, Nat.reduceAdd, str_len] at hI16
        obtain ⟨⟨g18_0, g18_3, g18_5, g18_6, g18_9, g18_10, g18_11, g18_18, g18_19, g18_20, g18_21, g18_23, g18_24, g18_25⟩, og18_0, hn⟩ := hI16
        subst hn
        try simp only [go_sem, Int.reduceLT, Int.reduceLE, Int.reduceBEq, Int.reduceBNe, Nat.reduceBNe, Nat.reduceAdd, Nat.reduceMul, Nat.reduceEqDiff, Nat.reduceLeDiff, Nat.reduceLT, Nat.reduceBEq, reduceCtorEq, reduceIte, hx2, lt_t hx2, lt_p hx2, nat_in (lt_n hx2) hlhx2, c6, lt_f (l_0.length), g18_0, g18_3, g18_5, g18_6, g18_9, g18_10, g18_11, g18_18, g18_19, g18_20, g18_21, g18_23, g18_24, g18_25, og18_0]
        refine ite_K h (fun c19 h => ?_) (fun c19 h => ?_)
        · obtain ⟨p20, h⟩ := chk_K h
          try simp only [Nat.reduceLeDiff] at p20
          try simp only [go_sem, Int.reduceLT, Int.reduceLE, Int.reduceBEq, Int.reduceBNe, Nat.reduceBNe, Nat.reduceAdd, Nat.reduceMul, Nat.reduceEqDiff, Nat.reduceLeDiff, Nat.reduceLT, Nat.reduceBEq, reduceCtorEq, reduceIte, hx2, lt_t hx2, lt_p hx2, nat_in (lt_n hx2) hlhx2, c6, lt_f (l_0.length), c19, p20, g18_0, g18_3, g18_5, g18_6, g18_9, g18_10, g18_11, g18_18, g18_19, g18_20, g18_21, g18_23, g18_24, g18_25, og18_0]
          refine ⟨_, [], [81], (Option.some.inj h).symm, by decide, ?_⟩
          try simp only [go_sem, Int.reduceLT, Int.reduceLE, Int.reduceBEq, Int.reduceBNe, Nat.reduceBNe, Nat.reduceAdd, Nat.reduceMul, Nat.reduceEqDiff, Nat.reduceLeDiff, Nat.reduceLT, Nat.reduceBEq, reduceCtorEq, reduceIte, hx2, lt_t hx2, lt_p hx2, nat_in (lt_n hx2) hlhx2, c6, lt_f (l_0.length), c19, p20, g18_0, g18_3, g18_5, g18_6, g18_9, g18_10, g18_11, g18_18, g18_19, g18_20, g18_21, g18_23, g18_24, g18_25, og18_0, IV, sts_cons, sts_nil, obs_cons, obs_nil]
        · try simp only [go_sem, Int.reduceLT, Int.reduceLE, Int.reduceBEq, Int.reduceBNe, Nat.reduceBNe, Nat.reduceAdd, Nat.reduceMul, Nat.reduceEqDiff, Nat.reduceLeDiff, Nat.reduceLT, Nat.reduceBEq, reduceCtorEq, reduceIte, hx2, lt_t hx2, lt_p hx2, nat_in (lt_n hx2) hlhx2, c6, lt_f (l_0.length), c19, g18_0, g18_3, g18_5, g18_6, g18_9, g18_10, g18_11, g18_18, g18_19, g18_20, g18_21, g18_23, g18_24, g18_25, og18_0]
          refine ⟨_, [], [0], (Option.some.inj h).symm, by decide, ?_⟩
          try simp only [go_sem, Int.reduceLT, Int.reduceLE, Int.reduceBEq, Int.reduceBNe, Nat.reduceBNe, Nat.reduceAdd, Nat.reduceMul, Nat.reduceEqDiff, Nat.reduceLeDiff, Nat.reduceLT, Nat.reduceBEq, reduceCtorEq, reduceIte, hx2, lt_t hx2, lt_p hx2, nat_in (lt_n hx2) hlhx2, c6, lt_f (l_0.length), c19, g18_0, g18_3, g18_5, g18_6, g18_9, g18_10, g18_11, g18_18, g18_19, g18_20, g18_21, g18_23, g18_24, g18_25, og18_0, IV, sts_cons, sts_nil, obs_cons, obs_nil]
    · try simp only [go_sem, Int.reduceLT, Int.reduceLE, Int.reduceBEq, Int.reduceBNe, Nat.reduceBNe, Nat.reduceAdd, Nat.reduceMul, Nat.reduceEqDiff, Nat.reduceLeDiff, Nat.reduceLT, Nat.reduceBEq, reduceCtorEq, reduceIte, hx2, lt_t hx2, lt_p hx2, nat_in (lt_n hx2) hlhx2, c6, g5_0, g5_3, g5_9, g5_10, g5_11, og5_0]
      refine swp_for h (fun i _ st => IV [(0, .p false [.c (.sl 3 1 (List.map eInt l_0))]), (3, .p false [.row 0]), (5, .p false [.c (.int .i64 x55)]), (6, .p false [.c (.bool false)]), (9, .p false [.c (.sl 3 1 (List.map eInt l_0))]), (10, .p false [.c (.int .i64 ((l_0.length : Nat) : Int))]), (11, .p false [.c (.int .i64 ((i54 : Nat) : Int))]), (23, .p false [.c (.sl 3 1 (List.map eInt l_0))]), (24, .p false [.c (.int .i64 ((l_0.length : Nat) : Int))]), (25, .p false [.c (.int .i64 ((i : Nat) : Int))])] [.row 3 1 (List.map eInt row_33) 2] st) [] [0] (by decide) ?_ ?_ ?_
      · simp only [go_sem, Int.reduceLT, Int.reduceLE, Int.reduceBEq, Int.reduceBNe, Nat.reduceBNe, Nat.reduceAdd, Nat.reduceMul, Nat.reduceEqDiff, Nat.reduceLeDiff, Nat.reduceLT, Nat.reduceBEq, reduceCtorEq, reduceIte, IV, sts_cons, sts_nil, obs_cons, obs_nil, hx2, lt_t hx2, lt_p hx2, nat_in (lt_n hx2) hlhx2, c6, g5_0, g5_3, g5_9, g5_10, g5_11, og5_0]
      · rintro i71 x72 ⟨⟩ ⟨sl, ob, n⟩ y21 hx22 hI23 hW24 h hy21
        simp only [IV, sts_cons, sts_nil, obs_cons, obs_nil, and_true, true_and, Nat.reduceAdd, str_len] at hI23
        obtain ⟨⟨g25_0, g25_3, g25_5, g25_6, g25_9, g25_10, g25_11, g25_23, g25_24, g25_25⟩, og25_0, hn⟩ := hI23
        subst hn
        have hlhx22 := WF.slotL hW24 g25_0 (j := 0) rfl
        try simp only [go_sem, Int.reduceLT, Int.reduceLE, Int.reduceBEq, Int.reduceBNe, Nat.reduceBNe, Nat.reduceAdd, Nat.reduceMul, Nat.reduceEqDiff, Nat.reduceLeDiff, Nat.reduceLT, Nat.reduceBEq, reduceCtorEq, reduceIte, hx2, lt_t hx2, lt_p hx2, nat_in (lt_n hx2) hlhx2, c6, hx22, lt_t hx22, lt_p hx22, nat_in (lt_n hx22) hlhx22, g25_0, g25_3, g25_5, g25_6, g25_9, g25_10, g25_11, g25_23, g25_24, g25_25, og25_0]
        refine ⟨_, [], [0], (Option.some.inj h).symm, by decide, ?_⟩
        try simp only [go_sem, Int.reduceLT, Int.reduceLE, Int.reduceBEq, Int.reduceBNe, Nat.reduceBNe, Nat.reduceAdd, Nat.reduceMul, Nat.reduceEqDiff, Nat.reduceLeDiff, Nat.reduceLT, Nat.reduceBEq, reduceCtorEq, reduceIte, hx2, lt_t hx2, lt_p hx2, nat_in (lt_n hx2) hlhx2, c6, hx22, lt_t hx22, lt_p hx22, nat_in (lt_n hx22) hlhx22, g25_0, g25_3, g25_5, g25_6, g25_9, g25_10, g25_11, g25_23, g25_24, g25_25, og25_0, IV, sts_cons, sts_nil, obs_cons, obs_nil]
      · rintro ⟨⟩ ⟨sl, ob, n⟩ hI26 hW27 h
        simp only [IV, sts_cons, sts_nil, obs_cons, obs_nil, and_true, true_and, Nat.reduceAdd, str_len] at hI26
        obtain ⟨⟨g28_0, g28_3, g28_5, g28_6, g28_9, g28_10, g28_11, g28_23, g28_24, g28_25⟩, og28_0, hn⟩ := hI26
        subst hn
        try simp only [go_sem, Int.reduceLT, Int.reduceLE, Int.reduceBEq, Int.reduceBNe, Nat.reduceBNe, Nat.reduceAdd, Nat.reduceMul, Nat.reduceEqDiff, Nat.reduceLeDiff, Nat.reduceLT, Nat.reduceBEq, reduceCtorEq, reduceIte, hx2, lt_t hx2, lt_p hx2, nat_in (lt_n hx2) hlhx2, c6, lt_f (l_0.length), g28_0, g28_3, g28_5, g28_6, g28_9, g28_10, g28_11, g28_23, g28_24, g28_25, og28_0]
        refine ⟨_, [], [0], (Option.some.inj h).symm, by decide, ?_⟩
        try simp only [go_sem, Int.reduceLT, Int.reduceLE, Int.reduceBEq, Int.reduceBNe, Nat.reduceBNe, Nat.reduceAdd, Nat.reduceMul, Nat.reduceEqDiff, Nat.reduceLeDiff, Nat.reduceLT, Nat.reduceBEq, reduceCtorEq, reduceIte, hx2, lt_t hx2, lt_p hx2, nat_in (lt_n hx2) hlhx2, c6, lt_f (l_0.length), g28_0, g28_3, g28_5, g28_6, g28_9, g28_10, g28_11, g28_23, g28_24, g28_25, og28_0, IV, sts_cons, sts_nil, obs_cons, obs_nil]
  · rintro row_33 ⟨sl, ob, n⟩ hI29 hW30 h
    simp only [IV, sts_cons, sts_nil, obs_cons, obs_nil, and_true, true_and, Nat.reduceAdd, str_len] at hI29
    obtain ⟨⟨g31_0, g31_3, g31_9, g31_10, g31_11⟩, og31_0, hn⟩ := hI29
    subst hn
    try simp only [go_sem, Int.reduceLT, Int.reduceLE, Int.reduceBEq, Int.reduceBNe, Nat.reduceBNe, Nat.reduceAdd, Nat.reduceMul, Nat.reduceEqDiff, Nat.reduceLeDiff, Nat.reduceLT, Nat.reduceBEq, reduceCtorEq, reduceIte, lt_f (l_0.length), g31_0, g31_3, g31_9, g31_10, g31_11, og31_0]
    obtain ⟨v73, e32, h⟩ := bind_K h
    refine hand_K (by first | exact x_sortInts_ok e32 | simpa only [go_sem, Int.reduceLT, Int.reduceLE, Int.reduceBEq, Int.reduceBNe, Nat.reduceBNe, Nat.reduceAdd, Nat.reduceMul, Nat.reduceEqDiff, Nat.reduceLeDiff, Nat.reduceLT, Nat.reduceBEq, reduceCtorEq, reduceIte, lt_f (l_0.length), g31_0, g31_3, g31_9, g31_10, g31_11, og31_0] using x_sortInts_ok e32) ?_
    obtain rfl := Option.some.inj h
    try simp only [go_sem, Int.reduceLT, Int.reduceLE, Int.reduceBEq, Int.reduceBNe, Nat.reduceBNe, Nat.reduceAdd, Nat.reduceMul, Nat.reduceEqDiff, Nat.reduceLeDiff, Nat.reduceLT, Nat.reduceBEq, reduceCtorEq, reduceIte, lt_f (l_0.length), g31_0, g31_3, g31_9, g31_10, g31_11, og31_0]
theorem s_LeastSets_ok {l_0 : (List Int)} {r : (List Int)} (h : s_LeastSets l_0 = some r) : Sound Try.prog J0 42 [(false, [.sl 3 1 (List.map eInt l_0)])] [(false, [(false, .sl 3 1 (List.map eInt r))])] := by
  refine fnk Try.func42 (by kernel_rfl) rfl (by kernel_rfl) (by kernel_rfl) ?_
  unfold s_LeastSets at h
  simp only [fnS, f42, argSt, go_sem, Int.reduceLT, Int.reduceLE, Int.reduceBEq, Int.reduceBNe, Nat.reduceBNe, Nat.reduceAdd, Nat.reduceMul, Nat.reduceEqDiff, Nat.reduceLeDiff, Nat.reduceLT, Nat.reduceBEq, reduceCtorEq, reduceIte]
  refine swp_for h (fun i row_12 st => IV [(0, .p false [.c (.sl 3 1 (List.map eInt l_0))]), (3, .p false [.row 0]), (4, .p false [.c (.int .i64 ((i : Nat) : Int))])] [.row 3 1 (List.map eInt row_12) 2] st) [] [16] (by decide) ?_ ?_ ?_
  · simp only [go_sem, Int.reduceLT, Int.reduceLE, Int.reduceBEq, Int.reduceBNe, Nat.reduceBNe, Nat.reduceAdd, Nat.reduceMul, Nat.reduceEqDiff, Nat.reduceLeDiff, Nat.reduceLT, Nat.reduceBEq, reduceCtorEq, reduceIte, IV, sts_cons, sts_nil, obs_cons, obs_nil]
  · rintro i26 x27 row_12 ⟨sl, ob, n⟩ y1 hx2 hI3 hW4 h hy1
    simp only [IV, sts_cons, sts_nil, obs_cons, obs_nil, and_true, true_and, Nat.reduceAdd, str_len] at hI3
    obtain ⟨⟨g5_0, g5_3, g5_4⟩, og5_0, hn⟩ := hI3
    subst hn
    have hlhx2 := WF.slotL hW4 g5_0 (j := 0) rfl
    try simp only [go_sem, Int.reduceLT, Int.reduceLE, Int.reduceBEq, Int.reduceBNe, Nat.reduceBNe, Nat.reduceAdd, Nat.reduceMul, Nat.reduceEqDiff, Nat.reduceLeDiff, Nat.reduceLT, Nat.reduceBEq, reduceCtorEq, reduceIte, hx2, lt_t hx2, lt_p hx2, nat_in (lt_n hx2) hlhx2, g5_0, g5_3, g5_4, og5_0]
    refine swp_for h (fun i least_30 st => IV [(0, .p false [.c (.sl 3 1 (List.map eInt l_0))]), (3, .p false [.row 0]), (4, .p false [.c (.int .i64 ((i26 : Nat) : Int))]), (5, .p false [.c (.bool least_30)]), (6, .p false [.c (.int .i64 ((i : Nat) : Int))])] [.row 3 1 (List.map eInt row_12) 2] st) [] [0] (by decide) ?_ ?_ ?_
    · simp only [go_sem, Int.reduceLT, Int.reduceLE, Int.reduceBEq, Int.reduceBNe, Nat.reduceBNe, Nat.reduceAdd, Nat.reduceMul, Nat.reduceEqDiff, Nat.reduceLeDiff, Nat.reduceLT, Nat.reduceBEq, reduceCtorEq, reduceIte, IV, sts_cons, sts_nil, obs_cons, obs_nil, hx2, lt_t hx2, lt_p hx2, nat_in (lt_n hx2) hlhx2, g5_0, g5_3, g5_4, og5_0]
    · rintro i35 x36 least_30 ⟨sl, ob, n⟩ y6 hx7 hI8 hW9 h hy6
      simp only [IV, sts_cons, sts_nil, obs_cons, obs_nil, and_true, true_and, Nat.reduceAdd, str_len] at hI8
      obtain ⟨⟨g10_0, g10_3, g10_4, g10_5, g10_6⟩, og10_0, hn⟩ := hI8
      subst hn
      have hlhx7 := WF.slotL hW9 g10_0 (j := 0) rfl
      try simp only [go_sem, Int.reduceLT, Int.reduceLE, Int.reduceBEq, Int.reduceBNe, Nat.reduceBNe, Nat.reduceAdd, Nat.reduceMul, Nat.reduceEqDiff, Nat.reduceLeDiff, Nat.reduceLT, Nat.reduceBEq, reduceCtorEq, reduceIte, hx2, lt_t hx2, lt_p hx2, nat_in (lt_n hx2) hlhx2, hx7, lt_t hx7, lt_p hx7, nat_in (lt_n hx7) hlhx7, g10_0, g10_3, g10_4, g10_5, g10_6, og10_0]
      refine ite_K h (fun c11 h => ?_) (fun c11 h => ?_)
      · try simp only [go_sem, Int.reduceLT, Int.reduceLE, Int.reduceBEq, Int.reduceBNe, Nat.reduceBNe, Nat.reduceAdd, Nat.reduceMul, Nat.reduceEqDiff, Nat.reduceLeDiff, Nat.reduceLT, Nat.reduceBEq, reduceCtorEq, reduceIte, hx2, lt_t hx2, lt_p hx2, nat_in (lt_n hx2) hlhx2, hx7, lt_t hx7, lt_p hx7, nat_in (lt_n hx7) hlhx7, c11, g10_0, g10_3, g10_4, g10_5, g10_6, og10_0]
        obtain ⟨v37, e12, h⟩ := bind_K h
        refine call_K (by first | exact s_IsPart_ok e12 | simpa only [go_sem, Int.reduceLT, Int.reduceLE, Int.reduceBEq, Int.reduceBNe, Nat.reduceBNe, Nat.reduceAdd, Nat.reduceMul, Nat.reduceEqDiff, Nat.reduceLeDiff, Nat.reduceLT, Nat.reduceBEq, reduceCtorEq, reduceIte, hx2, lt_t hx2, lt_p hx2, nat_in (lt_n hx2) hlhx2, hx7, lt_t hx7, lt_p hx7, nat_in (lt_n hx7) hlhx7, c11, g10_0, g10_3, g10_4, g10_5, g10_6, og10_0] using s_IsPart_ok e12) ?_
        try simp only [go_sem, Int.reduceLT, Int.reduceLE, Int.reduceBEq, Int.reduceBNe, Nat.reduceBNe, Nat.reduceAdd, Nat.reduceMul, Nat.reduceEqDiff, Nat.reduceLeDiff, Nat.reduceLT, Nat.reduceBEq, reduceCtorEq, reduceIte, hx2, lt_t hx2, lt_p hx2, nat_in (lt_n hx2) hlhx2, hx7, lt_t hx7, lt_p hx7, nat_in (lt_n hx7) hlhx7, c11, g10_0, g10_3, g10_4, g10_5, g10_6, og10_0]
        refine ite_K h (fun c13 h => ?_) (fun c13 h => ?_)
        · try simp only [go_sem, Int.reduceLT, Int.reduceLE, Int.reduceBEq, Int.reduceBNe, Nat.reduceBNe, Nat.reduceAdd, Nat.reduceMul, Nat.reduceEqDiff, Nat.reduceLeDiff, Nat.reduceLT, Nat.reduceBEq, reduceCtorEq, reduceIte, hx2, lt_t hx2, lt_p hx2, nat_in (lt_n hx2) hlhx2, hx7, lt_t hx7, lt_p hx7, nat_in (lt_n hx7) hlhx7, c11, c13, g10_0, g10_3, g10_4, g10_5, g10_6, og10_0]
          refine ⟨_, [], [0], (Option.some.inj h).symm, by decide, ?_⟩
          try simp only [go_sem, Int.reduceLT, Int.reduceLE, Int.reduceBEq, Int.reduceBNe, Nat.reduceBNe, Nat.reduceAdd, Nat.reduceMul, Nat.reduceEqDiff, Nat.reduceLeDiff, Nat.reduceLT, Nat.reduceBEq, reduceCtorEq, reduceIte, hx2, lt_t hx2, lt_p hx2, nat_in (lt_n hx2) hlhx2, hx7, lt_t hx7, lt_p hx7, nat_in (lt_n hx7) hlhx7, c11, c13, g10_0, g10_3, g10_4, g10_5, g10_6, og10_0, IV, sts_cons, sts_nil, obs_cons, obs_nil]
        · try simp only [go_sem, Int.reduceLT, Int.reduceLE, Int.reduceBEq, Int.reduceBNe, Nat.reduceBNe, Nat.reduceAdd, Nat.reduceMul, Nat.reduceEqDiff, Nat.reduceLeDiff, Nat.reduceLT, Nat.reduceBEq, reduceCtorEq, reduceIte, hx2, lt_t hx2, lt_p hx2, nat_in (lt_n hx2) hlhx2, hx7, lt_t hx7, lt_p hx7, nat_in (lt_n hx7) hlhx7, c11, c13, g10_0, g10_3, g10_4, g10_5, g10_6, og10_0]
          refine ⟨_, [], [0], (Option.some.inj h).symm, by decide, ?_⟩
          try simp only [go_sem, Int.reduceLT, Int.reduceLE, Int.reduceBEq, Int.reduceBNe, Nat.reduceBNe, Nat.reduceAdd, Nat.reduceMul, Nat.reduceEqDiff, Nat.reduceLeDiff, Nat.reduceLT, Nat.reduceBEq, reduceCtorEq, reduceIte, hx2, lt_t hx2, lt_p hx2, nat_in (lt_n hx2) hlhx2, hx7, lt_t hx7, lt_p hx7, nat_in (lt_n hx7) hlhx7, c11, c13, g10_0, g10_3, g10_4, g10_5, g10_6, og10_0, IV, sts_cons, sts_nil, obs_cons, obs_nil]
      · try simp only [go_sem, Int.reduceLT, Int.reduceLE, Int.reduceBEq, Int.reduceBNe, Nat.reduceBNe, Nat.reduceAdd, Nat.reduceMul, Nat.reduceEqDiff, Nat.reduceLeDiff, Nat.reduceLT, Nat.reduceBEq, reduceCtorEq, reduceIte, hx2, lt_t hx2, lt_p hx2, nat_in (lt_n hx2) hlhx2, hx7, lt_t hx7, lt_p hx7, nat_in (lt_n hx7) hlhx7, c11, g10_0, g10_3, g10_4, g10_5, g10_6, og10_0]
        refine ⟨_, [], [0], (Option.some.inj h).symm, by decide, ?_⟩
        try simp only [go_sem, Int.reduceLT, Int.reduceLE, Int.reduceBEq, Int.reduceBNe, Nat.reduceBNe, Nat.reduceAdd, Nat.reduceMul, Nat.reduceEqDiff, Nat.reduceLeDiff, Nat.reduceLT, Nat.reduceBEq, reduceCtorEq, reduceIte, hx2, lt_t hx2, lt_p hx2, nat_in (lt_n hx2) hlhx2, hx7, lt_t hx7, lt_p hx7, nat_in (lt_n hx7) hlhx7, c11, g10_0, g10_3, g10_4, g10_5, g10_6, og10_0, IV, sts_cons, sts_nil, obs_cons, obs_nil]
    · rintro least_30 ⟨sl, ob, n⟩ hI14 hW15 h
      simp only [IV, sts_cons, sts_nil, obs_cons, obs_nil, and_true, true_and, Nat.reduceAdd, str_len] at hI14
      obtain ⟨⟨g16_0, g16_3, g16_4, g16_5, g16_6⟩, og16_0, hn⟩ := hI14
      subst hn
      try simp only [go_sem, Int.reduceLT, Int.reduceLE, Int.reduceBEq, Int.reduceBNe, Nat.reduceBNe, Nat.reduceAdd, Nat.reduceMul, Nat.reduceEqDiff, Nat.reduceLeDiff, Nat.reduceLT, Nat.reduceBEq, reduceCtorEq, reduceIte, hx2, lt_t hx2, lt_p hx2, nat_in (lt_n hx2) hlhx2, lt_f (l_0.length), g16_0, g16_3, g16_4, g16_5, g16_6, og16_0]
      refine ite_K h (fun c17 h => ?_) (fun c17 h => ?_)
      · try simp only [go_sem, Int.reduceLT, Int.reduceLE, Int.reduceBEq, Int.reduceBNe, Nat.reduceBNe, Nat.reduceAdd, Nat.reduceMul, Nat.reduceEqDiff, Nat.reduceLeDiff, Nat.reduceLT, Nat.reduceBEq, reduceCtorEq, reduceIte, hx2, lt_t hx2, lt_p hx2, nat_in (lt_n hx2) hlhx2, lt_f (l_0.length), c17, g16_0, g16_3, g16_4, g16_5, g16_6, og16_0]
        obtain ⟨v38, e18, h⟩ := bind_K h
        refine call_K (by first | exact s_l13Put_ok e18 | simpa only [go_sem, Int.reduceLT, Int.reduceLE, Int.reduceBEq, Int.reduceBNe, Nat.reduceBNe, Nat.reduceAdd, Nat.reduceMul, Nat.reduceEqDiff, Nat.reduceLeDiff, Nat.reduceLT, Nat.reduceBEq, reduceCtorEq, reduceIte, hx2, lt_t hx2, lt_p hx2, nat_in (lt_n hx2) hlhx2, lt_f (l_0.length), c17, g16_0, g16_3, g16_4, g16_5, g16_6, og16_0] using s_l13Put_ok e18) ?_
        try simp only [go_sem, Int.reduceLT, Int.reduceLE, Int.reduceBEq, Int.reduceBNe, Nat.reduceBNe, Nat.reduceAdd, Nat.reduceMul, Nat.reduceEqDiff, Nat.reduceLeDiff, Nat.reduceLT, Nat.reduceBEq, reduceCtorEq, reduceIte, hx2, lt_t hx2, lt_p hx2, nat_in (lt_n hx2) hlhx2, lt_f (l_0.length), c17, g16_0, g16_3, g16_4, g16_5, g16_6, og16_0]
        refine ⟨_, [], [161], (Option.some.inj h).symm, by decide, ?_⟩
        try simp only [go_sem, Int.reduceLT, Int.reduceLE, Int.reduceBEq, Int.reduceBNe, Nat.reduceBNe, Nat.reduceAdd, Nat.reduceMul, Nat.reduceEqDiff, Nat.reduceLeDiff, Nat.reduceLT, Nat.reduceBEq, reduceCtorEq, reduceIte, hx2, lt_t hx2, lt_p hx2, nat_in (lt_n hx2) hlhx2, lt_f (l_0.length), c17, g16_0, g16_3, g16_4, g16_5, g16_6, og16_0, IV, sts_cons, sts_nil, obs_cons, obs_nil]
      · try simp only [go_sem, Int.reduceLT, Int.reduceLE, Int.reduceBEq, Int.reduceBNe, Nat.reduceBNe, Nat.reduceAdd, Nat.reduceMul, Nat.reduceEqDiff, Nat.reduceLeDiff, Nat.reduceLT, Nat.reduceBEq, reduceCtorEq, reduceIte, hx2, lt_t hx2, lt_p hx2, nat_in (lt_n hx2) hlhx2, lt_f (l_0.length), c17, g16_0, g16_3, g16_4, g16_5, g16_6, og16_0]
        refine ⟨_, [], [0], (Option.some.inj h).symm, by decide, ?_⟩
        try simp only [go_sem, Int.reduceLT, Int.reduceLE, Int.reduceBEq, Int.reduceBNe, Nat.reduceBNe, Nat.reduceAdd, Nat.reduceMul, Nat.reduceEqDiff, Nat.reduceLeDiff, Nat.reduceLT, Nat.reduceBEq, reduceCtorEq, reduceIte, hx2, lt_t hx2, lt_p hx2, nat_in (lt_n hx2) hlhx2, lt_f (l_0.length), c17, g16_0, g16_3, g16_4, g16_5, g16_6, og16_0, IV, sts_cons, sts_nil, obs_cons, obs_nil]
  · rintro row_12 ⟨sl, ob, n⟩ hI19 hW20 h
    simp only [IV, sts_cons, sts_nil, obs_cons, obs_nil, and_true, true_and, Nat.reduceAdd, str_len] at hI19
    obtain ⟨⟨g21_0, g21_3, g21_4⟩, og21_0, hn⟩ := hI19
    subst hn
    obtain rfl := Option.some.inj h
    try simp only [go_sem, Int.reduceLT, Int.reduceLE, Int.reduceBEq, Int.reduceBNe, Nat.reduceBNe, Nat.reduceAdd, Nat.reduceMul, Nat.reduceEqDiff, Nat.reduceLeDiff, Nat.reduceLT, Nat.reduceBEq, reduceCtorEq, reduceIte, lt_f (l_0.length), g21_0, g21_3, g21_4, og21_0]
end Go.Proofs.Ytfbonanbiblkbaa

namespace Go.Proofs.Ytfbonanbiblkbaa
open Go.Proofs.Try
set_option linter.unusedSimpArgs false
set_option linter.unusedVariables false
set_option maxRecDepth 1000000
set_option maxHeartbeats 4000000
theorem s_l1Int_ok {c_0 : l1CurD} {list_1 : (List Int)} {r : (Int × l1CurD)} (h : s_l1Int c_0 list_1 = some r) : SoundH Try.prog J0 JF0 40 (.box 75 (el1Cur c_0)) [(false, [.sl 3 1 (List.map eInt list_1)])] [(false, [(false, .int .i64 r.1)])] (.box 75 (el1Cur r.2)) := by
  refine fnh Try.func40 (by kernel_rfl) rfl (by kernel_rfl) (by kernel_rfl) ?_
  unfold s_l1Int at h
  simp only [fnH, f40, handSt, handSV, handOb, go_sem, Int.reduceLT, Int.reduceLE, Int.reduceBEq, Int.reduceBNe, Nat.reduceBNe, Nat.reduceAdd, Nat.reduceMul, Nat.reduceEqDiff, Nat.reduceLeDiff, Nat.reduceLT, Nat.reduceBEq, reduceCtorEq, reduceIte]
  obtain ⟨v1, e1, h⟩ := bind_K h
  refine hand_K (by first | exact s_l1Below_ok e1 | simpa only [go_sem, Int.reduceLT, Int.reduceLE, Int.reduceBEq, Int.reduceBNe, Nat.reduceBNe, Nat.reduceAdd, Nat.reduceMul, Nat.reduceEqDiff, Nat.reduceLeDiff, Nat.reduceLT, Nat.reduceBEq, reduceCtorEq, reduceIte] using s_l1Below_ok e1) ?_
  obtain ⟨x2, a2, a3, e4, h⟩ := at_K h
  obtain rfl := Option.some.inj h
  try simp only [go_sem, Int.reduceLT, Int.reduceLE, Int.reduceBEq, Int.reduceBNe, Nat.reduceBNe, Nat.reduceAdd, Nat.reduceMul, Nat.reduceEqDiff, Nat.reduceLeDiff, Nat.reduceLT, Nat.reduceBEq, reduceCtorEq, reduceIte, a2, a3, e4]
theorem i_HittingSets_ok {l_0 : (List Int)} {n_1 : Int} {r : (List Int)} (h : i_HittingSets l_0 n_1 = some r) : Sound Try.prog J0 18 [(false, [.sl 3 1 (List.map eInt l_0)]), (false, [.int .i64 n_1])] [(false, [(false, .sl 3 1 (List.map eInt r))])] := by
  refine fnk Try.func18 (by kernel_rfl) rfl (by kernel_rfl) (by kernel_rfl) ?_
  unfold i_HittingSets at h
  simp only [fnS, f18, argSt, go_sem, Int.reduceLT, Int.reduceLE, Int.reduceBEq, Int.reduceBNe, Nat.reduceBNe, Nat.reduceAdd, Nat.reduceMul, Nat.reduceEqDiff, Nat.reduceLeDiff, Nat.reduceLT, Nat.reduceBEq, reduceCtorEq, reduceIte]
  refine ite_K h (fun c1 h => ?_) (fun c1 h => ?_)
  · obtain rfl := Option.some.inj h
    try simp only [go_sem, Int.reduceLT, Int.reduceLE, Int.reduceBEq, Int.reduceBNe, Nat.reduceBNe, Nat.reduceAdd, Nat.reduceMul, Nat.reduceEqDiff, Nat.reduceLeDiff, Nat.reduceLT, Nat.reduceBEq, reduceCtorEq, reduceIte, c1]
  · try simp only [go_sem, Int.reduceLT, Int.reduceLE, Int.reduceBEq, Int.reduceBNe, Nat.reduceBNe, Nat.reduceAdd, Nat.reduceMul, Nat.reduceEqDiff, Nat.reduceLeDiff, Nat.reduceLT, Nat.reduceBEq, reduceCtorEq, reduceIte, c1]
    refine ite_K h (fun c2 h => ?_) (fun c2 h => ?_)
    · obtain rfl := Option.some.inj h
      try simp only [go_sem, Int.reduceLT, Int.reduceLE, Int.reduceBEq, Int.reduceBNe, Nat.reduceBNe, Nat.reduceAdd, Nat.reduceMul, Nat.reduceEqDiff, Nat.reduceLeDiff, Nat.reduceLT, Nat.reduceBEq, reduceCtorEq, reduceIte, c1, c2]
    · try simp only [go_sem, Int.reduceLT, Int.reduceLE, Int.reduceBEq, Int.reduceBNe, Nat.reduceBNe, Nat.reduceAdd, Nat.reduceMul, Nat.reduceEqDiff, Nat.reduceLeDiff, Nat.reduceLT, Nat.reduceBEq, reduceCtorEq, reduceIte, c1, c2]
      refine swp_for h (fun i _ st => IV [(0, .p false [.c (.sl 3 1 (List.map eInt l_0))]), (1, .p false [.c (.int .i64 n_1)]), (18, .p false [.c (.sl 3 1 (List.map eInt l_0))]), (19, .p false [.c (.int .i64 ((l_0.length : Nat) : Int))]), (20, .p false [.c (.int .i64 ((i : Nat) : Int))])] [] st) [] [] (by decide) ?_ ?_ ?_
      · simp only [go_sem, Int.reduceLT, Int.reduceLE, Int.reduceBEq, Int.reduceBNe, Nat.reduceBNe, Nat.reduceAdd, Nat.reduceMul, Nat.reduceEqDiff, Nat.reduceLeDiff, Nat.reduceLT, Nat.reduceBEq, reduceCtorEq, reduceIte, IV, sts_cons, sts_nil, obs_cons, obs_nil, c1, c2]
      · rintro i25 x26 ⟨⟩ ⟨sl, ob, n⟩ y3 hx4 hI5 hW6 h hy3
        simp only [IV, sts_cons, sts_nil, obs_cons, obs_nil, and_true, true_and, Nat.reduceAdd, str_len] at hI5
        obtain ⟨⟨g7_0, g7_1, g7_18, g7_19, g7_20⟩, hn⟩ := hI5
        subst hn
        have hlhx4 := WF.slotL hW6 g7_0 (j := 0) rfl
        try simp only [go_sem, Int.reduceLT, Int.reduceLE, Int.reduceBEq, Int.reduceBNe, Nat.reduceBNe, Nat.reduceAdd, Nat.reduceMul, Nat.reduceEqDiff, Nat.reduceLeDiff, Nat.reduceLT, Nat.reduceBEq, reduceCtorEq, reduceIte, c1, c2, hx4, lt_t hx4, lt_p hx4, nat_in (lt_n hx4) hlhx4, g7_0, g7_1, g7_18, g7_19, g7_20]
        refine ite_K h (fun c8 h => ?_) (fun c8 h => ?_)
        · replace h := inr_K h hy3
          obtain rfl := Option.some.inj h
          try simp only [go_sem, Int.reduceLT, Int.reduceLE, Int.reduceBEq, Int.reduceBNe, Nat.reduceBNe, Nat.reduceAdd, Nat.reduceMul, Nat.reduceEqDiff, Nat.reduceLeDiff, Nat.reduceLT, Nat.reduceBEq, reduceCtorEq, reduceIte, c1, c2, hx4, lt_t hx4, lt_p hx4, nat_in (lt_n hx4) hlhx4, c8, g7_0, g7_1, g7_18, g7_19, g7_20]
        · obtain ⟨p9, h⟩ := chk_K h
          try simp only [go_sem, Int.reduceLT, Int.reduceLE, Int.reduceBEq, Int.reduceBNe, Nat.reduceBNe, Nat.reduceAdd, Nat.reduceMul, Nat.reduceEqDiff, Nat.reduceLeDiff, Nat.reduceLT, Nat.reduceBEq, reduceCtorEq, reduceIte, c1, c2, hx4, lt_t hx4, lt_p hx4, nat_in (lt_n hx4) hlhx4, c8, p9, g7_0, g7_1, g7_18, g7_19, g7_20]
          refine ite_K h (fun c10 h => ?_) (fun c10 h => ?_)
          · replace h := inr_K h hy3
            obtain rfl := Option.some.inj h
            try simp only [go_sem, Int.reduceLT, Int.reduceLE, Int.reduceBEq, Int.reduceBNe, Nat.reduceBNe, Nat.reduceAdd, Nat.reduceMul, Nat.reduceEqDiff, Nat.reduceLeDiff, Nat.reduceLT, Nat.reduceBEq, reduceCtorEq, reduceIte, c1, c2, hx4, lt_t hx4, lt_p hx4, nat_in (lt_n hx4) hlhx4, c8, p9, c10, g7_0, g7_1, g7_18, g7_19, g7_20]
          · try simp only [go_sem, Int.reduceLT, Int.reduceLE, Int.reduceBEq, Int.reduceBNe, Nat.reduceBNe, Nat.reduceAdd, Nat.reduceMul, Nat.reduceEqDiff, Nat.reduceLeDiff, Nat.reduceLT, Nat.reduceBEq, reduceCtorEq, reduceIte, c1, c2, hx4, lt_t hx4, lt_p hx4, nat_in (lt_n hx4) hlhx4, c8, p9, c10, g7_0, g7_1, g7_18, g7_19, g7_20]
            refine ⟨_, [], [], (Option.some.inj h).symm, by decide, ?_⟩
            try simp only [go_sem, Int.reduceLT, Int.reduceLE, Int.reduceBEq, Int.reduceBNe, Nat.reduceBNe, Nat.reduceAdd, Nat.reduceMul, Nat.reduceEqDiff, Nat.reduceLeDiff, Nat.reduceLT, Nat.reduceBEq, reduceCtorEq, reduceIte, c1, c2, hx4, lt_t hx4, lt_p hx4, nat_in (lt_n hx4) hlhx4, c8, p9, c10, g7_0, g7_1, g7_18, g7_19, g7_20, IV, sts_cons, sts_nil, obs_cons, obs_nil]
      · rintro ⟨⟩ ⟨sl, ob, n⟩ hI11 hW12 h
        simp only [IV, sts_cons, sts_nil, obs_cons, obs_nil, and_true, true_and, Nat.reduceAdd, str_len] at hI11
        obtain ⟨⟨g13_0, g13_1, g13_18, g13_19, g13_20⟩, hn⟩ := hI11
        subst hn
        obtain ⟨p14, h⟩ := chk_K h
        try simp only [go_sem, Int.reduceLT, Int.reduceLE, Int.reduceBEq, Int.reduceBNe, Nat.reduceBNe, Nat.reduceAdd, Nat.reduceMul, Nat.reduceEqDiff, Nat.reduceLeDiff, Nat.reduceLT, Nat.reduceBEq, reduceCtorEq, reduceIte, c1, c2, lt_f (l_0.length), p14, g13_0, g13_1, g13_18, g13_19, g13_20]
        refine swp_iter h (fun s st => match s with | (row_39, u_40) => IV [(0, .p false [.c (.sl 3 1 (List.map eInt l_0))]), (7, .p false [.row 0]), (34, .p false [.c (.int .i64 (shlI .i64 1 n_1))]), (35, .p false [.c (.int .i64 u_40)])] [.row 3 1 (List.map eInt row_39) 2] st) [(false, 7, 0)] [80] (by decide) ?_ ?_
        · simp only [go_sem, Int.reduceLT, Int.reduceLE, Int.reduceBEq, Int.reduceBNe, Nat.reduceBNe, Nat.reduceAdd, Nat.reduceMul, Nat.reduceEqDiff, Nat.reduceLeDiff, Nat.reduceLT, Nat.reduceBEq, reduceCtorEq, reduceIte, IV, sts_cons, sts_nil, obs_cons, obs_nil, c1, c2, lt_f (l_0.length), p14, g13_0, g13_1, g13_18, g13_19, g13_20]
        · rintro ⟨row_39, u_40⟩ ⟨sl, ob, n⟩ y15 hI16 hW17 h hy15
          simp only [IV, sts_cons, sts_nil, obs_cons, obs_nil, and_true, true_and, Nat.reduceAdd, str_len] at hI16
          obtain ⟨⟨g18_0, g18_7, g18_34, g18_35⟩, og18_0, hn⟩ := hI16
          subst hn
          try simp only [go_sem, Int.reduceLT, Int.reduceLE, Int.reduceBEq, Int.reduceBNe, Nat.reduceBNe, Nat.reduceAdd, Nat.reduceMul, Nat.reduceEqDiff, Nat.reduceLeDiff, Nat.reduceLT, Nat.reduceBEq, reduceCtorEq, reduceIte, c1, c2, lt_f (l_0.length), p14, g18_0, g18_7, g18_34, g18_35, og18_0]
          refine ite_K h (fun c19 h => ?_) (fun c19 h => ?_)
          · try simp only [go_sem, Int.reduceLT, Int.reduceLE, Int.reduceBEq, Int.reduceBNe, Nat.reduceBNe, Nat.reduceAdd, Nat.reduceMul, Nat.reduceEqDiff, Nat.reduceLeDiff, Nat.reduceLT, Nat.reduceBEq, reduceCtorEq, reduceIte, c1, c2, lt_f (l_0.length), p14, c19, g18_0, g18_7, g18_34, g18_35, og18_0]
            refine swp_for h (fun i hits_43 st => IV [(0, .p false [.c (.sl 3 1 (List.map eInt l_0))]), (7, .p false [.row 0]), (8, .p false [.c (.int .i64 u_40)]), (9, .p false [.c (.bool hits_43)]), (34, .p false [.c (.int .i64 (shlI .i64 1 n_1))]), (35, .p false [.c (.int .i64 u_40)]), (38, .p false [.c (.sl 3 1 (List.map eInt l_0))]), (39, .p false [.c (.int .i64 ((l_0.length : Nat) : Int))]), (40, .p false [.c (.int .i64 ((i : Nat) : Int))])] [.row 3 1 (List.map eInt row_39) 2] st) [] [0] (by decide) ?_ ?_ ?_
            · simp only [go_sem, Int.reduceLT, Int.reduceLE, Int.reduceBEq, Int.reduceBNe, Nat.reduceBNe, Nat.reduceAdd, Nat.reduceMul, Nat.reduceEqDiff, Nat.reduceLeDiff, Nat.reduceLT, Nat.reduceBEq, reduceCtorEq, reduceIte, IV, sts_cons, sts_nil, obs_cons, obs_nil, c1, c2, lt_f (l_0.length), p14, c19, g18_0, g18_7, g18_34, g18_35, og18_0]
            · rintro i45 x46 hits_43 ⟨sl, ob, n⟩ y20 hx21 hI22 hW23 h hy20
              simp only [IV, sts_cons, sts_nil, obs_cons, obs_nil, and_true, true_and, Nat.reduceAdd, str_len] at hI22
              obtain ⟨⟨g24_0, g24_7, g24_8, g24_9, g24_34, g24_35, g24_38, g24_39, g24_40⟩, og24_0, hn⟩ := hI22
              subst hn
              have hlhx21 := WF.slotL hW23 g24_0 (j := 0) rfl
              try simp only [go_sem, Int.reduceLT, Int.reduceLE, Int.reduceBEq, Int.reduceBNe, Nat.reduceBNe, Nat.reduceAdd, Nat.reduceMul, Nat.reduceEqDiff, Nat.reduceLeDiff, Nat.reduceLT, Nat.reduceBEq, reduceCtorEq, reduceIte, c1, c2, lt_f (l_0.length), p14, c19, hx21, lt_t hx21, lt_p hx21, nat_in (lt_n hx21) hlhx21, g24_0, g24_7, g24_8, g24_9, g24_34, g24_35, g24_38, g24_39, g24_40, og24_0]
              refine ite_K h (fun c25 h => ?_) (fun c25 h => ?_)
              · try simp only [go_sem, Int.reduceLT, Int.reduceLE, Int.reduceBEq, Int.reduceBNe, Nat.reduceBNe, Nat.reduceAdd, Nat.reduceMul, Nat.reduceEqDiff, Nat.reduceLeDiff, Nat.reduceLT, Nat.reduceBEq, reduceCtorEq, reduceIte, c1, c2, lt_f (l_0.length), p14, c19, hx21, lt_t hx21, lt_p hx21, nat_in (lt_n hx21) hlhx21, c25, g24_0, g24_7, g24_8, g24_9, g24_34, g24_35, g24_38, g24_39, g24_40, og24_0]
                refine ⟨_, [], [0], (Option.some.inj h).symm, by decide, ?_⟩
                try simp only [go_sem, Int.reduceLT, Int.reduceLE, Int.reduceBEq, Int.reduceBNe, Nat.reduceBNe, Nat.reduceAdd, Nat.reduceMul, Nat.reduceEqDiff, Nat.reduceLeDiff, Nat.reduceLT, Nat.reduceBEq, reduceCtorEq, reduceIte, c1, c2, lt_f (l_0.length), p14, c19, hx21, lt_t hx21, lt_p hx21, nat_in (lt_n hx21) hlhx21, c25, g24_0, g24_7, g24_8, g24_9, g24_34, g24_35, g24_38, g24_39, g24_40, og24_0, IV, sts_cons, sts_nil, obs_cons, obs_nil]
              · try simp only [go_sem, Int.reduceLT, Int.reduceLE, Int.reduceBEq, Int.reduceBNe, Nat.reduceBNe, Nat.reduceAdd, Nat.reduceMul, Nat.reduceEqDiff, Nat.reduceLeDiff, Nat.reduceLT, Nat.reduceBEq, reduceCtorEq, reduceIte, c1, c2, lt_f (l_0.length), p14, c19, hx21, lt_t hx21, lt_p hx21, nat_in (lt_n hx21) hlhx21, c25, g24_0, g24_7, g24_8, g24_9, g24_34, g24_35, g24_38, g24_39, g24_40, og24_0]
                refine ⟨_, [], [0], (Option.some.inj h).symm, by decide, ?_⟩
                try simp only [go_sem, Int.reduceLT, Int.reduceLE, Int.reduceBEq, Int.reduceBNe, Nat.reduceBNe, Nat.reduceAdd, Nat.reduceMul, Nat.reduceEqDiff, Nat.reduceLeDiff, Nat.reduceLT, Nat.reduceBEq, reduceCtorEq, reduceIte, c1, c2, lt_f (l_0.length), p14, c19, hx21, lt_t hx21, lt_p hx21, nat_in (lt_n hx21) hlhx21, c25, g24_0, g24_7, g24_8, g24_9, g24_34, g24_35, g24_38, g24_39, g24_40, og24_0, IV, sts_cons, sts_nil, obs_cons, obs_nil]
            · rintro hits_43 ⟨sl, ob, n⟩ hI26 hW27 h
              simp only [IV, sts_cons, sts_nil, obs_cons, obs_nil, and_true, true_and, Nat.reduceAdd, str_len] at hI26
              obtain ⟨⟨g28_0, g28_7, g28_8, g28_9, g28_34, g28_35, g28_38, g28_39, g28_40⟩, og28_0, hn⟩ := hI26
              subst hn
              try simp only [go_sem, Int.reduceLT, Int.reduceLE, Int.reduceBEq, Int.reduceBNe, Nat.reduceBNe, Nat.reduceAdd, Nat.reduceMul, Nat.reduceEqDiff, Nat.reduceLeDiff, Nat.reduceLT, Nat.reduceBEq, reduceCtorEq, reduceIte, c1, c2, lt_f (l_0.length), p14, c19, lt_f (l_0.length), g28_0, g28_7, g28_8, g28_9, g28_34, g28_35, g28_38, g28_39, g28_40, og28_0]
              refine ite_K h (fun c29 h => ?_) (fun c29 h => ?_)
              · obtain ⟨p30, h⟩ := chk_K h
                try simp only [Nat.reduceLeDiff] at p30
                try simp only [go_sem, Int.reduceLT, Int.reduceLE, Int.reduceBEq, Int.reduceBNe, Nat.reduceBNe, Nat.reduceAdd, Nat.reduceMul, Nat.reduceEqDiff, Nat.reduceLeDiff, Nat.reduceLT, Nat.reduceBEq, reduceCtorEq, reduceIte, c1, c2, lt_f (l_0.length), p14, c19, lt_f (l_0.length), c29, p30, g28_0, g28_7, g28_8, g28_9, g28_34, g28_35, g28_38, g28_39, g28_40, og28_0]
                refine ⟨_, [], [81], (Option.some.inj h).symm, by decide, ?_⟩
                try simp only [go_sem, Int.reduceLT, Int.reduceLE, Int.reduceBEq, Int.reduceBNe, Nat.reduceBNe, Nat.reduceAdd, Nat.reduceMul, Nat.reduceEqDiff, Nat.reduceLeDiff, Nat.reduceLT, Nat.reduceBEq, reduceCtorEq, reduceIte, c1, c2, lt_f (l_0.length), p14, c19, lt_f (l_0.length), c29, p30, g28_0, g28_7, g28_8, g28_9, g28_34, g28_35, g28_38, g28_39, g28_40, og28_0, IV, sts_cons, sts_nil, obs_cons, obs_nil]
              · try simp only [go_sem, Int.reduceLT, Int.reduceLE, Int.reduceBEq, Int.reduceBNe, Nat.reduceBNe, Nat.reduceAdd, Nat.reduceMul, Nat.reduceEqDiff, Nat.reduceLeDiff, Nat.reduceLT, Nat.reduceBEq, reduceCtorEq, reduceIte, c1, c2, lt_f (l_0.length), p14, c19, lt_f (l_0.length), c29, g28_0, g28_7, g28_8, g28_9, g28_34, g28_35, g28_38, g28_39, g28_40, og28_0]
                refine ⟨_, [], [0], (Option.some.inj h).symm, by decide, ?_⟩
                try simp only [go_sem, Int.reduceLT, Int.reduceLE, Int.reduceBEq, Int.reduceBNe, Nat.reduceBNe, Nat.reduceAdd, Nat.reduceMul, Nat.reduceEqDiff, Nat.reduceLeDiff, Nat.reduceLT, Nat.reduceBEq, reduceCtorEq, reduceIte, c1, c2, lt_f (l_0.length), p14, c19, lt_f (l_0.length), c29, g28_0, g28_7, g28_8, g28_9, g28_34, g28_35, g28_38, g28_39, g28_40, og28_0, IV, sts_cons, sts_nil, obs_cons, obs_nil]
          · try simp only [go_sem, Int.reduceLT, Int.reduceLE, Int.reduceBEq, Int.reduceBNe, Nat.reduceBNe, Nat.reduceAdd, Nat.reduceMul, Nat.reduceEqDiff, Nat.reduceLeDiff, Nat.reduceLT, Nat.reduceBEq, reduceCtorEq, reduceIte, c1, c2, lt_f (l_0.length), p14, c19, g18_0, g18_7, g18_34, g18_35, og18_0]
            obtain ⟨v47, e31, h⟩ := bind_K h
            refine call_K (by first | exact i_LeastSets_ok e31 | simpa only [go_sem, Int.reduceLT, Int.reduceLE, Int.reduceBEq, Int.reduceBNe, Nat.reduceBNe, Nat.reduceAdd, Nat.reduceMul, Nat.reduceEqDiff, Nat.reduceLeDiff, Nat.reduceLT, Nat.reduceBEq, reduceCtorEq, reduceIte, c1, c2, lt_f (l_0.length), p14, c19, g18_0, g18_7, g18_34, g18_35, og18_0] using i_LeastSets_ok e31) ?_
            replace h := inr_K h hy15
            obtain rfl := Option.some.inj h
            try simp only [go_sem, Int.reduceLT, Int.reduceLE, Int.reduceBEq, Int.reduceBNe, Nat.reduceBNe, Nat.reduceAdd, Nat.reduceMul, Nat.reduceEqDiff, Nat.reduceLeDiff, Nat.reduceLT, Nat.reduceBEq, reduceCtorEq, reduceIte, c1, c2, lt_f (l_0.length), p14, c19, g18_0, g18_7, g18_34, g18_35, og18_0]
theorem s_HittingSets_ok {l_0 : (List Int)} {n_1 : Int} {r : (List Int)} (h : s_HittingSets l_0 n_1 = some r) : Sound Try.prog J0 19 [(false, [.sl 3 1 (List.map eInt l_0)]), (false, [.int .i64 n_1])] [(false, [(false, .sl 3 1 (List.map eInt r))])] := by
  refine fnk Try.func19 (by kernel_rfl) rfl (by kernel_rfl) (by kernel_rfl) ?_
  unfold s_HittingSets at h
  simp only [fnS, f19, argSt, go_sem, Int.reduceLT, Int.reduceLE, Int.reduceBEq, Int.reduceBNe, Nat.reduceBNe, Nat.reduceAdd, Nat.reduceMul, Nat.reduceEqDiff, Nat.reduceLeDiff, Nat.reduceLT, Nat.reduceBEq, reduceCtorEq, reduceIte]
  obtain ⟨v1, e1, h⟩ := bind_K h
  refine call_K (by first | exact s_l1In_ok e1 | simpa only [go_sem, Int.reduceLT, Int.reduceLE, Int.reduceBEq, Int.reduceBNe, Nat.reduceBNe, Nat.reduceAdd, Nat.reduceMul, Nat.reduceEqDiff, Nat.reduceLeDiff, Nat.reduceLT, Nat.reduceBEq, reduceCtorEq, reduceIte] using s_l1In_ok e1) ?_
  try simp only [go_sem, Int.reduceLT, Int.reduceLE, Int.reduceBEq, Int.reduceBNe, Nat.reduceBNe, Nat.reduceAdd, Nat.reduceMul, Nat.reduceEqDiff, Nat.reduceLeDiff, Nat.reduceLT, Nat.reduceBEq, reduceCtorEq, reduceIte]
  refine ite_K h (fun c2 h => ?_) (fun c2 h => ?_)
  · try simp only [go_sem, Int.reduceLT, Int.reduceLE, Int.reduceBEq, Int.reduceBNe, Nat.reduceBNe, Nat.reduceAdd, Nat.reduceMul, Nat.reduceEqDiff, Nat.reduceLeDiff, Nat.reduceLT, Nat.reduceBEq, reduceCtorEq, reduceIte, c2]
    refine swp_for h (fun i _ st => IV [(0, .p false [.c (.sl 3 1 (List.map eInt l_0))]), (1, .p false [.c (.int .i64 n_1)]), (5, .p false [.c (.int .i64 ((i : Nat) : Int))])] [] st) [] [] (by decide) ?_ ?_ ?_
    · simp only [go_sem, Int.reduceLT, Int.reduceLE, Int.reduceBEq, Int.reduceBNe, Nat.reduceBNe, Nat.reduceAdd, Nat.reduceMul, Nat.reduceEqDiff, Nat.reduceLeDiff, Nat.reduceLT, Nat.reduceBEq, reduceCtorEq, reduceIte, IV, sts_cons, sts_nil, obs_cons, obs_nil, c2]
    · rintro i22 x23 ⟨⟩ ⟨sl, ob, n⟩ y3 hx4 hI5 hW6 h hy3
      simp only [IV, sts_cons, sts_nil, obs_cons, obs_nil, and_true, true_and, Nat.reduceAdd, str_len] at hI5
      obtain ⟨⟨g7_0, g7_1, g7_5⟩, hn⟩ := hI5
      subst hn
      have hlhx4 := WF.slotL hW6 g7_0 (j := 0) rfl
      obtain ⟨p8, h⟩ := chk_K h
      try simp only [go_sem, Int.reduceLT, Int.reduceLE, Int.reduceBEq, Int.reduceBNe, Nat.reduceBNe, Nat.reduceAdd, Nat.reduceMul, Nat.reduceEqDiff, Nat.reduceLeDiff, Nat.reduceLT, Nat.reduceBEq, reduceCtorEq, reduceIte, c2, hx4, lt_t hx4, lt_p hx4, nat_in (lt_n hx4) hlhx4, p8, g7_0, g7_1, g7_5]
      obtain ⟨v24, e9, h⟩ := bind_K h
      refine call_K (by first | exact s_l1In_ok e9 | simpa only [go_sem, Int.reduceLT, Int.reduceLE, Int.reduceBEq, Int.reduceBNe, Nat.reduceBNe, Nat.reduceAdd, Nat.reduceMul, Nat.reduceEqDiff, Nat.reduceLeDiff, Nat.reduceLT, Nat.reduceBEq, reduceCtorEq, reduceIte, c2, hx4, lt_t hx4, lt_p hx4, nat_in (lt_n hx4) hlhx4, p8, g7_0, g7_1, g7_5] using s_l1In_ok e9) ?_
      try simp only [go_sem, Int.reduceLT, Int.reduceLE, Int.reduceBEq, Int.reduceBNe, Nat.reduceBNe, Nat.reduceAdd, Nat.reduceMul, Nat.reduceEqDiff, Nat.reduceLeDiff, Nat.reduceLT, Nat.reduceBEq, reduceCtorEq, reduceIte, c2, hx4, lt_t hx4, lt_p hx4, nat_in (lt_n hx4) hlhx4, p8, g7_0, g7_1, g7_5]
      refine ite_K h (fun c10 h => ?_) (fun c10 h => ?_)
      · try simp only [go_sem, Int.reduceLT, Int.reduceLE, Int.reduceBEq, Int.reduceBNe, Nat.reduceBNe, Nat.reduceAdd, Nat.reduceMul, Nat.reduceEqDiff, Nat.reduceLeDiff, Nat.reduceLT, Nat.reduceBEq, reduceCtorEq, reduceIte, c2, hx4, lt_t hx4, lt_p hx4, nat_in (lt_n hx4) hlhx4, p8, c10, g7_0, g7_1, g7_5]
        refine ⟨_, [], [], (Option.some.inj h).symm, by decide, ?_⟩
        try simp only [go_sem, Int.reduceLT, Int.reduceLE, Int.reduceBEq, Int.reduceBNe, Nat.reduceBNe, Nat.reduceAdd, Nat.reduceMul, Nat.reduceEqDiff, Nat.reduceLeDiff, Nat.reduceLT, Nat.reduceBEq, reduceCtorEq, reduceIte, c2, hx4, lt_t hx4, lt_p hx4, nat_in (lt_n hx4) hlhx4, p8, c10, g7_0, g7_1, g7_5, IV, sts_cons, sts_nil, obs_cons, obs_nil]
      · replace h := inr_K h hy3
        obtain rfl := Option.some.inj h
        try simp only [go_sem, Int.reduceLT, Int.reduceLE, Int.reduceBEq, Int.reduceBNe, Nat.reduceBNe, Nat.reduceAdd, Nat.reduceMul, Nat.reduceEqDiff, Nat.reduceLeDiff, Nat.reduceLT, Nat.reduceBEq, reduceCtorEq, reduceIte, c2, hx4, lt_t hx4, lt_p hx4, nat_in (lt_n hx4) hlhx4, p8, c10, g7_0, g7_1, g7_5]
    · rintro ⟨⟩ ⟨sl, ob, n⟩ hI11 hW12 h
      simp only [IV, sts_cons, sts_nil, obs_cons, obs_nil, and_true, true_and, Nat.reduceAdd, str_len] at hI11
      obtain ⟨⟨g13_0, g13_1, g13_5⟩, hn⟩ := hI11
      subst hn
      try simp only [go_sem, Int.reduceLT, Int.reduceLE, Int.reduceBEq, Int.reduceBNe, Nat.reduceBNe, Nat.reduceAdd, Nat.reduceMul, Nat.reduceEqDiff, Nat.reduceLeDiff, Nat.reduceLT, Nat.reduceBEq, reduceCtorEq, reduceIte, c2, lt_f (l_0.length), g13_0, g13_1, g13_5]
      refine swp_iter h (fun s st => match s with | (row_31, set_32) => IV [(0, .p false [.c (.sl 3 1 (List.map eInt l_0))]), (1, .p false [.c (.int .i64 n_1)]), (6, .p false [.row 0]), (7, .p false [.c (.int .i64 set_32)])] [.row 3 1 (List.map eInt row_31) 2] st) [] [64] (by decide) ?_ ?_
      · simp only [go_sem, Int.reduceLT, Int.reduceLE, Int.reduceBEq, Int.reduceBNe, Nat.reduceBNe, Nat.reduceAdd, Nat.reduceMul, Nat.reduceEqDiff, Nat.reduceLeDiff, Nat.reduceLT, Nat.reduceBEq, reduceCtorEq, reduceIte, IV, sts_cons, sts_nil, obs_cons, obs_nil, c2, lt_f (l_0.length), g13_0, g13_1, g13_5]
      · rintro ⟨row_31, set_32⟩ ⟨sl, ob, n⟩ y14 hI15 hW16 h hy14
        simp only [IV, sts_cons, sts_nil, obs_cons, obs_nil, and_true, true_and, Nat.reduceAdd, str_len] at hI15
        obtain ⟨⟨g17_0, g17_1, g17_6, g17_7⟩, og17_0, hn⟩ := hI15
        subst hn
        obtain ⟨p18, h⟩ := chk_K h
        try simp only [go_sem, Int.reduceLT, Int.reduceLE, Int.reduceBEq, Int.reduceBNe, Nat.reduceBNe, Nat.reduceAdd, Nat.reduceMul, Nat.reduceEqDiff, Nat.reduceLeDiff, Nat.reduceLT, Nat.reduceBEq, reduceCtorEq, reduceIte, c2, lt_f (l_0.length), p18, g17_0, g17_1, g17_6, g17_7, og17_0]
        refine ite_K h (fun c19 h => ?_) (fun c19 h => ?_)
        · try simp only [go_sem, Int.reduceLT, Int.reduceLE, Int.reduceBEq, Int.reduceBNe, Nat.reduceBNe, Nat.reduceAdd, Nat.reduceMul, Nat.reduceEqDiff, Nat.reduceLeDiff, Nat.reduceLT, Nat.reduceBEq, reduceCtorEq, reduceIte, c2, lt_f (l_0.length), p18, c19, g17_0, g17_1, g17_6, g17_7, og17_0]
          refine swp_for h (fun i hits_34 st => IV [(0, .p false [.c (.sl 3 1 (List.map eInt l_0))]), (1, .p false [.c (.int .i64 n_1)]), (6, .p false [.row 0]), (7, .p false [.c (.int .i64 set_32)]), (8, .p false [.c (.bool hits_34)]), (9, .p false [.c (.int .i64 ((i : Nat) : Int))])] [.row 3 1 (List.map eInt row_31) 2] st) [] [0] (by decide) ?_ ?_ ?_
          · simp only [go_sem, Int.reduceLT, Int.reduceLE, Int.reduceBEq, Int.reduceBNe, Nat.reduceBNe, Nat.reduceAdd, Nat.reduceMul, Nat.reduceEqDiff, Nat.reduceLeDiff, Nat.reduceLT, Nat.reduceBEq, reduceCtorEq, reduceIte, IV, sts_cons, sts_nil, obs_cons, obs_nil, c2, lt_f (l_0.length), p18, c19, g17_0, g17_1, g17_6, g17_7, og17_0]
          · rintro i37 x38 hits_34 ⟨sl, ob, n⟩ y20 hx21 hI22 hW23 h hy20
            simp only [IV, sts_cons, sts_nil, obs_cons, obs_nil, and_true, true_and, Nat.reduceAdd, str_len] at hI22
            obtain ⟨⟨g24_0, g24_1, g24_6, g24_7, g24_8, g24_9⟩, og24_0, hn⟩ := hI22
            subst hn
            have hlhx21 := WF.slotL hW23 g24_0 (j := 0) rfl
            try simp only [go_sem, Int.reduceLT, Int.reduceLE, Int.reduceBEq, Int.reduceBNe, Nat.reduceBNe, Nat.reduceAdd, Nat.reduceMul, Nat.reduceEqDiff, Nat.reduceLeDiff, Nat.reduceLT, Nat.reduceBEq, reduceCtorEq, reduceIte, c2, lt_f (l_0.length), p18, c19, hx21, lt_t hx21, lt_p hx21, nat_in (lt_n hx21) hlhx21, g24_0, g24_1, g24_6, g24_7, g24_8, g24_9, og24_0]
            refine ite_K h (fun c25 h => ?_) (fun c25 h => ?_)
            · try simp only [go_sem, Int.reduceLT, Int.reduceLE, Int.reduceBEq, Int.reduceBNe, Nat.reduceBNe, Nat.reduceAdd, Nat.reduceMul, Nat.reduceEqDiff, Nat.reduceLeDiff, Nat.reduceLT, Nat.reduceBEq, reduceCtorEq, reduceIte, c2, lt_f (l_0.length), p18, c19, hx21, lt_t hx21, lt_p hx21, nat_in (lt_n hx21) hlhx21, c25, g24_0, g24_1, g24_6, g24_7, g24_8, g24_9, og24_0]
              refine ⟨_, [], [0], (Option.some.inj h).symm, by decide, ?_⟩
              try simp only [go_sem, Int.reduceLT, Int.reduceLE, Int.reduceBEq, Int.reduceBNe, Nat.reduceBNe, Nat.reduceAdd, Nat.reduceMul, Nat.reduceEqDiff, Nat.reduceLeDiff, Nat.reduceLT, Nat.reduceBEq, reduceCtorEq, reduceIte, c2, lt_f (l_0.length), p18, c19, hx21, lt_t hx21, lt_p hx21, nat_in (lt_n hx21) hlhx21, c25, g24_0, g24_1, g24_6, g24_7, g24_8, g24_9, og24_0, IV, sts_cons, sts_nil, obs_cons, obs_nil]
            · try simp only [go_sem, Int.reduceLT, Int.reduceLE, Int.reduceBEq, Int.reduceBNe, Nat.reduceBNe, Nat.reduceAdd, Nat.reduceMul, Nat.reduceEqDiff, Nat.reduceLeDiff, Nat.reduceLT, Nat.reduceBEq, reduceCtorEq, reduceIte, c2, lt_f (l_0.length), p18, c19, hx21, lt_t hx21, lt_p hx21, nat_in (lt_n hx21) hlhx21, c25, g24_0, g24_1, g24_6, g24_7, g24_8, g24_9, og24_0]
              refine ⟨_, [], [0], (Option.some.inj h).symm, by decide, ?_⟩
              try simp only [go_sem, Int.reduceLT, Int.reduceLE, Int.reduceBEq, Int.reduceBNe, Nat.reduceBNe, Nat.reduceAdd, Nat.reduceMul, Nat.reduceEqDiff, Nat.reduceLeDiff, Nat.reduceLT, Nat.reduceBEq, reduceCtorEq, reduceIte, c2, lt_f (l_0.length), p18, c19, hx21, lt_t hx21, lt_p hx21, nat_in (lt_n hx21) hlhx21, c25, g24_0, g24_1, g24_6, g24_7, g24_8, g24_9, og24_0, IV, sts_cons, sts_nil, obs_cons, obs_nil]
          · rintro hits_34 ⟨sl, ob, n⟩ hI26 hW27 h
            simp only [IV, sts_cons, sts_nil, obs_cons, obs_nil, and_true, true_and, Nat.reduceAdd, str_len] at hI26
            obtain ⟨⟨g28_0, g28_1, g28_6, g28_7, g28_8, g28_9⟩, og28_0, hn⟩ := hI26
            subst hn
            try simp only [go_sem, Int.reduceLT, Int.reduceLE, Int.reduceBEq, Int.reduceBNe, Nat.reduceBNe, Nat.reduceAdd, Nat.reduceMul, Nat.reduceEqDiff, Nat.reduceLeDiff, Nat.reduceLT, Nat.reduceBEq, reduceCtorEq, reduceIte, c2, lt_f (l_0.length), p18, c19, lt_f (l_0.length), g28_0, g28_1, g28_6, g28_7, g28_8, g28_9, og28_0]
            refine ite_K h (fun c29 h => ?_) (fun c29 h => ?_)
            · obtain ⟨p30, h⟩ := chk_K h
              try simp only [Nat.reduceLeDiff] at p30
              try simp only [go_sem, Int.reduceLT, Int.reduceLE, Int.reduceBEq, Int.reduceBNe, Nat.reduceBNe, Nat.reduceAdd, Nat.reduceMul, Nat.reduceEqDiff, Nat.reduceLeDiff, Nat.reduceLT, Nat.reduceBEq, reduceCtorEq, reduceIte, c2, lt_f (l_0.length), p18, c19, lt_f (l_0.length), c29, p30, g28_0, g28_1, g28_6, g28_7, g28_8, g28_9, og28_0]
              refine ⟨_, [], [129], (Option.some.inj h).symm, by decide, ?_⟩
              try simp only [go_sem, Int.reduceLT, Int.reduceLE, Int.reduceBEq, Int.reduceBNe, Nat.reduceBNe, Nat.reduceAdd, Nat.reduceMul, Nat.reduceEqDiff, Nat.reduceLeDiff, Nat.reduceLT, Nat.reduceBEq, reduceCtorEq, reduceIte, c2, lt_f (l_0.length), p18, c19, lt_f (l_0.length), c29, p30, g28_0, g28_1, g28_6, g28_7, g28_8, g28_9, og28_0, IV, sts_cons, sts_nil, obs_cons, obs_nil]
            · try simp only [go_sem, Int.reduceLT, Int.reduceLE, Int.reduceBEq, Int.reduceBNe, Nat.reduceBNe, Nat.reduceAdd, Nat.reduceMul, Nat.reduceEqDiff, Nat.reduceLeDiff, Nat.reduceLT, Nat.reduceBEq, reduceCtorEq, reduceIte, c2, lt_f (l_0.length), p18, c19, lt_f (l_0.length), c29, g28_0, g28_1, g28_6, g28_7, g28_8, g28_9, og28_0]
              refine ⟨_, [], [0], (Option.some.inj h).symm, by decide, ?_⟩
              try simp only [go_sem, Int.reduceLT, Int.reduceLE, Int.reduceBEq, Int.reduceBNe, Nat.reduceBNe, Nat.reduceAdd, Nat.reduceMul, Nat.reduceEqDiff, Nat.reduceLeDiff, Nat.reduceLT, Nat.reduceBEq, reduceCtorEq, reduceIte, c2, lt_f (l_0.length), p18, c19, lt_f (l_0.length), c29, g28_0, g28_1, g28_6, g28_7, g28_8, g28_9, og28_0, IV, sts_cons, sts_nil, obs_cons, obs_nil]
        · try simp only [go_sem, Int.reduceLT, Int.reduceLE, Int.reduceBEq, Int.reduceBNe, Nat.reduceBNe, Nat.reduceAdd, Nat.reduceMul, Nat.reduceEqDiff, Nat.reduceLeDiff, Nat.reduceLT, Nat.reduceBEq, reduceCtorEq, reduceIte, c2, lt_f (l_0.length), p18, c19, g17_0, g17_1, g17_6, g17_7, og17_0]
          obtain ⟨v39, e31, h⟩ := bind_K h
          refine call_K (by first | exact s_LeastSets_ok e31 | simpa only [go_sem, Int.reduceLT, Int.reduceLE, Int.reduceBEq, Int.reduceBNe, Nat.reduceBNe, Nat.reduceAdd, Nat.reduceMul, Nat.reduceEqDiff, Nat.reduceLeDiff, Nat.reduceLT, Nat.reduceBEq, reduceCtorEq, reduceIte, c2, lt_f (l_0.length), p18, c19, g17_0, g17_1, g17_6, g17_7, og17_0] using s_LeastSets_ok e31) ?_
          replace h := inr_K h hy14
          obtain rfl := Option.some.inj h
          try simp only [go_sem, Int.reduceLT, Int.reduceLE, Int.reduceBEq, Int.reduceBNe, Nat.reduceBNe, Nat.reduceAdd, Nat.reduceMul, Nat.reduceEqDiff, Nat.reduceLeDiff, Nat.reduceLT, Nat.reduceBEq, reduceCtorEq, reduceIte, c2, lt_f (l_0.length), p18, c19, g17_0, g17_1, g17_6, g17_7, og17_0]
  · obtain rfl := Option.some.inj h
    try simp only [go_sem, Int.reduceLT, Int.reduceLE, Int.reduceBEq, Int.reduceBNe, Nat.reduceBNe, Nat.reduceAdd, Nat.reduceMul, Nat.reduceEqDiff, Nat.reduceLeDiff, Nat.reduceLT, Nat.reduceBEq, reduceCtorEq, reduceIte, c2]
end Go.Proofs.Ytfbonanbiblkbaa

namespace Go.Proofs.Ytfbonanbiblkbaa
open Go.Proofs.Try
set_option linter.unusedSimpArgs false
set_option linter.unusedVariables false
set_option maxRecDepth 1000000
set_option maxHeartbeats 4000000
theorem s_DrawHittingSets_ok {code_0 : (List Int)} {r : ((List Int) × Int)} (h : s_DrawHittingSets code_0 = some r) : Sound Try.prog J0 17 [(false, [.sl 5 1 (List.map eByte code_0)])] [(false, [(false, .sl 3 1 (List.map eInt r.1))]), (false, [(false, .int .i64 r.2)])] := by
  refine fnk Try.func17 (by kernel_rfl) rfl (by kernel_rfl) (by kernel_rfl) ?_
  unfold s_DrawHittingSets at h
  simp only [fnS, f17, argSt, go_sem, Int.reduceLT, Int.reduceLE, Int.reduceBEq, Int.reduceBNe, Nat.reduceBNe, Nat.reduceAdd, Nat.reduceMul, Nat.reduceEqDiff, Nat.reduceLeDiff, Nat.reduceLT, Nat.reduceBEq, reduceCtorEq, reduceIte]
  obtain ⟨v1, e1, h⟩ := bind_K h
  refine new_K (by first | exact s_l1New_ok e1 | simpa only [go_sem, Int.reduceLT, Int.reduceLE, Int.reduceBEq, Int.reduceBNe, Nat.reduceBNe, Nat.reduceAdd, Nat.reduceMul, Nat.reduceEqDiff, Nat.reduceLeDiff, Nat.reduceLT, Nat.reduceBEq, reduceCtorEq, reduceIte] using s_l1New_ok e1) ?_
  try simp only [go_sem, Int.reduceLT, Int.reduceLE, Int.reduceBEq, Int.reduceBNe, Nat.reduceBNe, Nat.reduceAdd, Nat.reduceMul, Nat.reduceEqDiff, Nat.reduceLeDiff, Nat.reduceLT, Nat.reduceBEq, reduceCtorEq, reduceIte]
  obtain ⟨v2, e2, h⟩ := bind_K h
  refine hand_K (by first | exact s_l1Below_ok e2 | simpa only [go_sem, Int.reduceLT, Int.reduceLE, Int.reduceBEq, Int.reduceBNe, Nat.reduceBNe, Nat.reduceAdd, Nat.reduceMul, Nat.reduceEqDiff, Nat.reduceLeDiff, Nat.reduceLT, Nat.reduceBEq, reduceCtorEq, reduceIte] using s_l1Below_ok e2) ?_
  try simp only [go_sem, Int.reduceLT, Int.reduceLE, Int.reduceBEq, Int.reduceBNe, Nat.reduceBNe, Nat.reduceAdd, Nat.reduceMul, Nat.reduceEqDiff, Nat.reduceLeDiff, Nat.reduceLT, Nat.reduceBEq, reduceCtorEq, reduceIte]
  refine swp_iter h (fun s st => match s with | (f_4, f_5, f_6, row_7, n_8) => IV [(4, .bp 0 0), (5, .p false [.row 1]), (6, .p false [.c (.int .i64 n_8)])] [.box 75 [.c (.sl 5 1 (List.map eByte f_4)), .c (.int .i64 f_5), .c (.int .i64 f_6)], .row 3 1 (List.map eInt row_7) 2] st) [] [48, 80] (by decide) ?_ ?_
  · simp only [go_sem, Int.reduceLT, Int.reduceLE, Int.reduceBEq, Int.reduceBNe, Nat.reduceBNe, Nat.reduceAdd, Nat.reduceMul, Nat.reduceEqDiff, Nat.reduceLeDiff, Nat.reduceLT, Nat.reduceBEq, reduceCtorEq, reduceIte, IV, sts_cons, sts_nil, obs_cons, obs_nil]
  · rintro ⟨f_4, f_5, f_6, row_7, n_8⟩ ⟨sl, ob, n⟩ y3 hI4 hW5 h hy3
    simp only [IV, sts_cons, sts_nil, obs_cons, obs_nil, and_true, true_and, Nat.reduceAdd, str_len] at hI4
    obtain ⟨⟨g6_4, g6_5, g6_6⟩, og6_0, og6_1, hn⟩ := hI4
    subst hn
    try simp only [go_sem, Int.reduceLT, Int.reduceLE, Int.reduceBEq, Int.reduceBNe, Nat.reduceBNe, Nat.reduceAdd, Nat.reduceMul, Nat.reduceEqDiff, Nat.reduceLeDiff, Nat.reduceLT, Nat.reduceBEq, reduceCtorEq, reduceIte, g6_4, g6_5, g6_6, og6_0, og6_1]
    refine ite_K h (fun c7 h => ?_) (fun c7 h => ?_)
    · try simp only [go_sem, Int.reduceLT, Int.reduceLE, Int.reduceBEq, Int.reduceBNe, Nat.reduceBNe, Nat.reduceAdd, Nat.reduceMul, Nat.reduceEqDiff, Nat.reduceLeDiff, Nat.reduceLT, Nat.reduceBEq, reduceCtorEq, reduceIte, c7, g6_4, g6_5, g6_6, og6_0, og6_1]
      obtain ⟨v9, e8, h⟩ := bind_K h
      refine hand_K (by first | exact s_l1Below_ok e8 | simpa only [go_sem, Int.reduceLT, Int.reduceLE, Int.reduceBEq, Int.reduceBNe, Nat.reduceBNe, Nat.reduceAdd, Nat.reduceMul, Nat.reduceEqDiff, Nat.reduceLeDiff, Nat.reduceLT, Nat.reduceBEq, reduceCtorEq, reduceIte, c7, g6_4, g6_5, g6_6, og6_0, og6_1] using s_l1Below_ok e8) ?_
      obtain ⟨p9, h⟩ := chk_K h
      try simp only [Nat.reduceLeDiff] at p9
      try simp only [go_sem, Int.reduceLT, Int.reduceLE, Int.reduceBEq, Int.reduceBNe, Nat.reduceBNe, Nat.reduceAdd, Nat.reduceMul, Nat.reduceEqDiff, Nat.reduceLeDiff, Nat.reduceLT, Nat.reduceBEq, reduceCtorEq, reduceIte, c7, p9, g6_4, g6_5, g6_6, og6_0, og6_1]
      refine ⟨_, [], [0, 98], (Option.some.inj h).symm, by decide, ?_⟩
      try simp only [go_sem, Int.reduceLT, Int.reduceLE, Int.reduceBEq, Int.reduceBNe, Nat.reduceBNe, Nat.reduceAdd, Nat.reduceMul, Nat.reduceEqDiff, Nat.reduceLeDiff, Nat.reduceLT, Nat.reduceBEq, reduceCtorEq, reduceIte, c7, p9, g6_4, g6_5, g6_6, og6_0, og6_1, IV, sts_cons, sts_nil, obs_cons, obs_nil]
    · try simp only [go_sem, Int.reduceLT, Int.reduceLE, Int.reduceBEq, Int.reduceBNe, Nat.reduceBNe, Nat.reduceAdd, Nat.reduceMul, Nat.reduceEqDiff, Nat.reduceLeDiff, Nat.reduceLT, Nat.reduceBEq, reduceCtorEq, reduceIte, c7, g6_4, g6_5, g6_6, og6_0, og6_1]
      obtain ⟨v10, e10, h⟩ := bind_K h
      refine hand_K (by first | exact s_l1Int_ok e10 | simpa only [go_sem, Int.reduceLT, Int.reduceLE, Int.reduceBEq, Int.reduceBNe, Nat.reduceBNe, Nat.reduceAdd, Nat.reduceMul, Nat.reduceEqDiff, Nat.reduceLeDiff, Nat.reduceLT, Nat.reduceBEq, reduceCtorEq, reduceIte, c7, g6_4, g6_5, g6_6, og6_0, og6_1] using s_l1Int_ok e10) ?_
      replace h := inr_K h hy3
      obtain rfl := Option.some.inj h
      try simp only [go_sem, Int.reduceLT, Int.reduceLE, Int.reduceBEq, Int.reduceBNe, Nat.reduceBNe, Nat.reduceAdd, Nat.reduceMul, Nat.reduceEqDiff, Nat.reduceLeDiff, Nat.reduceLT, Nat.reduceBEq, reduceCtorEq, reduceIte, c7, g6_4, g6_5, g6_6, og6_0, og6_1]
end Go.Proofs.Ytfbonanbiblkbaa

namespace Go.Proofs.Ytfbonanbiblkbaa
open Go.Proofs.Try
set_option linter.unusedSimpArgs false
set_option linter.unusedVariables false
set_option maxRecDepth 1000000
set_option maxHeartbeats 4000000
theorem w_FnHitting_ok {code_0 : (List Int)} {r : Bool} (h : w_FnHitting code_0 = some r) : Sound Try.prog J0 4 [(false, [.sl 5 1 (List.map eByte code_0)])] [(false, [(false, .bool r)])] := by
  refine fnk Try.func4 (by kernel_rfl) rfl (by kernel_rfl) (by kernel_rfl) ?_
  unfold w_FnHitting at h
  simp only [fnS, f4, argSt, go_sem, Int.reduceLT, Int.reduceLE, Int.reduceBEq, Int.reduceBNe, Nat.reduceBNe, Nat.reduceAdd, Nat.reduceMul, Nat.reduceEqDiff, Nat.reduceLeDiff, Nat.reduceLT, Nat.reduceBEq, reduceCtorEq, reduceIte]
  obtain ⟨v1, e1, h⟩ := bind_K h
  refine call_K (by first | exact w_big_ok e1 | simpa only [go_sem, Int.reduceLT, Int.reduceLE, Int.reduceBEq, Int.reduceBNe, Nat.reduceBNe, Nat.reduceAdd, Nat.reduceMul, Nat.reduceEqDiff, Nat.reduceLeDiff, Nat.reduceLT, Nat.reduceBEq, reduceCtorEq, reduceIte] using w_big_ok e1) ?_
  try simp only [go_sem, Int.reduceLT, Int.reduceLE, Int.reduceBEq, Int.reduceBNe, Nat.reduceBNe, Nat.reduceAdd, Nat.reduceMul, Nat.reduceEqDiff, Nat.reduceLeDiff, Nat.reduceLT, Nat.reduceBEq, reduceCtorEq, reduceIte]
  refine ite_K h (fun c2 h => ?_) (fun c2 h => ?_)
  · obtain rfl := Option.some.inj h
    try simp only [go_sem, Int.reduceLT, Int.reduceLE, Int.reduceBEq, Int.reduceBNe, Nat.reduceBNe, Nat.reduceAdd, Nat.reduceMul, Nat.reduceEqDiff, Nat.reduceLeDiff, Nat.reduceLT, Nat.reduceBEq, reduceCtorEq, reduceIte, c2]
  · try simp only [go_sem, Int.reduceLT, Int.reduceLE, Int.reduceBEq, Int.reduceBNe, Nat.reduceBNe, Nat.reduceAdd, Nat.reduceMul, Nat.reduceEqDiff, Nat.reduceLeDiff, Nat.reduceLT, Nat.reduceBEq, reduceCtorEq, reduceIte, c2]
    obtain ⟨v2, e3, h⟩ := bind_K h
    refine call_K (by first | exact s_DrawHittingSets_ok e3 | simpa only [go_sem, Int.reduceLT, Int.reduceLE, Int.reduceBEq, Int.reduceBNe, Nat.reduceBNe, Nat.reduceAdd, Nat.reduceMul, Nat.reduceEqDiff, Nat.reduceLeDiff, Nat.reduceLT, Nat.reduceBEq, reduceCtorEq, reduceIte, c2] using s_DrawHittingSets_ok e3) ?_
    try simp only [go_sem, Int.reduceLT, Int.reduceLE, Int.reduceBEq, Int.reduceBNe, Nat.reduceBNe, Nat.reduceAdd, Nat.reduceMul, Nat.reduceEqDiff, Nat.reduceLeDiff, Nat.reduceLT, Nat.reduceBEq, reduceCtorEq, reduceIte, c2]
    refine ite_K h (fun c4 h => ?_) (fun c4 h => ?_)
    · try simp only [go_sem, Int.reduceLT, Int.reduceLE, Int.reduceBEq, Int.reduceBNe, Nat.reduceBNe, Nat.reduceAdd, Nat.reduceMul, Nat.reduceEqDiff, Nat.reduceLeDiff, Nat.reduceLT, Nat.reduceBEq, reduceCtorEq, reduceIte, c2, c4]
      obtain ⟨v3, e5, h⟩ := bind_K h
      refine call_K (by first | exact i_HittingSets_ok e5 | simpa only [go_sem, Int.reduceLT, Int.reduceLE, Int.reduceBEq, Int.reduceBNe, Nat.reduceBNe, Nat.reduceAdd, Nat.reduceMul, Nat.reduceEqDiff, Nat.reduceLeDiff, Nat.reduceLT, Nat.reduceBEq, reduceCtorEq, reduceIte, c2, c4] using i_HittingSets_ok e5) ?_
      obtain rfl := Option.some.inj h
      try simp only [go_sem, Int.reduceLT, Int.reduceLE, Int.reduceBEq, Int.reduceBNe, Nat.reduceBNe, Nat.reduceAdd, Nat.reduceMul, Nat.reduceEqDiff, Nat.reduceLeDiff, Nat.reduceLT, Nat.reduceBEq, reduceCtorEq, reduceIte, c2, c4]
    · try simp only [go_sem, Int.reduceLT, Int.reduceLE, Int.reduceBEq, Int.reduceBNe, Nat.reduceBNe, Nat.reduceAdd, Nat.reduceMul, Nat.reduceEqDiff, Nat.reduceLeDiff, Nat.reduceLT, Nat.reduceBEq, reduceCtorEq, reduceIte, c2, c4]
      refine ite_K h (fun c6 h => ?_) (fun c6 h => ?_)
      · try simp only [go_sem, Int.reduceLT, Int.reduceLE, Int.reduceBEq, Int.reduceBNe, Nat.reduceBNe, Nat.reduceAdd, Nat.reduceMul, Nat.reduceEqDiff, Nat.reduceLeDiff, Nat.reduceLT, Nat.reduceBEq, reduceCtorEq, reduceIte, c2, c4, c6]
        obtain ⟨v4, e7, h⟩ := bind_K h
        refine call_K (by first | exact i_HittingSets_ok e7 | simpa only [go_sem, Int.reduceLT, Int.reduceLE, Int.reduceBEq, Int.reduceBNe, Nat.reduceBNe, Nat.reduceAdd, Nat.reduceMul, Nat.reduceEqDiff, Nat.reduceLeDiff, Nat.reduceLT, Nat.reduceBEq, reduceCtorEq, reduceIte, c2, c4, c6] using i_HittingSets_ok e7) ?_
        obtain rfl := Option.some.inj h
        try simp only [go_sem, Int.reduceLT, Int.reduceLE, Int.reduceBEq, Int.reduceBNe, Nat.reduceBNe, Nat.reduceAdd, Nat.reduceMul, Nat.reduceEqDiff, Nat.reduceLeDiff, Nat.reduceLT, Nat.reduceBEq, reduceCtorEq, reduceIte, c2, c4, c6]
      · try simp only [go_sem, Int.reduceLT, Int.reduceLE, Int.reduceBEq, Int.reduceBNe, Nat.reduceBNe, Nat.reduceAdd, Nat.reduceMul, Nat.reduceEqDiff, Nat.reduceLeDiff, Nat.reduceLT, Nat.reduceBEq, reduceCtorEq, reduceIte, c2, c4, c6]
        refine swp_for h (fun i _ st => IV [(3, .p false [.row 0]), (4, .p false [.c (.int .i64 v2.2)]), (5, .p false [.c (.int .i64 ((i : Nat) : Int))])] [.row 3 1 (List.map eInt v2.1) 2] st) [] [64] (by decide) ?_ ?_ ?_
        · simp only [go_sem, Int.reduceLT, Int.reduceLE, Int.reduceBEq, Int.reduceBNe, Nat.reduceBNe, Nat.reduceAdd, Nat.reduceMul, Nat.reduceEqDiff, Nat.reduceLeDiff, Nat.reduceLT, Nat.reduceBEq, reduceCtorEq, reduceIte, IV, sts_cons, sts_nil, obs_cons, obs_nil, c2, c4, c6]
        · rintro i16 x17 ⟨⟩ ⟨sl, ob, n⟩ y8 hx9 hI10 hW11 h hy8
          simp only [IV, sts_cons, sts_nil, obs_cons, obs_nil, and_true, true_and, Nat.reduceAdd, str_len] at hI10
          obtain ⟨⟨g12_3, g12_4, g12_5⟩, og12_0, hn⟩ := hI10
          subst hn
          have hlhx9 := WF.rowL hW11 og12_0
          obtain ⟨p13, h⟩ := chk_K h
          try simp only [go_sem, Int.reduceLT, Int.reduceLE, Int.reduceBEq, Int.reduceBNe, Nat.reduceBNe, Nat.reduceAdd, Nat.reduceMul, Nat.reduceEqDiff, Nat.reduceLeDiff, Nat.reduceLT, Nat.reduceBEq, reduceCtorEq, reduceIte, c2, c4, c6, hx9, lt_t hx9, lt_p hx9, nat_in (lt_n hx9) hlhx9, p13, g12_3, g12_4, g12_5, og12_0]
          refine ite_K h (fun c14 h => ?_) (fun c14 h => ?_)
          · try simp only [go_sem, Int.reduceLT, Int.reduceLE, Int.reduceBEq, Int.reduceBNe, Nat.reduceBNe, Nat.reduceAdd, Nat.reduceMul, Nat.reduceEqDiff, Nat.reduceLeDiff, Nat.reduceLT, Nat.reduceBEq, reduceCtorEq, reduceIte, c2, c4, c6, hx9, lt_t hx9, lt_p hx9, nat_in (lt_n hx9) hlhx9, p13, c14, g12_3, g12_4, g12_5, og12_0]
            obtain ⟨v18, e15, h⟩ := bind_K h
            refine call_K (by first | exact i_HittingSets_ok e15 | simpa only [go_sem, Int.reduceLT, Int.reduceLE, Int.reduceBEq, Int.reduceBNe, Nat.reduceBNe, Nat.reduceAdd, Nat.reduceMul, Nat.reduceEqDiff, Nat.reduceLeDiff, Nat.reduceLT, Nat.reduceBEq, reduceCtorEq, reduceIte, c2, c4, c6, hx9, lt_t hx9, lt_p hx9, nat_in (lt_n hx9) hlhx9, p13, c14, g12_3, g12_4, g12_5, og12_0] using i_HittingSets_ok e15) ?_
            replace h := inr_K h hy8
            obtain rfl := Option.some.inj h
            try simp only [go_sem, Int.reduceLT, Int.reduceLE, Int.reduceBEq, Int.reduceBNe, Nat.reduceBNe, Nat.reduceAdd, Nat.reduceMul, Nat.reduceEqDiff, Nat.reduceLeDiff, Nat.reduceLT, Nat.reduceBEq, reduceCtorEq, reduceIte, c2, c4, c6, hx9, lt_t hx9, lt_p hx9, nat_in (lt_n hx9) hlhx9, p13, c14, g12_3, g12_4, g12_5, og12_0]
          · try simp only [go_sem, Int.reduceLT, Int.reduceLE, Int.reduceBEq, Int.reduceBNe, Nat.reduceBNe, Nat.reduceAdd, Nat.reduceMul, Nat.reduceEqDiff, Nat.reduceLeDiff, Nat.reduceLT, Nat.reduceBEq, reduceCtorEq, reduceIte, c2, c4, c6, hx9, lt_t hx9, lt_p hx9, nat_in (lt_n hx9) hlhx9, p13, c14, g12_3, g12_4, g12_5, og12_0]
            refine ⟨_, [], [0], (Option.some.inj h).symm, by decide, ?_⟩
            try simp only [go_sem, Int.reduceLT, Int.reduceLE, Int.reduceBEq, Int.reduceBNe, Nat.reduceBNe, Nat.reduceAdd, Nat.reduceMul, Nat.reduceEqDiff, Nat.reduceLeDiff, Nat.reduceLT, Nat.reduceBEq, reduceCtorEq, reduceIte, c2, c4, c6, hx9, lt_t hx9, lt_p hx9, nat_in (lt_n hx9) hlhx9, p13, c14, g12_3, g12_4, g12_5, og12_0, IV, sts_cons, sts_nil, obs_cons, obs_nil]
        · rintro ⟨⟩ ⟨sl, ob, n⟩ hI16 hW17 h
          simp only [IV, sts_cons, sts_nil, obs_cons, obs_nil, and_true, true_and, Nat.reduceAdd, str_len] at hI16
          obtain ⟨⟨g18_3, g18_4, g18_5⟩, og18_0, hn⟩ := hI16
          subst hn
          try simp only [go_sem, Int.reduceLT, Int.reduceLE, Int.reduceBEq, Int.reduceBNe, Nat.reduceBNe, Nat.reduceAdd, Nat.reduceMul, Nat.reduceEqDiff, Nat.reduceLeDiff, Nat.reduceLT, Nat.reduceBEq, reduceCtorEq, reduceIte, c2, c4, c6, lt_f (v2.1.length), g18_3, g18_4, g18_5, og18_0]
          obtain ⟨v19, e19, h⟩ := bind_K h
          refine call_K (by first | exact i_HittingSets_ok e19 | simpa only [go_sem, Int.reduceLT, Int.reduceLE, Int.reduceBEq, Int.reduceBNe, Nat.reduceBNe, Nat.reduceAdd, Nat.reduceMul, Nat.reduceEqDiff, Nat.reduceLeDiff, Nat.reduceLT, Nat.reduceBEq, reduceCtorEq, reduceIte, c2, c4, c6, lt_f (v2.1.length), g18_3, g18_4, g18_5, og18_0] using i_HittingSets_ok e19) ?_
          try simp only [go_sem, Int.reduceLT, Int.reduceLE, Int.reduceBEq, Int.reduceBNe, Nat.reduceBNe, Nat.reduceAdd, Nat.reduceMul, Nat.reduceEqDiff, Nat.reduceLeDiff, Nat.reduceLT, Nat.reduceBEq, reduceCtorEq, reduceIte, c2, c4, c6, lt_f (v2.1.length), g18_3, g18_4, g18_5, og18_0]
          obtain ⟨v20, e20, h⟩ := bind_K h
          refine call_K (by first | exact s_HittingSets_ok e20 | simpa only [go_sem, Int.reduceLT, Int.reduceLE, Int.reduceBEq, Int.reduceBNe, Nat.reduceBNe, Nat.reduceAdd, Nat.reduceMul, Nat.reduceEqDiff, Nat.reduceLeDiff, Nat.reduceLT, Nat.reduceBEq, reduceCtorEq, reduceIte, c2, c4, c6, lt_f (v2.1.length), g18_3, g18_4, g18_5, og18_0] using s_HittingSets_ok e20) ?_
          try simp only [go_sem, Int.reduceLT, Int.reduceLE, Int.reduceBEq, Int.reduceBNe, Nat.reduceBNe, Nat.reduceAdd, Nat.reduceMul, Nat.reduceEqDiff, Nat.reduceLeDiff, Nat.reduceLT, Nat.reduceBEq, reduceCtorEq, reduceIte, c2, c4, c6, lt_f (v2.1.length), g18_3, g18_4, g18_5, og18_0]
          refine ite_K h (fun c21 h => ?_) (fun c21 h => ?_)
          · obtain rfl := Option.some.inj h
            try simp only [go_sem, Int.reduceLT, Int.reduceLE, Int.reduceBEq, Int.reduceBNe, Nat.reduceBNe, Nat.reduceAdd, Nat.reduceMul, Nat.reduceEqDiff, Nat.reduceLeDiff, Nat.reduceLT, Nat.reduceBEq, reduceCtorEq, reduceIte, c2, c4, c6, lt_f (v2.1.length), c21, g18_3, g18_4, g18_5, og18_0]
          · try simp only [go_sem, Int.reduceLT, Int.reduceLE, Int.reduceBEq, Int.reduceBNe, Nat.reduceBNe, Nat.reduceAdd, Nat.reduceMul, Nat.reduceEqDiff, Nat.reduceLeDiff, Nat.reduceLT, Nat.reduceBEq, reduceCtorEq, reduceIte, c2, c4, c6, lt_f (v2.1.length), c21, g18_3, g18_4, g18_5, og18_0]
            obtain ⟨v21, e22, h⟩ := bind_K h
            refine call_K (by first | exact i_HittingSets_ok e22 | simpa only [go_sem, Int.reduceLT, Int.reduceLE, Int.reduceBEq, Int.reduceBNe, Nat.reduceBNe, Nat.reduceAdd, Nat.reduceMul, Nat.reduceEqDiff, Nat.reduceLeDiff, Nat.reduceLT, Nat.reduceBEq, reduceCtorEq, reduceIte, c2, c4, c6, lt_f (v2.1.length), c21, g18_3, g18_4, g18_5, og18_0] using i_HittingSets_ok e22) ?_
            try simp only [go_sem, Int.reduceLT, Int.reduceLE, Int.reduceBEq, Int.reduceBNe, Nat.reduceBNe, Nat.reduceAdd, Nat.reduceMul, Nat.reduceEqDiff, Nat.reduceLeDiff, Nat.reduceLT, Nat.reduceBEq, reduceCtorEq, reduceIte, c2, c4, c6, lt_f (v2.1.length), c21, g18_3, g18_4, g18_5, og18_0]
            obtain ⟨v22, e23, h⟩ := bind_K h
            refine call_K (by first | exact i_HittingSets_ok e23 | simpa only [go_sem, Int.reduceLT, Int.reduceLE, Int.reduceBEq, Int.reduceBNe, Nat.reduceBNe, Nat.reduceAdd, Nat.reduceMul, Nat.reduceEqDiff, Nat.reduceLeDiff, Nat.reduceLT, Nat.reduceBEq, reduceCtorEq, reduceIte, c2, c4, c6, lt_f (v2.1.length), c21, g18_3, g18_4, g18_5, og18_0] using i_HittingSets_ok e23) ?_
            try simp only [go_sem, Int.reduceLT, Int.reduceLE, Int.reduceBEq, Int.reduceBNe, Nat.reduceBNe, Nat.reduceAdd, Nat.reduceMul, Nat.reduceEqDiff, Nat.reduceLeDiff, Nat.reduceLT, Nat.reduceBEq, reduceCtorEq, reduceIte, c2, c4, c6, lt_f (v2.1.length), c21, g18_3, g18_4, g18_5, og18_0]
            obtain ⟨v23, e24, h⟩ := bind_K h
            refine call_K (by first | exact i_LeastSets_ok e24 | simpa only [go_sem, Int.reduceLT, Int.reduceLE, Int.reduceBEq, Int.reduceBNe, Nat.reduceBNe, Nat.reduceAdd, Nat.reduceMul, Nat.reduceEqDiff, Nat.reduceLeDiff, Nat.reduceLT, Nat.reduceBEq, reduceCtorEq, reduceIte, c2, c4, c6, lt_f (v2.1.length), c21, g18_3, g18_4, g18_5, og18_0] using i_LeastSets_ok e24) ?_
            try simp only [go_sem, Int.reduceLT, Int.reduceLE, Int.reduceBEq, Int.reduceBNe, Nat.reduceBNe, Nat.reduceAdd, Nat.reduceMul, Nat.reduceEqDiff, Nat.reduceLeDiff, Nat.reduceLT, Nat.reduceBEq, reduceCtorEq, reduceIte, c2, c4, c6, lt_f (v2.1.length), c21, g18_3, g18_4, g18_5, og18_0]
            obtain ⟨v24, e25, h⟩ := bind_K h
            refine call_K (by first | exact w_ints_ok e25 | simpa only [go_sem, Int.reduceLT, Int.reduceLE, Int.reduceBEq, Int.reduceBNe, Nat.reduceBNe, Nat.reduceAdd, Nat.reduceMul, Nat.reduceEqDiff, Nat.reduceLeDiff, Nat.reduceLT, Nat.reduceBEq, reduceCtorEq, reduceIte, c2, c4, c6, lt_f (v2.1.length), c21, g18_3, g18_4, g18_5, og18_0] using w_ints_ok e25) ?_
            obtain rfl := Option.some.inj h
            try simp only [go_sem, Int.reduceLT, Int.reduceLE, Int.reduceBEq, Int.reduceBNe, Nat.reduceBNe, Nat.reduceAdd, Nat.reduceMul, Nat.reduceEqDiff, Nat.reduceLeDiff, Nat.reduceLT, Nat.reduceBEq, reduceCtorEq, reduceIte, c2, c4, c6, lt_f (v2.1.length), c21, g18_3, g18_4, g18_5, og18_0]
end Go.Proofs.Ytfbonanbiblkbaa

namespace Go.Proofs.Ytfbonanbiblkbaa
open Go.RowKit
/-- a codec and trees say the same -/
structure Enc {α : Type} (c : Codec α) (f : α → List CT) : Prop where
  to : ∀ {w : World} {cs : List Value} {x : α} {L : List Nat}, c.rep w cs x L → RCs w (f x) cs L
  of : ∀ {w : World} {cs : List Value} {x : α} {L : List Nat}, RCs w (f x) cs L → c.rep w cs x L
section
variable {α : Type} {c : Codec α} {f : α → List CT} {w : World}
theorem Enc.reps (h : Enc c f) : ∀ {ds : List α} {xs : List Value} {L : List Nat}, c.reps w xs ds L → REs w c.size (ds.map f) xs L
  | [], _, _, h1 => h1
  | _ :: _, _, _, ⟨c1, c2, L1, L2, h1, h2, h3, h4⟩ => ⟨c1, c2, L1, L2, h1, h2, ⟨h.to h3, c.len h3⟩, h.reps h4⟩
theorem Enc.reps_of (h : Enc c f) : ∀ {ds : List α} {xs : List Value} {L : List Nat}, REs w c.size (ds.map f) xs L → c.reps w xs ds L
  | [], _, _, h1 => h1
  | _ :: _, _, _, ⟨c1, c2, L1, L2, h1, h2, h3, h4⟩ => ⟨c1, c2, L1, L2, h1, h2, h.of h3.1, h.reps_of h4⟩
theorem Enc.sl (h : Enc c f) (e : Nat) {v : Value} {ds : List α} {L : List Nat} : (sliceC c).rep w [v] ds L ↔ RC w (.sl e c.size (ds.map f)) v L := by
  constructor
  · rintro ⟨A, cap, hv, h1, h2, xs, L0, L1, hL, h3, h4⟩
    obtain rfl : v = _ := by simpa using hv
    exact ⟨A, cap, xs, L0, L1, by simp, by simpa using h1, h2, hL, c.pos, by simpa using h3, h.reps h4⟩
  · rintro ⟨A, cap, xs, L0, L1, hv, h1, h2, hL, h0, h3, h4⟩
    exact ⟨A, cap, by simpa using hv, by simpa using h1, h2, xs, L0, L1, hL, by simpa using h3, h.reps_of h4⟩
theorem RCs.solo {x : CT} {v : Value} {L : List Nat} (h : RC w x v L) : RCs w [x] [v] L := ⟨v, [], L, [], rfl, by simp, h, rfl, rfl⟩
theorem RCs.more {x : CT} {v : Value} {L M : List Nat} {r : List CT} {cs : List Value} (h : RC w x v L) (k : RCs w r cs M) : RCs w (x :: r) (v :: cs) (L ++ M) := ⟨v, cs, L, M, rfl, rfl, h, k⟩
theorem Enc.slice (h : Enc c f) (e : Nat) : Enc (sliceC c) (fun l => [.sl e c.size (l.map f)]) where
  to := fun {w cs x L} hr => by
    obtain ⟨A, cap, rfl, h1⟩ := id hr
    exact RCs.solo ((h.sl e).1 hr)
  of := fun {w cs x L} hr => by
    obtain ⟨v, cs', L1, L2, rfl, rfl, h1, rfl, rfl⟩ := hr
    rw [List.append_nil]
    exact (h.sl e).2 h1
end
theorem encInt : Enc intC eInt where
  to := fun ⟨h1, h2⟩ => by subst h1; subst h2; exact RCs.solo ⟨rfl, rfl⟩
  of := fun ⟨v, cs', L1, L2, h1, h2, h3, h4, h5⟩ => by
    obtain ⟨rfl, rfl⟩ := h3
    subst h4; subst h5; exact ⟨h1, h2⟩
theorem encByte : Enc byteC eByte where
  to := fun ⟨h1, h2⟩ => by subst h1; subst h2; exact RCs.solo ⟨rfl, rfl⟩
  of := fun ⟨v, cs', L1, L2, h1, h2, h3, h4, h5⟩ => by
    obtain ⟨rfl, rfl⟩ := h3
    subst h4; subst h5; exact ⟨h1, h2⟩
theorem encBool : Enc boolC eBool where
  to := fun ⟨h1, h2⟩ => by subst h1; subst h2; exact RCs.solo ⟨rfl, rfl⟩
  of := fun ⟨v, cs', L1, L2, h1, h2, h3, h4, h5⟩ => by
    obtain ⟨rfl, rfl⟩ := h3
    subst h4; subst h5; exact ⟨h1, h2⟩
theorem encStr : Enc strC eStr where
  to := fun ⟨h1, h2, h3⟩ => by subst h1; subst h2; exact RCs.solo ⟨rfl, rfl, h3⟩
  of := fun ⟨v, cs', L1, L2, h1, h2, h3, h4, h5⟩ => by
    obtain ⟨rfl, rfl, t⟩ := h3
    subst h4; subst h5; exact ⟨h1, h2, t⟩
/-- an argument; nothing is written to in the meantime -/
def Arg0 (w : World) : Bool × List CT → Value → Prop := ArgR w fun _ => False
theorem arg_sl {α : Type} {c : Codec α} {f : α → List CT} (h : Enc c f) (e : Nat) {w : World} {v : Value} {ds : List α} {L : List Nat} (hr : (sliceC c).rep w [v] ds L) : Arg0 w (false, [.sl e c.size (ds.map f)]) v := .inr ⟨rfl, _, L, rfl, (h.sl e).1 hr, fun _ _ h => h⟩
theorem arg_int (w : World) (n : Int) : Arg0 w (false, [.int .i64 n]) (.int .i64 n) := .inr ⟨rfl, _, [], rfl, ⟨rfl, rfl⟩, fun _ _ h => h⟩
theorem arg_bool (w : World) (b : Bool) : Arg0 w (false, [.bool b]) (.bool b) := .inr ⟨rfl, _, [], rfl, ⟨rfl, rfl⟩, fun _ _ h => h⟩
theorem arg_str (w : World) (s : ByteArray) (h : s.size ≤ 9223372036854775807) : Arg0 w (false, [.str s]) (.string s) := .inr ⟨rfl, _, [], rfl, ⟨rfl, rfl, h⟩, fun _ _ h => h⟩
theorem arg_agg {α : Type} {c : Codec α} {f : α → List CT} (h : Enc c f) {w : World} {vs : List Value} {x : α} {L : List Nat} (hr : c.rep w vs x L) : Arg0 w (true, f x) (.agg vs.toArray) := .inl ⟨rfl, vs, L, rfl, h.to hr, fun _ _ h => h⟩
section
variable {w w' : World} {v : Value} {e : Ending}
theorem res_one {B : Nat} {n : Nat → Prop} {x : RT} (h : ResR w B n [x] v) : ∃ F, OP w B n x v F ∧ Own w B F := by
  obtain ⟨vs, F, ⟨u, vs', F1, F2, rfl, rfl, h1, rfl, rfl⟩, h2, rfl⟩ := h
  rw [List.append_nil] at h2
  exact ⟨F1, by simpa using h1, h2⟩
theorem res_sl {α : Type} {c : Codec α} {f : α → List CT} (h : Enc c f) {t : Nat} {ds : List α} {n : Nat → Prop} (hr : ResR w' w.heap.size n [(false, [(false, .sl t c.size (ds.map f))])] v) (hb : Below w.heap.size w w') : AccC c t w v ds w' := by
  obtain ⟨F, h1, h2⟩ := res_one hr
  rcases h1 with ⟨h1, _⟩ | ⟨_, ct, h1, h3⟩
  · simp at h1
  · obtain rfl : _ = ct := by simpa using h1
    obtain ⟨_, cs, L, h4, h5, rfl, _⟩ := h3
    exact ⟨⟨cs, L, by simpa using h4, h.reps_of h5, h2⟩, hb⟩
theorem res_int {n : Int} {B : Nat} {m : Nat → Prop} (hr : ResR w B m [(false, [(false, .int .i64 n)])] v) : v = .int .i64 n := by
  obtain ⟨F, h1, h2⟩ := res_one hr
  rcases h1 with ⟨h1, _⟩ | ⟨_, ct, h1, h3⟩
  · simp at h1
  · obtain rfl : _ = ct := by simpa using h1
    exact h3.1.1
theorem res_bool {b : Bool} {B : Nat} {m : Nat → Prop} (hr : ResR w B m [(false, [(false, .bool b)])] v) : v = .bool b := by
  obtain ⟨F, h1, h2⟩ := res_one hr
  rcases h1 with ⟨h1, _⟩ | ⟨_, ct, h1, h3⟩
  · simp at h1
  · obtain rfl : _ = ct := by simpa using h1
    exact h3.1.1
theorem res_str {s : ByteArray} {B : Nat} {m : Nat → Prop} (hr : ResR w B m [(false, [(false, .str s)])] v) : v = .string s := by
  obtain ⟨F, h1, h2⟩ := res_one hr
  rcases h1 with ⟨h1, _⟩ | ⟨_, ct, h1, h3⟩
  · simp at h1
  · obtain rfl : _ = ct := by simpa using h1
    exact h3.1.1
/-- a slice that is only lent: what it leads to lies in the world -/
theorem res_lent {α : Type} {c : Codec α} {f : α → List CT} (h : Enc c f) {t B : Nat} {ds : List α} {n : Nat → Prop} (hr : ResR w B n [(false, [(true, .sl t c.size (ds.map f))])] v) : ∃ L, (sliceC c).rep w [v] ds L := by
  obtain ⟨F, h1, h2⟩ := res_one hr
  rcases h1 with ⟨h1, _⟩ | ⟨_, ct, h1, h3⟩
  · simp at h1
  · obtain rfl : _ = ct := by simpa using h1
    obtain ⟨_, L, h4, _⟩ := h3
    exact ⟨L, (h.sl t).2 h4⟩
end
section
variable {P : Program} {J : World → Prop} {f : FuncId} {args : List (Bool × List CT)} {res : List RT}
theorem Sound.calls (h : Sound P J f args res) {w : World} {vs : List Value} (hj : J w) (ha : All2 (Arg0 w) args vs) : Calls P f vs.toArray w fun e w' => ∃ v n, e = .returned v ∧ ResR w' w.heap.size n res v ∧ Below w.heap.size w w' :=
  (h.2 w (fun _ => False) vs hj (fun _ h => h.elim) ha).mono fun _ _ ⟨v, n, h1, h2, _, h3⟩ => ⟨v, n, h1, h2, h3⟩
/-- a slice as the result -/
theorem Sound.givesS {α : Type} {c : Codec α} {g : α → List CT} {t : Nat} {ds : List α} (h : Sound P J f args [(false, [(false, .sl t c.size (ds.map g))])]) (hg : Enc c g) {w : World} {vs : List Value} (hj : J w) (ha : All2 (Arg0 w) args vs) : Calls P f vs.toArray w (GivesS c t w ds) :=
  (h.calls hj ha).mono fun _ _ ⟨v, _, h1, h2, h3⟩ => ⟨v, h1, res_sl hg h2 h3⟩
theorem Sound.givesB {b : Bool} (h : Sound P J f args [(false, [(false, .bool b)])]) {w : World} {vs : List Value} (hj : J w) (ha : All2 (Arg0 w) args vs) : Calls P f vs.toArray w fun e w' => e = .returned (.bool b) ∧ Below w.heap.size w w' :=
  (h.calls hj ha).mono fun _ _ ⟨v, _, h1, h2, h3⟩ => ⟨by rw [h1, res_bool h2], h3⟩
theorem Sound.givesI {b : Int} (h : Sound P J f args [(false, [(false, .int .i64 b)])]) {w : World} {vs : List Value} (hj : J w) (ha : All2 (Arg0 w) args vs) : Calls P f vs.toArray w fun e w' => e = .returned (.int .i64 b) ∧ Below w.heap.size w w' :=
  (h.calls hj ha).mono fun _ _ ⟨v, _, h1, h2, h3⟩ => ⟨by rw [h1, res_int h2], h3⟩
theorem Sound.givesT {b : ByteArray} (h : Sound P J f args [(false, [(false, .str b)])]) {w : World} {vs : List Value} (hj : J w) (ha : All2 (Arg0 w) args vs) : Calls P f vs.toArray w fun e w' => e = .returned (.string b) ∧ Below w.heap.size w w' :=
  (h.calls hj ha).mono fun _ _ ⟨v, _, h1, h2, h3⟩ => ⟨by rw [h1, res_str h2], h3⟩
end
end Go.Proofs.Ytfbonanbiblkbaa

namespace Go.Proofs.Ytfbonanbiblkbaa
open Go.RowKit Go.Deep

def Opens {α : Type} (P : Program) (t : TypeId) (c : Codec α) (wf : α → Prop) : Prop :=
  ∀ {H : Type} {enc : TypeId × Value → H} {w : World} {base : Nat} {spare : Nat → Bool} {held : Bool} {fuel : Nat} {cs : List Value} {x : DataW H × List MemPlace},
    DataW.trod enc P w base spare held fuel t cs = some x → ∃ d L, c.rep w cs d L ∧ wf d

theorem opens_byte {P : Program} {t : TypeId} (ht : P.underlying t = some (.int .u8)) : Opens P t byteC (fun n => 0 ≤ n ∧ n ≤ 255) := by
  intro H enc w base spare held fuel cs x h
  obtain ⟨n, rfl, _, hw⟩ := DataW.trod_int ht h
  refine ⟨n, [], ⟨rfl, rfl⟩, ?_⟩
  simp [Lit.wf, IntKind.min, IntKind.max, IntKind.signed, IntKind.bits] at hw
  exact ⟨by omega, by omega⟩
theorem opens_slice {α : Type} {c : Codec α} {wf : α → Prop} {P : Program} {t e : TypeId} (ht : P.underlying t = some (.slice e)) (hc : P.cellsOf e = c.size) (ho : Opens P e c wf) : Opens P t (sliceC c) (fun ds => ∀ d ∈ ds, wf d) := by
  intro H enc w base spare held fuel cs x h
  rcases open_slice ht h with ⟨rfl, _⟩ | ⟨a, len, cap, m, n, D, Pl, rfl, hb, hl, hm, hmm, _, hx⟩
  · exact ⟨[], [], ⟨none, 0, rfl, Nat.le_refl _, Nat.zero_le _, Sli.nil _ _⟩, by simp⟩
  · have hlm : len ≤ m := by rw [hmm]; split <;> omega
    have key : ∀ q, q ≤ len → ∃ (xs : List Value) (ds : List α) (L : List Nat), ds.length = q ∧ (∀ j u, xs[j]? = some u → w.cell? (a.add j) = some u) ∧ c.reps w xs ds L ∧ ∀ d ∈ ds, wf d := by
      intro q
      induction q with
      | zero => exact fun _ => ⟨[], [], [], rfl, by simp, ⟨rfl, rfl⟩, by simp⟩
      | succ q ih =>
        intro hq
        obtain ⟨xs, ds, L, hd, hcell, hr, hwf⟩ := ih (by omega)
        obtain ⟨cs', h1, h2⟩ := hx q (by omega)
        obtain ⟨d, Lq, hrep, hwd⟩ := ho h2
        obtain ⟨_, hlen, hat⟩ := World.cells?_some h1
        refine ⟨xs ++ cs', ds ++ [d], L ++ Lq, by simp [hd], fun j u hu => ?_, reps_append hr (reps_one_of hrep), ?_⟩
        · have hxl : xs.length = q * c.size := by rw [reps_len hr, hd]
          rw [List.getElem?_append] at hu
          split at hu
          · exact hcell j u hu
          · rename_i hj
            have hj2 := (List.getElem?_eq_some_iff.1 hu).1
            have := hat (j - xs.length) (by omega)
            rw [← hu, ← this, Go.Deep.add_add, hc, ← hxl]
            congr 2
            omega
        · intro y hy
          rcases List.mem_append.1 hy with hy | hy
          · exact hwf y hy
          · simp at hy; subst hy; exact hwd
    obtain ⟨xs, ds, L, hd, hcell, hr, hwf⟩ := key len (Nat.le_refl _)
    have hxl := reps_len hr
    rcases Nat.eq_zero_or_pos len with h0 | h0
    · have : ds = [] := List.eq_nil_of_length_eq_zero (by omega)
      subst this
      refine ⟨[], [], ⟨some a, cap, by simp at hd; rw [← hd]; rfl, by simp, hm, Sli.nil _ _⟩, by simp⟩
    · obtain ⟨b, off, sp⟩ := a
      have hp : 0 < xs.length := by rw [hxl, hd]; exact Nat.mul_pos h0 c.pos
      have hsp : sp = none := by
        have h1 := hcell 0 _ (List.getElem?_eq_getElem hp)
        have e : (⟨b, off, sp⟩ : Addr).add 0 = ⟨b, off, sp⟩ := by simp [Addr.add]
        rw [e] at h1
        cases sp with
        | none => rfl
        | some q =>
          simp only [World.cell?] at h1
          split at h1 <;> simp at h1
      subst hsp
      refine ⟨ds, [b] ++ L, ⟨some ⟨b, off, none⟩, cap, by rw [hd], by omega, hm, xs, [b], L, rfl, ⟨by rw [hxl], .inr ⟨by omega, b, off, rfl, rfl, fun j u hu => ?_⟩⟩, hr⟩, hwf⟩
      have := hcell j u hu
      rwa [add_lit0] at this

end Go.Proofs.Ytfbonanbiblkbaa

namespace Go.Proofs.Ytfbonanbiblkbaa
open Go.RowKit

theorem FnHitting_walk (w : World) (A : Option Addr) (c : Nat) (code : List Int) (L : List Nat) (h : (sliceC byteC).rep w [.slice A code.length c] code L) :
    Calls Try.prog 4 #[.slice A code.length c] w (fun e w' => e = .returned (.bool true) ∧ Below w.heap.size w w') :=
  Sound.givesB (w_FnHitting_ok (FnHitting_plain code)) trivial (vs := [_]) ⟨arg_sl encByte _ h, trivial⟩

end Go.Proofs.Ytfbonanbiblkbaa
