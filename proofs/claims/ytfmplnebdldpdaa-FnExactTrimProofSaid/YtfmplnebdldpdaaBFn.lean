/- Functions: a contract out of what the abstract machine says of the body. -/
import Derived.Test.YtfmplnebdldpdaaBSound
import Derived.Test.YtfmplnebdldpdaaBSimp
namespace Go.Proofs.Ytfmplnebdldpdaa
open Go.RowKit
section
variable {P : Program} {W : World} {U : Nat → Prop} {st : St} {w w' : World} {a : Act} {tt : Nat → Option TI} {g : Gh}
theorem resAV_ok (hI : HI W g st.ob w) {x : AV} {ct : CT} {ks : List Nat} {v : Value} (h : resAV st x = some (ct, ks)) (hx : AVR g w x v) : OC w W.heap.size ct v (g.F ks) := by
  cases x with
  | c y =>
    obtain ⟨L, h1, _⟩ := hx
    cases y <;> simp only [resAV, Option.some.injEq, Prod.mk.injEq, reduceCtorEq] at h <;> obtain ⟨rfl, rfl⟩ := h
    · exact ⟨⟨h1.1, rfl⟩, by simp [Gh.F]⟩
    · exact ⟨⟨h1.1, rfl⟩, by simp [Gh.F]⟩
    · exact ⟨⟨h1.1, rfl, h1.2.2⟩, by simp [Gh.F]⟩
  | row k =>
    simp only [resAV] at h
    split at h
    · rename_i e m xs hk
      simp only [Option.some.injEq, Prod.mk.injEq] at h
      obtain ⟨rfl, rfl⟩ := h
      obtain ⟨hm, cs, L, o1, o2, o3, o4, o5⟩ := hI.deep hk
      refine ⟨hm, cs, L, by rw [hx.1]; exact o1, o2, ?_⟩
      rcases o5 with ⟨_, o5⟩ | ⟨o5, _⟩
      · simp [Gh.F, o4, o5, hx.1]
      · simp at o5
    · simp at h
  | nil e m =>
    simp only [resAV] at h
    split at h
    · rename_i hm
      simp only [Option.some.injEq, Prod.mk.injEq] at h
      obtain ⟨rfl, rfl⟩ := h
      have hx' : v = .slice none 0 0 := hx
      subst hx'
      exact ⟨hm, [], [], World.ownsRow_nil _ _ _ _, ⟨rfl, rfl⟩, by simp [Gh.F, Value.ownBlock]⟩
    · simp at h
  | dead => simp [resAV] at h
theorem resAVs_ok (hI : HI W g st.ob w) : ∀ {xs : List AV} {cts : List CT} {ks : List Nat} {vs : List Value}, resAVs st xs = some (cts, ks) → All2 (AVR g w) xs vs → OCs w W.heap.size cts vs (g.F ks)
  | [], _, _, [], h, _ => by
    simp only [resAVs, Option.some.injEq, Prod.mk.injEq] at h
    obtain ⟨rfl, rfl⟩ := h
    exact ⟨rfl, by simp [Gh.F]⟩
  | [], _, _, _ :: _, _, h => h.elim
  | _ :: _, _, _, [], _, h => h.elim
  | x :: r, cts, ks, v :: vs, h, hr => by
    simp only [resAVs] at h
    obtain ⟨⟨c1, k1⟩, h1, h⟩ := Option.bind_eq_some_iff.1 h
    obtain ⟨⟨c2, k2⟩, h2, h⟩ := Option.map_eq_some_iff.1 h
    simp only [Prod.mk.injEq] at h
    obtain ⟨rfl, rfl⟩ := h
    exact ⟨v, vs, g.F k1, g.F k2, rfl, by simp [Gh.F], resAV_ok hI h1 hr.1, resAVs_ok hI h2 hr.2⟩
theorem resPV_ok (hI : HI W g st.ob w) {ag : Bool} {cs : List AV} {cts : List CT} {ks : List Nat} {v : Value} (h : resAVs st cs = some (cts, ks)) (hx : PVR g w ag cs v) : OP w W.heap.size (ag, cts) v (g.F ks) := by
  cases ag with
  | true => obtain ⟨vs, rfl, h2⟩ := hx; exact .inl ⟨rfl, vs, rfl, resAVs_ok hI h h2⟩
  | false =>
    obtain ⟨x, rfl, h2⟩ := hx
    simp only [resAVs] at h
    obtain ⟨⟨c1, k1⟩, h1, h⟩ := Option.bind_eq_some_iff.1 h
    simp at h
    obtain ⟨rfl, rfl⟩ := h
    exact .inr ⟨rfl, c1, rfl, resAV_ok hI h1 h2⟩
def resRun (tmps : Array Value) : ResultVar → Sem Value
  | .tmp t => pure (tmps.getD t undef)
  | .cell b t => do loadVar t (← asAddr (tmps.getD b undef))
theorem results_eq (fn : Func) (tmps : Array Value) : results fn tmps = (do let vs ← fn.results.mapM (resRun tmps); pure (if h : vs.size = 1 then vs[0] else .tuple vs)) := by
  unfold results
  congr 1
theorem resOf_ok (htt : ∀ t i, tt t = some i → TOk P t i) (hI : HI W g st.ob w) (hS : ∀ t, SVR g w (st.sl t) (a.tmps.getD t undef)) (hU : StU U st) : ∀ {rs : List ResultVar} {res : List (Bool × List CT)} {ks : List Nat}, resOf tt st rs = some (res, ks) →
    ∃ vs : List Value, (rs.mapM (resRun a.tmps)).run P w = .ok vs w ∧ OPs w W.heap.size res vs (g.F ks)
  | [], res, ks, h => by
    simp only [resOf, Option.some.injEq, Prod.mk.injEq] at h
    obtain ⟨rfl, rfl⟩ := h
    exact ⟨[], by simp, rfl, by simp [Gh.F]⟩
  | .tmp t :: r, res, ks, h => by
    simp only [resOf] at h
    split at h
    · rename_i ag cs hsl
      obtain ⟨⟨c1, k1⟩, h1, h⟩ := Option.bind_eq_some_iff.1 h
      obtain ⟨⟨c2, k2⟩, h2, h⟩ := Option.map_eq_some_iff.1 h
      simp only [Prod.mk.injEq] at h
      obtain ⟨rfl, rfl⟩ := h
      obtain ⟨vs, i1, i2⟩ := resOf_ok htt hI hS hU h2
      have hs := hS t
      rw [hsl] at hs
      refine ⟨a.tmps.getD t undef :: vs, ?_, _, vs, g.F k1, g.F k2, rfl, by simp [Gh.F], resPV_ok hI h1 hs, i2⟩
      simp only [List.mapM_cons, resRun, Sem.run_bind, Sem.run_pure, Result.andThen_ok, i1]
    · simp at h
  | .cell t ty :: r, res, ks, h => by
    simp only [resOf] at h
    split at h
    · rename_i ag cs hsl
      obtain ⟨⟨c1, k1⟩, h1, h⟩ := Option.bind_eq_some_iff.1 h
      obtain ⟨⟨c2, k2⟩, h2, h⟩ := Option.map_eq_some_iff.1 h
      simp only [Prod.mk.injEq] at h
      obtain ⟨rfl, rfl⟩ := h
      obtain ⟨vs, i1, i2⟩ := resOf_ok htt hI hS hU h2
      obtain ⟨cv, l1, l2, _⟩ := load_ok (P := P) (U := U) htt hI hU hsl (hS t)
      have hl : (do loadVar ty (← asAddr (a.tmps.getD t undef)) : Sem Value).run P w = .ok cv w := by
        have : ∃ b, a.tmps.getD t undef = .pointer (some b) := by
          have hs := hS t
          cases hsl' : st.sl t with
          | bp k off => rw [hsl'] at hs; obtain ⟨b, _, hv⟩ := hs; exact ⟨_, hv⟩
          | rp k m i off => rw [hsl'] at hs; obtain ⟨b, _, _, _, hv⟩ := hs; exact ⟨_, hv⟩
          | ep e off => rw [hsl'] at hs; obtain ⟨b, _, _, _, hv, _⟩ := hs; exact ⟨_, hv⟩
          | _ => rw [hsl'] at hsl; simp [loadV] at hsl
        obtain ⟨b, hb⟩ := this
        rw [hb] at l1 ⊢
        simpa [Instr.loadAt, Instr.sureAddr, asAddr] using l1
      refine ⟨cv :: vs, ?_, _, vs, g.F k1, g.F k2, rfl, by simp [Gh.F], resPV_ok hI h1 l2, i2⟩
      have hl' : (resRun a.tmps (.cell t ty)).run P w = .ok cv w := hl
      simp only [List.mapM_cons, Sem.run_bind, hl', i1, Sem.run_pure, Result.andThen_ok]
    · simp at h
theorem arg_SVR {x : Bool × List CT} {v : Value} (hg : ∀ b, ¬ g.own b) (h : ArgR w x v) : SVR g w (.p x.1 (x.2.map .c)) v := by
  rcases h with ⟨h1, vs, L, rfl, h2⟩ | ⟨h1, ct, L, h2, h3⟩
  · rw [h1]; exact ⟨vs, rfl, h2.avr fun b _ => hg b⟩
  · rw [h1, h2]; exact ⟨_, rfl, L, h3, fun b _ => hg b⟩
theorem fn_sound (htt : ∀ t i, tt t = some i → TOk P t i) (hmix : P.follows .mixedOrders = true) {f : FuncId} {fn : Func} {c : Code} {args res : List (Bool × List CT)} (hf : P.funcs[f]? = some fn) (hname : (fn.name == "runtime.NumGoroutine") = false) (hb : fn.body = some c)
    (hok : codeOk fn.ntmps c = true) (hlen : Nat.ble args.length fn.ntmps = true) (h : fnS tt (Sound P) fn.results.toList c args fun r => r = res) : Sound P f args res := by
  refine ⟨⟨fn, hf, hname, by rw [hb]; rfl⟩, fun w vs hargs => ?_⟩
  have hlen' : args.length ≤ fn.ntmps := Nat.le_of_ble_eq_true hlen
  have hvl := hargs.len
  refine calls_of_wp hf hb ?_
  let g0 : Gh := ⟨fun _ => undef, fun _ => [], fun _ => []⟩
  have hg0 : ∀ b, ¬ g0.own b := fun b ⟨k, m⟩ => by simp [g0] at m
  have hI0 : Inv w (fun _ => False) (argSt args) { tmps := vs.toArray ++ Array.replicate (fn.ntmps - vs.toArray.size) undef, defers := [] } w := by
    refine ⟨⟨g0, ⟨Below.refl _ _, fun k => ⟨rfl, rfl⟩, fun k => by simp [g0], fun k j _ b m => by simp [g0] at m, fun k b m => by simp [g0] at m⟩, fun t => ?_⟩, ⟨fun t => ?_, fun k => trivial, fun k _ => rfl⟩, rfl⟩
    · show SVR g0 w (match args[t]? with | some x => .p x.1 (x.2.map .c) | none => .und) _
      cases ht : args[t]? with
      | none =>
        have hl : args.length ≤ t := by simpa using ht
        show _ = undef
        have hn : vs[t]? = none := List.getElem?_eq_none (by omega)
        simp only [Array.getD_eq_getD_getElem?, Array.getElem?_append, List.size_toArray, show ¬ t < vs.length by omega, if_false, Array.getElem?_replicate]
        split <;> rfl
      | some x =>
        obtain ⟨v, hv, hr⟩ := hargs.at ht
        have hl : t < vs.length := (List.getElem?_eq_some_iff.1 hv).1
        have : (vs.toArray ++ Array.replicate (fn.ntmps - vs.toArray.size) undef).getD t undef = v := by
          simp only [Array.getD_eq_getD_getElem?, Array.getElem?_append, List.size_toArray, hl, if_true, List.getElem?_toArray, hv, Option.getD_some]
        rw [this]
        exact arg_SVR hg0 hr
    · show svU _ (match args[t]? with | some x => .p x.1 (x.2.map .c) | none => .und)
      split
      · exact svU_cs true _
      · trivial
  refine swp_sound (W := w) htt hmix c hok (retK tt fn.results.toList fun r => r = res) _ ?_ _ (argSt args) _ w hI0 (fun _ _ h => h) (by simp; omega) h
  intro ex U' st' a' w' hI' _ _ hK
  have fin : (match resOf tt st' fn.results.toList with | some x => x.2.Nodup ∧ x.1 = res | none => False) → a'.defers = [] ∧ ∃ v, (results fn a'.tmps).run P w' = .ok v w' ∧ ∃ u, Ending.returned v = .returned u ∧ ResR w' w.heap.size res u ∧ Below w.heap.size w w' := fun hK => by
    obtain ⟨⟨g, hH, hS⟩, hU, hdef⟩ := hI'
    split at hK
    · rename_i x hx
      obtain ⟨r, ks⟩ := x
      obtain ⟨hnd, rfl⟩ := hK
      obtain ⟨us, r1, r2⟩ := resOf_ok htt hH hS hU hx
      refine ⟨hdef, (if h : us.toArray.size = 1 then us.toArray[0] else .tuple us.toArray), ?_, _, rfl, ⟨us, _, r2, ⟨hH.nodupF hnd, fun b m => ?_, fun b m => ?_⟩, rfl⟩, hH.below⟩
      · rw [results_eq]
        have e : fn.results.mapM (resRun a'.tmps) = List.toArray <$> fn.results.toList.mapM (resRun a'.tmps) := by
          rw [← List.mapM_toArray]
        have e2 : (List.toArray <$> fn.results.toList.mapM (resRun a'.tmps)).run P w' = .ok us.toArray w' := by
          rw [map_eq_pure_bind]
          simp only [Sem.run_bind, r1, Result.andThen_ok, Sem.run_pure]
        rw [e]
        simp only [Sem.run_bind, e2, Result.andThen_ok, Sem.run_pure]
      · obtain ⟨k, _, mk⟩ := mem_F m
        exact (hH.plain k b mk).1
      · obtain ⟨k, _, mk⟩ := mem_F m
        exact (hH.plain k b mk).2
    · exact hK.elim
  cases ex with
  | normal => exact fin hK
  | exit id => exact hK.elim
  | ret => exact fin hK
end
end Go.Proofs.Ytfmplnebdldpdaa
