/- Every operation that the abstract machine takes, calls of Go functions apart. -/
import Derived.Test.YtfmplnebdldpdaaBOps8
namespace Go.Proofs.Ytfmplnebdldpdaa
open Go.RowKit
section
variable {P : Program} {W : World} {U : Nat → Prop} {key : Nat} {st : St} {g : Gh} {w w' : World} {a : Act} {tt : Nat → Option TI}
theorem zipT_snd : ∀ (ts : List TypeId) (xs : List Operand), (zipT ts xs).map (·.2) = xs
  | _, [] => by cases ‹List TypeId› <;> rfl
  | [], x :: xs => by simp [zipT, zipT_snd [] xs]
  | t :: ts, x :: xs => by simp [zipT, zipT_snd ts xs]
theorem zeroOf_ok (htt : ∀ t i, tt t = some i → TOk P t i) {t : Nat} {z : List AV} (h : zeroOf (tt t) = some z) : ∃ zv vs, (zeroValue t).run P w = .ok zv w ∧ zv.cells = (vs : List Value).toArray ∧ All2 (AVR g w) z vs ∧ avsU U z := by
  unfold zeroOf at h
  split at h <;> simp only [Option.some.injEq, reduceCtorEq] at h <;> subst h <;> rename_i hti
  · obtain ⟨d, zv, i, h1, h2, h3, h4, h5, h6⟩ := htt t _ hti
    have hr : AVR g w _ zv := const_AVR h6
    exact ⟨zv, [zv], run_zero h3 h4, by rw [cells_one hr.one], ⟨hr, trivial⟩, fun y m => by
      simp at m; subst m
      cases y <;> first | trivial | simp [constB] at h6⟩
  · obtain ⟨fields, i, zvs, h1, h2, h3, h4, h5, _⟩ := htt t _ hti
    obtain ⟨q1, q2⟩ := consts_AVR (g := g) (w := w) (U := U) h5
    exact ⟨.agg zvs, zvs.toList, run_zero h2 h4, by simp [Value.cells], q1, q2⟩
  · obtain ⟨_, hm, _, _, j, h1, h2, h3⟩ := htt t _ hti
    exact ⟨_, [.slice none 0 0], run_zero h1 h3, rfl, ⟨rfl, trivial⟩, fun y m => by simp at m; subst m; trivial⟩
set_option maxHeartbeats 1000000 in
theorem opE_sound (htt : ∀ t i, tt t = some i → TOk P t i) (o : Oper) {r : SV × List (Nat × Ob)} (hr : opE tt key o st = some r) (hI : HI W g st.ob w) (hS : ∀ t, SVR g w (st.sl t) (a.tmps.getD t undef)) (hU : StU U st) (hkey : ¬ U key) :
    Fin P W U key st g w (execOp a.eval o) r := by
  have ev := fun t x => ev_ok (P := P) (a := a) (g := g) (w := w) (U := U) htt hS hU t x
  have pur : ∀ {v : Option SV} {s : Sem Value}, pure1 v = some r → execOp a.eval o = (do pure (.value (← s))) → (∀ u, v = some u → ∃ cv, s.run P w = .ok cv w ∧ SVR g w u cv ∧ svU U u) → Fin P W U key st g w (execOp a.eval o) r := fun {v s} hp he hv => by
    obtain ⟨u, hu, rfl⟩ := Option.map_eq_some_iff.1 hp
    obtain ⟨cv, c1, c2, c3⟩ := hv u hu
    exact fin_pure hI hU (by rw [he]; simp only [Sem.run_bind, c1, Result.andThen_ok, Sem.run_pure]) c2 c3
  obtain ⟨dst, op, ty, pos, af, gd⟩ := o
  cases op with
  | move x =>
    simp only [opE, Option.some.injEq] at hr; subst hr
    exact fin_pure hI hU rfl (ev ty x).1 (ev ty x).2
  | assign x =>
    simp only [opE, Option.some.injEq] at hr; subst hr
    exact fin_pure hI hU rfl (ev ty x).1 (ev ty x).2
  | pick c x y =>
    simp only [opE] at hr
    split at hr
    · rename_i b hb
      simp only [Option.some.injEq] at hr; subst hr
      have hc := (ev 0 c).1
      rw [hb] at hc
      obtain ⟨cv, c1, c2, c3⟩ := pick_ok (P := P) hc (ev ty x) (ev ty y)
      exact fin_pure hI hU c1 c2 c3
    · simp at hr
  | alloc t =>
    simp only [opE] at hr
    obtain ⟨z, hz, rfl⟩ := Option.map_eq_some_iff.1 hr
    obtain ⟨zv, vs, h1, h2, h3, h4⟩ := zeroOf_ok (P := P) (g := g) (w := w) (U := U) htt hz
    exact box_ok hI hU hkey h3 h4 (by simp [execOp, Instr.alloc, h1, newVar, newRow, h2])
  | box t x =>
    simp only [opE] at hr
    split at hr
    · rename_i ag cs hx
      simp only [Option.some.injEq] at hr; subst hr
      have hv := ev t x
      rw [hx] at hv
      obtain ⟨vs, h2, h3⟩ := PVR.cells hv.1
      exact box_ok hI hU hkey h3 hv.2 (by simp [execOp, Instr.box, newVar, newRow, h2])
    · simp at hr
  | build t parts =>
    simp only [opE] at hr
    split at hr
    · rename_i fs n z hti
      obtain ⟨cs, hcs, rfl⟩ := Option.map_eq_some_iff.1 hr
      obtain ⟨cv, c1, c2, c3⟩ := build_ok (P := P) htt hS hU hti hcs
      exact fin_pure hI hU (by simp only [execOp, Sem.run_bind, c1, Result.andThen_ok, Sem.run_pure]) c2 c3
    · simp at hr
  | buildSlice t len parts =>
    simp only [opE] at hr
    split at hr
    · rename_i e m bytes z hti
      obtain ⟨⟨xs, ks, d⟩, h1, hr⟩ := Option.bind_eq_some_iff.1 hr
      split at hr
      · rename_i hc
        simp only [Option.some.injEq] at hr; subst hr
        exact bsl_ok htt hI hS hU hkey hti h1 hc.1 hc.2.1 hc.2.2 rfl
      · simp at hr
    · simp at hr
  | load t x => exact pur hr rfl fun u hu => load_ok htt hI hU hu (ev 0 x).1
  | store t x v =>
    simp only [opE] at hr
    obtain ⟨u, hu, rfl⟩ := Option.map_eq_some_iff.1 hr
    have hx := ev 0 x
    have hv := ev t v
    unfold storeV at hu
    split at hu
    · rename_i k off ag vs he1 he2
      rw [he1] at hx
      rw [he2] at hv
      split at hu
      · rename_i tb cs hk
        split at hu
        · rename_i hc
          simp only [Option.some.injEq] at hu; subst hu
          exact store_bp htt hI hU hk hc.1 hc.2.2 hx.1 hv.1 hv.2 hc.2.1 rfl
        · simp at hu
      · simp at hu
    · rename_i k m i off ag vs he1 he2
      rw [he1] at hx
      rw [he2] at hv
      split at hu
      · rename_i e m' xs d hk
        obtain ⟨y, hy, hu⟩ := Option.bind_eq_some_iff.1 hu
        obtain ⟨ys, hys, hu⟩ := Option.bind_eq_some_iff.1 hu
        split at hu
        · rename_i hc
          simp only [Option.some.injEq] at hu; subst hu
          obtain ⟨rfl, hc1, hc2, hc3⟩ := hc
          exact store_rp htt hI hU hk hy hys hc1 hc3 hx.1 hv.1 hc2 rfl
        · simp at hu
      · simp at hu
    · simp at hu
  | nilCheck x =>
    simp only [opE] at hr
    have hx := ev 0 x
    split at hr <;> simp only [Option.some.injEq, reduceCtorEq] at hr <;> subst hr <;> rename_i he <;> rw [he] at hx
    · obtain ⟨b, _, hv⟩ := hx.1
      exact fin_pure hI hU (cv := a.eval x) (by simp [execOp, hv]) hx.1 hx.2
    · obtain ⟨b, _, _, _, hv⟩ := hx.1
      exact fin_pure hI hU (cv := a.eval x) (by simp [execOp, hv]) hx.1 hx.2
    · obtain ⟨b, _, _, _, hv, _⟩ := hx.1
      exact fin_pure hI hU (cv := a.eval x) (by simp [execOp, hv]) hx.1 hx.2
  | binOp op t x y t' => exact pur hr rfl fun u hu => bin_ok htt hu (ev t x).1 (ev t y).1
  | unOp op t x => exact pur hr rfl fun u hu => un_ok hu (ev 0 x).1
  | convert s t x => exact pur hr rfl fun u hu => conv_ok htt hu (ev 0 x).1
  | makeSlice t n c =>
    simp only [opE] at hr
    have hn := (ev 0 n).1
    have hc := (ev 0 c).1
    unfold makeV at hr
    split at hr
    · rename_i n' c' he1 he2
      rw [he1] at hn
      rw [he2] at hc
      split at hr
      · rename_i e m bytes z hti
        obtain ⟨ze, hz, hr⟩ := Option.bind_eq_some_iff.1 hr
        split at hr
        · rename_i hq
          simp only [Option.some.injEq] at hr; subst hr
          obtain ⟨h0, rfl, h1⟩ := hq
          have e1 := int_of hn
          have e2 := int_of hc
          obtain ⟨n'', rfl⟩ := Int.eq_ofNat_of_zero_le h0
          simp only [Int.toNat_natCast]
          exact make_ok htt hI hU hkey hti hz (by omega) (by simp only [execOp, e1, e2])
        · simp at hr
      · simp at hr
    · simp at hr
  | slice t x lo hi mx =>
    cases mx with
    | some _ => simp [opE] at hr
    | none =>
      refine pur hr rfl fun u hu => slice_ok htt hu (ev 0 x).1 ?_ ?_
      · cases lo with
        | none => trivial
        | some y => exact (ev 0 y).1
      · cases hi with
        | none => trivial
        | some y => exact (ev 0 y).1
  | fieldAddr t x f =>
    simp only [opE] at hr
    split at hr
    · rename_i fs n z hti
      refine pur hr rfl fun u hu => ?_
      obtain ⟨fi, hf, hu⟩ := Option.bind_eq_some_iff.1 hu
      exact fad_ok htt hti hf hu (ev 0 x).1 (ev 0 x).2
    · simp at hr
  | field t x f =>
    simp only [opE] at hr
    split at hr
    · rename_i fs n z hti
      exact pur hr rfl fun u hu => fie_ok htt hti hu (ev 0 x).1 (ev 0 x).2
    · simp at hr
  | indexAddr t x i =>
    simp only [opE] at hr
    split at hr
    · rename_i e m bytes z hti
      exact pur hr rfl fun u hu => idx_ok htt hI hU hti hu (ev 0 x).1 (ev 0 x).2 (ev 0 i).1
    · simp at hr
  | index t x i => exact pur hr rfl fun u hu => idxs_ok htt hu (ev 0 x).1 (ev 0 i).1
  | extract x i => exact pur hr rfl fun u hu => ext_ok hu (ev 0 x).1 (ev 0 x).2
  | call c =>
    obtain ⟨callee, args, ts⟩ := c
    cases callee with
    | builtin b =>
      simp only [opE] at hr
      have hts : ∀ l : List TypeId, ts.toList = l → ts = l.toArray := fun l h => by rw [← h]
      have one : ∀ v, evs tt st ts.toList args.toList = [v] → ∃ x, args = #[x] ∧ SVR g w v (a.eval x) ∧ svU U v := fun v h => by
        obtain ⟨args⟩ := args
        generalize ts.toList = l at h
        cases args with
        | nil => cases l <;> simp [evs, zipT] at h
        | cons x xs =>
          cases xs with
          | nil =>
            refine ⟨x, rfl, ?_⟩
            cases l with
            | nil => simp only [evs, zipT, List.map_cons, List.map_nil, List.cons.injEq, and_true] at h; rw [← h]; exact ev _ _
            | cons t l => cases l <;> (simp only [evs, zipT, List.map_cons, List.map_nil, List.cons.injEq, and_true] at h; rw [← h]; exact ev _ _)
          | cons y ys => cases l with
            | nil => simp [evs, zipT] at h
            | cons t l => cases l <;> simp [evs, zipT] at h
      have two : ∀ v u, evs tt st ts.toList args.toList = [v, u] → ∃ x y, args = #[x, y] ∧ (SVR g w v (a.eval x) ∧ svU U v) ∧ SVR g w u (a.eval y) ∧ svU U u := fun v u h => by
        obtain ⟨args⟩ := args
        have h2 := congrArg List.length h
        have h3 : (evs tt st ts.toList args).length = args.length := by
          have := congrArg List.length (zipT_snd ts.toList args)
          simpa [evs] using this
        have h4 : args.length = 2 := by rw [← h3]; exact h2
        obtain ⟨x, y, rfl⟩ : ∃ x y, args = [x, y] := by
          match args, h4 with
          | [x, y], _ => exact ⟨x, y, rfl⟩
        refine ⟨x, y, rfl, ?_⟩
        have h5 : ∃ t1 t2, evs tt st ts.toList [x, y] = [st.ev tt t1 x, st.ev tt t2 y] := by
          generalize ts.toList = l
          cases l with
          | nil => exact ⟨0, 0, rfl⟩
          | cons t1 l => cases l with
            | nil => exact ⟨t1, 0, rfl⟩
            | cons t2 l => exact ⟨t1, t2, by cases l <;> rfl⟩
        obtain ⟨t1, t2, h5⟩ := h5
        rw [h5] at h
        simp only [List.cons.injEq, and_true] at h
        rw [← h.1, ← h.2]
        exact ⟨ev _ _, ev _ _⟩
      unfold bltV at hr
      split at hr
      · rename_i t _ v he1 he2
        have e1 := hts _ he1
        obtain ⟨x, rfl, hx, _⟩ := one _ he2
        exact pur (s := Builtin.len_ ts ty #[a.eval x]) hr (by simp [execOp, resolve, invoke, builtin]) fun u hu => len_ok htt hI (by simp [e1]) hu hx
      · rename_i t u v1 v2 he1 he2
        have e1 := hts _ he1
        obtain ⟨x, y, rfl, hx, hy⟩ := two _ _ he2
        split at hr
        · rename_i he
          subst he
          exact app_ok htt hI hU hkey hr hx hy (ty := ty) (by simp [execOp, resolve, invoke, builtin, e1])
        · simp at hr
      · rename_i v1 v2 he2
        obtain ⟨x, y, rfl, hx, hy⟩ := two _ _ he2
        refine pur (s := Builtin.max_ ts ty #[a.eval x, a.eval y]) hr (by simp [execOp, resolve, invoke, builtin]) fun u hu => ?_
        have := max_ok (P := P) (U := U) (ts := ts) (ty := ty) hu hx.1 hy.1
        simpa using this
      · rename_i v1 v2 he2
        obtain ⟨x, y, rfl, hx, hy⟩ := two _ _ he2
        refine pur (s := Builtin.min_ ts ty #[a.eval x, a.eval y]) hr (by simp [execOp, resolve, invoke, builtin]) fun u hu => ?_
        have := max_ok (P := P) (U := U) (ts := ts) (ty := ty) hu hx.1 hy.1
        simpa using this
      · simp at hr
    | value f => simp [opE] at hr
    | invoke r m => simp [opE] at hr
  | _ => simp [opE] at hr
end
end Go.Proofs.Ytfmplnebdldpdaa
