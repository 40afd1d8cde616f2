/- One operation of a region, with its guard; a region whose order is fixed. -/
import Derived.Test.YtfmplnebdldpdaaBCall
namespace Go.Proofs.Ytfmplnebdldpdaa
open Go.RowKit
section
variable {P : Program} {W : World} {U : Nat → Prop} {key : Nat} {st : St} {w w' : World} {a : Act} {tt : Nat → Option TI} {Q : Exit → Act → World → Prop}
theorem put_tmps (a : Act) (d : Option Nat) (v : Value) : (a.put d v).tmps.size = a.tmps.size := by cases d <;> simp [Act.put]
theorem put_defers' (a : Act) (d : Option Nat) (v : Value) : (a.put d v).defers = a.defers := by cases d <;> simp [Act.put]
theorem put_inv {g g' : Gh} {d : Option Nat} {v : SV} {u : List (Nat × Ob)} {cv : Value} (hS : ∀ t, SVR g w (st.sl t) (a.tmps.getD t undef)) (hU : StU U st) (hdef : a.defers = []) (hd : ∀ t, d = some t → t < a.tmps.size)
    (h1 : HI W g' (updAll st.ob u) w') (h2 : SVR g' w' v cv) (h3 : ∀ x c, svU U x → SVR g w x c → SVR g' w' x c) (h4 : svU (Uk U key) v) (h5 : ∀ k, obU (Uk U key) (updAll st.ob u k)) (h6 : ∀ k, ¬ Uk U key k → updAll st.ob u k = .gone) :
    Inv W (Uk U key) ((st.put d v).app u) (a.put d cv) w' := by
  cases d with
  | none =>
    refine ⟨⟨g', h1, fun t => h3 _ _ (hU.sl t) (hS t)⟩, ⟨fun t => (hU.sl t).mono fun _ => .inl, h5, h6⟩, hdef⟩
  | some d =>
    have hd' := hd d rfl
    refine ⟨⟨g', h1, fun t => ?_⟩, ⟨fun t => ?_, h5, h6⟩, hdef⟩
    · show SVR g' w' (upd st.sl d v t) ((a.tmps.setIfInBounds d cv).getD t undef)
      by_cases ht : t = d
      · subst ht
        rw [upd_same]
        simpa [Array.getD_eq_getD_getElem?, Array.getElem?_setIfInBounds, hd'] using h2
      · rw [upd_ne _ _ ht]
        have : (a.tmps.setIfInBounds d cv).getD t undef = a.tmps.getD t undef := by
          simp [Array.getD_eq_getD_getElem?, Array.getElem?_setIfInBounds_ne (fun e : d = t => ht e.symm)]
        rw [this]
        exact h3 _ _ (hU.sl t) (hS t)
    · show svU (Uk U key) (upd st.sl d v t)
      by_cases ht : t = d
      · subst ht; rw [upd_same]; exact h4
      · rw [upd_ne _ _ ht]; exact (hU.sl t).mono fun _ => .inl
theorem opS_sound (htt : ∀ t i, tt t = some i → TOk P t i) {o : Oper} {K : St → Prop} (h : opS tt (Sound P) key o K st) (hI : Inv W U st a w) (hkey : ∀ k, key ≤ k → k < key + 16 → ¬ U k) (hd : ∀ t, o.dst = some t → t < a.tmps.size) :
    o.wp P a w (fun a' w' => ∃ st', Inv W (Uk U key) st' a' w' ∧ a'.tmps.size = a.tmps.size ∧ K st') Q := by
  obtain ⟨⟨g, hH, hS⟩, hU, hdef⟩ := hI
  unfold opS at h
  split at h
  · rename_i c hc
    obtain ⟨f, l1, l2⟩ := c
    have hop : ∃ args ts, o.op = .call ⟨.value (.func f), args, ts⟩ ∧ l1 = ts.toList ∧ l2 = args.toList := by
      unfold goCall at hc
      split at hc
      · rename_i f' args ts he
        simp only [Option.some.injEq, Prod.mk.injEq] at hc
        obtain ⟨rfl, rfl, rfl⟩ := hc
        exact ⟨args, ts, he, rfl, rfl⟩
      · simp at hc
    obtain ⟨args, ts, hop, rfl, rfl⟩ := hop
    unfold optK at h
    split at h
    · rename_i l hl
      obtain ⟨res, hs, hn, hK⟩ := h
      obtain ⟨⟨fn, f1, f2, f3⟩, hC⟩ := hs
      have hargs : All2 (SVR g w) (evs tt st ts.toList args.toList) (args.toList.map a.eval) := by
        have e : args.toList.map a.eval = (zipT ts.toList args.toList).map fun p => a.eval p.2 := by
          have := congrArg (List.map a.eval) (zipT_snd ts.toList args.toList)
          rw [← this, List.map_map]; rfl
        rw [e]
        exact All2.of_map _ _ fun p _ => (ev_ok htt hS hU p.1 p.2).1
      have hcall := hC w (args.toList.map a.eval) (svArgs_ok hH hl hargs)
      have hrun : (execOp a.eval o).run P w = .ok (.enter f (args.toList.map a.eval).toArray) w := by
        have f2' : ¬ fn.name = "runtime.NumGoroutine" := by simpa using f2
        have f3' : ¬ fn.body = none := fun e => by rw [e] at f3; simp at f3
        have e1 : (args.toList.map a.eval).toArray = args.map a.eval := by
          apply Array.ext'
          simp
        rw [e1]
        simp [execOp, hop, resolve, Act.eval, Deferred.ofValue, invoke, callFunc, program, Sem.run, f1, f2', f3']
      unfold Oper.wp
      rw [hrun, Oper.upon_enter]
      refine hcall.mono ?_
      rintro e w' ⟨v, rfl, hv, hb⟩
      obtain ⟨g', t1, t2, t3, t4, t5, t6⟩ := call_turn hH hU hkey hv hb hn
      exact ⟨_, put_inv hS hU hdef hd t1 t2 t3 t4 t5 t6, put_tmps _ _ _, hK⟩
    · exact h.elim
  · unfold optK at h
    split at h
    · rename_i r hr
      obtain ⟨g', cv, w', hrun, t1, t2, t3, t4, t5, t6⟩ := opE_sound (P := P) (W := W) (a := a) htt o hr hH hS hU (hkey key (Nat.le_refl _) (by omega))
      unfold Oper.wp
      rcases hrun with hrun | ⟨hrun, rfl⟩
      · rw [hrun]
        exact ⟨_, put_inv hS hU hdef hd t1 t2 t3 t4 t5 t6, put_tmps _ _ _, h⟩
      · rw [hrun]
        exact ⟨_, put_inv hS hU hdef hd t1 t2 t3 t4 t5 t6, put_tmps _ _ _, h⟩
    · exact h.elim
theorem und_inv (hI : Inv W U st a w) (d : Option Nat) (hd : ∀ t, d = some t → t < a.tmps.size) : Inv W (Uk U key) (st.put d .und) (a.put d undef) w := by
  obtain ⟨⟨g, hH, hS⟩, hU, hdef⟩ := hI
  exact put_inv (u := []) (key := key) hS hU hdef hd hH rfl (fun _ _ _ h => h) trivial (fun k => (hU.ob k).mono fun _ => .inl) (fun k hk => hU.gone k fun h => hk (.inl h))
theorem opG_sound (htt : ∀ t i, tt t = some i → TOk P t i) {ops : Array Oper} {i : Nat} {o : Oper} {K : St → Prop} (ho : ops[i]? = some o) (h : opG tt (Sound P) ops.toList key o K st) (hI : Inv W U st a w) (hkey : ∀ k, key ≤ k → k < key + 16 → ¬ U k) (hd : ∀ t, o.dst = some t → t < a.tmps.size) :
    wpOp P ops Q i (fun a' w' => ∃ st', Inv W (Uk U key) st' a' w' ∧ a'.tmps.size = a.tmps.size ∧ K st') a w := by
  have skip : K (st.put o.dst .und) → ∃ st', Inv W (Uk U key) st' (a.put o.dst undef) w ∧ (a.put o.dst undef).tmps.size = a.tmps.size ∧ K st' := fun hK => ⟨_, und_inv hI _ hd, put_tmps _ _ _, hK⟩
  unfold wpOp
  simp only [ho]
  unfold opG gslot at h
  cases hg : o.guard with
  | none =>
    rw [hg] at h
    rw [if_pos (by simp [Region.wanted, hg])]
    exact .inl (opS_sound htt h hI hkey hd)
  | some jw =>
    obtain ⟨j, want⟩ := jw
    rw [hg] at h
    simp only at h
    cases hj : (ops.toList[j]?).bind (·.dst) with
    | none =>
      rw [hj] at h
      have hj' : (ops[j]?).bind (·.dst) = none := by simpa using hj
      rw [if_neg (by simp [Region.wanted, hg, yielded, hj'])]
      exact skip h
    | some t =>
      rw [hj] at h
      have hj' : (ops[j]?).bind (·.dst) = some t := by simpa using hj
      obtain ⟨⟨g, hH, hS⟩, hU, hdef⟩ := hI
      have hst := hS t
      simp only at h
      unfold gK at h
      split at h
      · rename_i hb
        have : ∃ b, st.sl t = .p false [.c (.bool b)] := by
          unfold isBool at hb
          split at hb
          · rename_i b he; exact ⟨b, he⟩
          · simp at hb
        obtain ⟨b, hb'⟩ := this
        rw [hb'] at hst h
        have hv := bool_of hst
        have hy : yielded ops a.tmps j = some b := by
          unfold yielded
          rw [hj', Option.bind_some]
          have : a.tmps[t]? = some (.bool b) := by
            rw [Array.getD_eq_getD_getElem?] at hv
            cases he : a.tmps[t]? with
            | none => rw [he] at hv; simp [undef] at hv
            | some q => rw [he] at hv; simpa using hv
          rw [this]
        by_cases hw : (b == want) = true
        · rw [if_pos (show (getBool (.p false [.c (.bool b)]) == want) = true from hw)] at h
          rw [if_pos (by simpa [Region.wanted, hg, hy] using hw)]
          exact .inl (opS_sound htt h ⟨⟨g, hH, hS⟩, hU, hdef⟩ hkey hd)
        · rw [if_neg (show ¬ (getBool (.p false [.c (.bool b)]) == want) = true from hw)] at h
          rw [if_neg (by simpa [Region.wanted, hg, hy] using hw)]
          exact skip h
      · split at h
        · rename_i hu
          have hb' : st.sl t = .und := by
            unfold isUnd at hu
            split at hu
            · rename_i he; exact he
            · simp at hu
          rw [hb'] at hst
          have hst' : a.tmps.getD t undef = undef := hst
          have hy : yielded ops a.tmps j = none := by
            unfold yielded
            rw [hj', Option.bind_some]
            rw [Array.getD_eq_getD_getElem?] at hst'
            cases he : a.tmps[t]? with
            | none => rfl
            | some q => rw [he] at hst'; simp at hst'; rw [hst']; rfl
          rw [if_neg (by simp [Region.wanted, hg, hy])]
          exact skip h
        · exact h.elim
/-- a region in the order of its text -/
theorem ops_sound (htt : ∀ t i, tt t = some i → TOk P t i) {ops : Array Oper} {N : Nat} (hN : ∀ o ∈ ops.toList, ∀ t, o.dst = some t → t < N) {K : St → Prop} : ∀ (r : List Oper) (i key : Nat) (U : Nat → Prop) (st : St) (a : Act) (w : World), ops.toList.drop i = r → opsS tt (Sound P) ops.toList key r K st → Inv W U st a w → (∀ k, key ≤ k → ¬ U k) → a.tmps.size = N →
    (∀ U' st' a' w', Inv W U' st' a' w' → (∀ k, key + 16 * r.length ≤ k → ¬ U' k) → a'.tmps.size = N → K st' → Q .normal a' w') → wpOps P ops Q (List.range' i r.length) a w
  | [], i, key, U, st, a, w, _, h, hI, hk, hs, hQ => hQ U st a w hI (by simpa using hk) hs h
  | o :: r, i, key, U, st, a, w, hr, h, hI, hk, hs, hQ => by
    have hi : ops.toList[i]? = some o := by
      have := congrArg (fun l => l[0]?) hr
      simpa using this
    have hr' : ops.toList.drop (i + 1) = r := by
      have := congrArg List.tail hr
      simpa using this
    rw [List.length_cons, List.range'_succ, wpOps_cons]
    refine wpOp_mono ?_ (opG_sound htt (by simpa using hi) h hI (fun k a _ => hk k a) (fun t ht => by rw [hs]; exact hN o (List.mem_of_getElem? hi) t ht))
    rintro a' w' ⟨st', hI', hs', hK'⟩
    refine ops_sound htt hN r (i + 1) (key + 16) _ st' a' w' hr' hK' hI' (fun k hk' hU => ?_) (by omega) (fun U' st2 a2 w2 h1 h2 h3 h4 => hQ U' st2 a2 w2 h1 (fun k hk' => h2 k (by simp at hk'; omega)) h3 h4)
    rcases hU with hU | hU
    · exact hk k (by omega) hU
    · omega
end
end Go.Proofs.Ytfmplnebdldpdaa
