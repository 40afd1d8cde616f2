/- Addresses, loads, fields, struct literals, parts of texts and slices. -/
import Derived.Test.YtfmplnebdldpdaaBOps2
namespace Go.Proofs.Ytfmplnebdldpdaa
open Go.RowKit
section
variable {P : Program} {W : World} {U : Nat → Prop} {key : Nat} {st : St} {g : Gh} {w : World} {a : Act} {tt : Nat → Option TI}
/-- what a live row's elements lead to is no block that is written to -/
theorem HI.deep {ob : Nat → Ob} {k e m : Nat} {xs : List (List CT)} {d : Bool} (hI : HI W g ob w) (hk : ob k = .row e m xs d) : 0 < m ∧ ∃ cs L, w.ownsRow W.heap.size e m (g.val k) xs.length cs ∧ REs w m xs cs L ∧ (∀ b ∈ L, ¬ g.own b) ∧ g.O k = (g.val k).ownBlock.toList ∧ ((d = true ∧ g.D k = L) ∨ (d = false ∧ g.D k = [])) := by
  have ho := hI.obs k
  rw [hk] at ho
  obtain ⟨hm, cs, L, h1, h2, h3, h4⟩ := ho
  refine ⟨hm, cs, L, h1, h2, ?_, h3, h4.imp id fun h => ⟨h.1, h.2.1⟩⟩
  rcases h4 with ⟨_, h4⟩ | ⟨_, _, h4⟩
  · rintro b mb ⟨j, mj⟩
    by_cases hjk : j = k
    · subst hjk
      have := hI.nodup j
      rw [List.nodup_append] at this
      exact this.2.2 b mj b (h4 ▸ mb) rfl
    · exact hI.apart j k hjk b (by simp [mj]) (by simp [h4, mb])
  · exact h4
theorem REs.at {m : Nat} : ∀ {xs : List (List CT)} {cs : List Value} {L : List Nat} {i : Nat} {e : List CT}, REs w m xs cs L → xs[i]? = some e →
    ∃ c L', RCs w e c L' ∧ c.length = m ∧ (∀ b ∈ L', b ∈ L) ∧ ∀ j u, c[j]? = some u → cs[i * m + j]? = some u
  | [], _, _, _, _, _, h => by simp at h
  | x :: r, _, _, 0, e, ⟨c1, c2, L1, L2, rfl, rfl, h3, h4⟩, h => by
    simp at h; subst h
    exact ⟨c1, L1, h3.1, h3.2, fun b mb => by simp [mb], fun j u hu => by
      rw [Nat.zero_mul, Nat.zero_add, List.getElem?_append_left (List.getElem?_eq_some_iff.1 hu).1]; exact hu⟩
  | x :: r, _, _, i + 1, e, ⟨c1, c2, L1, L2, rfl, rfl, h3, h4⟩, h => by
    obtain ⟨c, L', a1, a2, a3, a4⟩ := REs.at h4 (i := i) (e := e) (by simpa using h)
    refine ⟨c, L', a1, a2, fun b mb => by simp [a3 b mb], fun j u hu => ?_⟩
    have hl := h3.2
    rw [List.getElem?_append_right (by rw [Nat.add_mul]; omega)]
    rw [← a4 j u hu]
    congr 1
    rw [hl, Nat.add_mul]; omega
theorem REs.len {m : Nat} : ∀ {xs : List (List CT)} {cs : List Value} {L : List Nat}, REs w m xs cs L → cs.length = xs.length * m
  | [], _, _, h => by simp [h.1]
  | x :: r, _, _, ⟨c1, c2, L1, L2, rfl, rfl, h3, h4⟩ => by simp [h3.2, REs.len h4, Nat.add_mul]; omega
theorem idx_ok (htt : ∀ t i, tt t = some i → TOk P t i) (hI : HI W g st.ob w) (hU : StU U st) {t e m bytes : Nat} {z : List AV} (hti : tt t = some (.slice e m bytes z)) {x i v : SV} {vx vi : Value} (h : idxAddr st m x i = some v) (hx : SVR g w x vx) (hxu : svU U x) (hi : SVR g w i vi) :
    ∃ cv, (Instr.indexAt t vx vi).run P w = .ok cv w ∧ SVR g w v cv ∧ svU U v := by
  obtain ⟨hu, hm, _, ⟨ie, zv, hie, hsz, _⟩, _⟩ := htt t _ hti
  have run : ∀ (b o n c : Nat) (k : IntKind) (q : Int), 0 ≤ q → q < n → (Instr.indexAt t (.slice (some ⟨b, o, none⟩) n c) (.int k q)).run P w = .ok (.pointer (some ⟨b, o + q.toNat * m, none⟩)) w := fun b o n c k q h0 h1 => by
    simp [Instr.indexAt, asIntOf, run_und hu, h0, h1, run_size hie, hsz, add_lit0]
  unfold idxAddr at h
  split at h
  · have ei := int_of hi
    subst ei
    split at h
    · rename_i hq
      obtain ⟨x, hx1, rfl⟩ := Option.map_eq_some_iff.1 h
      obtain ⟨A, cap, cs, L0, L1, rfl, h2, h3, h5, h6, h7, ho⟩ := slice_of hx
      obtain ⟨h0, rfl⟩ := hq
      have hlt := (List.getElem?_eq_some_iff.1 hx1).1
      obtain ⟨b, off, rfl, rfl, hc⟩ := h6.at_ (by omega)
      obtain ⟨c, L', a1, a2, a3, a4⟩ := h7.at hx1
      refine ⟨_, run b off _ _ _ _ h0 (by omega), ⟨b, off + _, c, L', by rw [Nat.add_zero], fun j u hj => ?_, a1, fun y my => ?_, ?_⟩, trivial⟩
      · rw [Nat.add_assoc]; exact hc _ u (a4 j u hj)
      · rcases List.mem_cons.1 my with rfl | my
        · exact ho _ (by simp)
        · exact ho _ (by simp [a3 y my])
      · exact h6.lt h5 b (by simp)
    · simp at h
  · rename_i k _ _
    have ei := int_of hi
    subst ei
    split at h
    · rename_i e' m' xs d hk
      split at h
      · rename_i hq
        obtain ⟨h0, h1, rfl⟩ := hq
        simp only [Option.some.injEq] at h
        subst h
        have hv := row_of hx
        subst hv
        obtain ⟨_, cs, L, o1, _⟩ := hI.deep hk
        rcases o1.2 with ⟨_, hn⟩ | ⟨b, cap, cur, hv, _⟩
        · omega
        · refine ⟨_, by rw [hv]; exact run b 0 _ _ _ _ h0 h1, ⟨b, _, _, hv, by simp⟩, by have := hxu (.row k) (by simp); exact this⟩
      · simp at h
    · simp at h
  · simp at h
theorem idxs_ok (htt : ∀ t i, tt t = some i → TOk P t i) {t : Nat} {x i v : SV} {vx vi : Value} (h : idxStr (tt t) x i = some v) (hx : SVR g w x vx) (hi : SVR g w i vi) :
    ∃ cv, (Instr.index t vx vi).run P w = .ok cv w ∧ SVR g w v cv ∧ svU U v := by
  unfold idxStr at h
  split at h
  · have ei := int_of hi
    subst ei
    obtain ⟨rfl, _⟩ := str_of hx
    split at h
    · rename_i hq
      obtain ⟨b, hb, rfl⟩ := Option.map_eq_some_iff.1 h
      refine ⟨_, ?_, SVR_int _ _, svU_c _⟩
      simp [Instr.index, asIntOf, run_und (isStr_und htt hq.2), hq.1, hb]
    · simp at h
  · simp at h
theorem load_ok (htt : ∀ t i, tt t = some i → TOk P t i) (hI : HI W g st.ob w) (hU : StU U st) {t : Nat} {x v : SV} {vx : Value} (h : loadV st (tt t) x = some v) (hx : SVR g w x vx) :
    ∃ cv, (Instr.loadAt t vx).run P w = .ok cv w ∧ SVR g w v cv ∧ svU U v := by
  unfold loadV at h
  split at h
  · rename_i k off
    split at h
    · rename_i tb cs hk
      obtain ⟨b, h1, rfl⟩ := hx
      have ho := hI.obs k
      rw [hk] at ho
      obtain ⟨b', vs, o1, o2, o3, o4, o5⟩ := ho
      have hb : b = b' := by rw [o1] at h1; simpa using h1.symm
      subst hb
      have hu := hU.ob k
      rw [hk] at hu
      have hc : CellsAt w b 0 vs := fun j u hj => by
        rw [Nat.zero_add, cell_of_row w b j vs.toArray tb (0, 0) o4]; simpa using hj
      have := cut_ok (P := P) htt h hc o5 hu
      simpa using this
    · simp at h
  · rename_i k m i off
    split at h
    · rename_i e m' xs d hk
      obtain ⟨x, hx1, h'⟩ := Option.bind_eq_some_iff.1 h
      obtain ⟨b, n, c, h1, rfl⟩ := hx
      obtain ⟨hm, cs, L, o1, o2, o3, o4, _⟩ := hI.deep hk
      split at h'
      · rename_i hmm
        subst hmm
        obtain ⟨c', L', a1, a2, a3, a4⟩ := o2.at hx1
        have hc : CellsAt w b (i * m) c' := fun j u hj => by
          have := o1.cells (g := b) (by simp [h1, Value.ownBlock]) (i * m + j) u (a4 j u hj)
          rw [add_lit0, Nat.zero_add] at this
          exact this
        exact cut_ok htt h' hc (a1.avr fun y my => o3 y (a3 y my)) (svU_cs true _)
      · simp at h'
    · simp at h
  · obtain ⟨b, lo, cs, L, rfl, h2, h3, h4, h5⟩ := hx
    exact cut_ok htt h h2 (h3.avr fun y my => h4 y (by simp [my])) (svU_cs true _)
  · simp at h
theorem ptr_ok {d : Nat} {x v : SV} {vx : Value} (h : ptrAdd d x = some v) (hx : SVR g w x vx) (hu : svU U x) : ∃ b o, vx = .pointer (some ⟨b, o, none⟩) ∧ SVR g w v (.pointer (some ⟨b, o + d, none⟩)) ∧ svU U v := by
  unfold ptrAdd at h
  split at h <;> simp at h <;> subst h
  · obtain ⟨b, h1, rfl⟩ := hx; exact ⟨b, _, rfl, ⟨b, h1, rfl⟩, hu⟩
  · obtain ⟨b, n, c, h1, rfl⟩ := hx; exact ⟨b, _, rfl, ⟨b, n, c, h1, by rw [Nat.add_assoc]⟩, hu⟩
  · obtain ⟨b, lo, cs, L, rfl, h⟩ := hx; exact ⟨b, _, rfl, ⟨b, lo, cs, L, by rw [Nat.add_assoc], h⟩, trivial⟩
theorem fad_ok (htt : ∀ t i, tt t = some i → TOk P t i) {t f n : Nat} {fs : List FI} {z : List AV} (hti : tt t = some (.strct fs n z)) {fi : FI} (hf : fs[f]? = some fi) {x v : SV} {vx : Value} (h : ptrAdd fi.off x = some v) (hx : SVR g w x vx) (hu : svU U x) :
    ∃ cv, (Instr.fieldAt t vx f).run P w = .ok cv w ∧ SVR g w v cv ∧ svU U v := by
  obtain ⟨b, o, rfl, h1, h2⟩ := ptr_ok h hx hu
  obtain ⟨fields, i, zvs, u1, _, _, _, _, u2⟩ := htt t _ hti
  obtain ⟨fl, e1, e2, e3, j, d, e4, e5, _⟩ := u2.at hf
  have e1' : fields[f]? = some fl := by simpa using e1
  refine ⟨_, ?_, h1, h2⟩
  simp [Instr.fieldAt, run_und u1, e1', Instr.sureAddr, fieldPlace, run_size e4, e5, e3, add_lit0, e2]
theorem fie_ok (htt : ∀ t i, tt t = some i → TOk P t i) {t f n : Nat} {fs : List FI} {z : List AV} (hti : tt t = some (.strct fs n z)) {x v : SV} {vx : Value} (h : fieldV fs f x = some v) (hx : SVR g w x vx) (hu : svU U x) :
    ∃ cv, (Instr.field t vx f).run P w = .ok cv w ∧ SVR g w v cv ∧ svU U v := by
  unfold fieldV at h
  split at h
  · rename_i cs
    obtain ⟨fi, hf, h⟩ := Option.bind_eq_some_iff.1 h
    obtain ⟨vs, rfl, hr⟩ := hx
    obtain ⟨fields, i, zvs, u1, _, _, _, _, u2⟩ := htt t _ hti
    obtain ⟨fl, e1, e2, e3, j, d, e4, e5, e6, e7⟩ := u2.at hf
    have e1' : fields[f]? = some fl := by simpa using e1
    have hlen := hr.len
    split at h
    · rename_i ha
      split at h <;> simp at h
      rename_i hn
      subst h
      refine ⟨.agg ((vs.drop fi.off).take fi.size).toArray, ?_, ⟨_, rfl, (hr.drop _).take _⟩, fun y m => hu y (List.mem_of_mem_drop (List.mem_of_mem_take m))⟩
      simp [Instr.field, run_und u1, e1', asAgg, part, run_agg e6, e7, ha, run_size e4, e5, e2]
    · rename_i ha
      obtain ⟨y, hy, rfl⟩ := Option.map_eq_some_iff.1 h
      obtain ⟨u, b1, b2⟩ := hr.at hy
      refine ⟨u, ?_, ⟨y, rfl, b2⟩, fun z mz => by simp at mz; subst mz; exact hu z (List.mem_of_getElem? hy)⟩
      simp [Instr.field, run_und u1, e1', asAgg, part, run_agg e6, e7, ha, e2, b1]
  · simp at h
theorem pick_ok {c : Bool} {x y : SV} {vc vx vy : Value} (hc : SVR g w (.p false [.c (.bool c)]) vc) (hx : SVR g w x vx ∧ svU U x) (hy : SVR g w y vy ∧ svU U y) :
    ∃ cv, (do pure (Next.value (if ← asBool vc then vx else vy)) : Sem Next).run P w = .ok (.value cv) w ∧ SVR g w (if c = true then x else y) cv ∧ svU U (if c = true then x else y) := by
  have := bool_of hc
  subst this
  cases c
  · exact ⟨vy, by simp [asBool], by simpa using hy.1, by simpa using hy.2⟩
  · exact ⟨vx, by simp [asBool], by simpa using hx.1, by simpa using hx.2⟩
theorem ext_ok {i : Nat} {x v : SV} {vx : Value} (h : extV i x = some v) (hx : SVR g w x vx) (hu : svU U x) : ∃ cv, (Instr.extract vx i).run P w = .ok cv w ∧ SVR g w v cv ∧ svU U v := by
  unfold extV at h
  split at h
  · obtain ⟨y, hy, rfl⟩ := Option.map_eq_some_iff.1 h
    obtain ⟨vs, rfl, hr⟩ := hx
    obtain ⟨u, b1, b2⟩ := hr.at hy
    exact ⟨u, by simp [Instr.extract, b1], b2, hu y (List.mem_of_getElem? hy)⟩
  · simp at h
theorem max_ok {lo : Bool} {x y v : SV} {vx vy : Value} {ts : Array TypeId} {ty : TypeId} (h : maxV lo x y = some v) (hx : SVR g w x vx) (hy : SVR g w y vy) :
    ∃ cv, ((if lo then Builtin.min_ ts ty #[vx, vy] else Builtin.max_ ts ty #[vx, vy]) : Sem Value).run P w = .ok cv w ∧ SVR g w v cv ∧ svU U v := by
  unfold maxV at h
  split at h
  · have ex := int_of hx
    have ey := int_of hy
    subst ex ey
    simp only [Option.some.injEq] at h
    subst h
    refine ⟨_, ?_, SVR_int _ _, svU_c _⟩
    cases lo
    · simp [Builtin.max_, Builtin.max2]
    · simp [Builtin.min_, Builtin.min2]
  · simp at h
end
end Go.Proofs.Ytfmplnebdldpdaa
