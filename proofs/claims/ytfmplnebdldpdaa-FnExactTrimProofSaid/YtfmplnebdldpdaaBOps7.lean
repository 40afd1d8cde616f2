/- Slice literals, make, append, stores into rows: the operations. -/
import Derived.Test.YtfmplnebdldpdaaBOps6
namespace Go.Proofs.Ytfmplnebdldpdaa
open Go.RowKit
theorem zip_range' {β : Type} : ∀ (is : List Nat) (vs : List β) (i : Nat), is = List.range' i vs.length → is.length = vs.length → (is.zip vs) = (List.range' i vs.length).zip vs
  | _, _, _, rfl, _ => rfl
section
variable {P : Program} {W : World} {U : Nat → Prop} {key : Nat} {st : St} {g : Gh} {w w' : World} {a : Act} {tt : Nat → Option TI}
theorem bsl_ok (htt : ∀ t i, tt t = some i → TOk P t i) (hI : HI W g st.ob w) (hS : ∀ t, SVR g w (st.sl t) (a.tmps.getD t undef)) (hU : StU U st) (hkey : ¬ U key) {t len e m bytes : Nat} {z : List AV} (hti : tt t = some (.slice e m bytes z)) {parts : Array (Nat × Operand)} {xs : List (List CT)} {ks : List Nat} {d : Bool}
    (h : elemsS st m (parts.toList.map fun p => st.ev tt e p.2) = some (xs, ks, d)) (hr : parts.toList.map (·.1) = List.range len) (hl : len * m ≤ 16777216) (hnd : ks.Nodup) {s : Sem Next} (hs : s = (do pure (.value (← Instr.buildSlice t len (parts.map fun (i, x) => (i, a.eval x)))))) :
    Fin P W U key st g w s (.p false [.row key], goneAll ks ++ [(key, .row e m xs d)]) := by
  obtain ⟨hu, hm, _, ⟨ie, zv, hie, hsz, hby, hz, hzc, hzl⟩, _⟩ := htt t _ hti
  have hall : All2 (fun s v => SVR g w s v ∧ svU U s) (parts.toList.map fun p => st.ev tt e p.2) (parts.toList.map fun p => a.eval p.2) := All2.of_map _ _ fun p _ => ev_ok htt hS hU e p.2
  obtain ⟨cs, L, c1, c2, c3, c4⟩ := elems_ok hI h hall
  have hlen : parts.toList.length = len := by have := congrArg List.length hr; simpa using this
  have hcl : cs.length = len := by rw [c1.len]; simpa using hlen
  have hxl : xs.length = len := by
    have h1 := c2.len
    have h2 : cs.flatten.length = len * m := by
      have : ∀ (cs : List (List Value)) (vs : List Value), All2 (fun (c : List Value) (v : Value) => v.cells = c.toArray ∧ c.length = m ∧ ∀ u ∈ c, u.oneCell' = true) cs vs → cs.flatten.length = cs.length * m := by
        intro cs
        induction cs with
        | nil => intro _ _; simp
        | cons c cs ih =>
          intro vs hh
          cases vs with
          | nil => exact hh.elim
          | cons v vs => simp [ih vs hh.2, hh.1.2.1, Nat.add_mul]; omega
      rw [this cs _ c1, hcl]
    rw [h2] at h1
    exact (Nat.eq_of_mul_eq_mul_right hm h1).symm
  have hparts : (parts.map fun x => match x with | (i, x) => (i, a.eval x)).toList = (List.range' 0 (parts.toList.map fun p => a.eval p.2).length).zip (parts.toList.map fun p => a.eval p.2) := by
    have e1 : (parts.map fun x => match x with | (i, x) => (i, a.eval x)).toList = (parts.toList.map (·.1)).zip (parts.toList.map fun p => a.eval p.2) := by
      rw [List.zip_map']; simp
    rw [e1, hr, List.range_eq_range']
    simp [hlen]
  have hrun : (Instr.buildSlice t len (parts.map fun (i, x) => (i, a.eval x))).run P w = .ok (.slice (some ⟨w.heap.size, 0, none⟩) len len) (w.alloc (.cells cs.flatten.toArray e)) := by
    have hcells : ∀ base : List Value, base.length = len * m → Instr.fill (fun i => some (i * m, m)) base.toArray (parts.map fun x => match x with | (i, x) => (i, a.eval x)).toList = some cs.flatten.toArray := fun base hb => by
      rw [hparts]
      have := fill_seq cs (parts.toList.map fun p => a.eval p.2) 0 [] base c1 (by simp) (by simpa [hlen] using hb)
      simpa using this
    by_cases h0 : len = 0
    · subst h0
      have hcs0 : cs = [] := List.eq_nil_of_length_eq_zero hcl
      subst hcs0
      have hp0 : parts = #[] := by
        have : parts.toList = [] := List.eq_nil_of_length_eq_zero hlen
        simpa using this
      subst hp0
      simp [Instr.buildSlice, run_und hu, run_size hie, Instr.fill, newRow, Array.range_zero']
    · have hpos : ¬ len * ie.size = 0 := by
        rw [hsz]; intro e; rcases Nat.mul_eq_zero.1 e with e | e <;> omega
      refine run_buildSlice w t e len _ _ ie zv hu hie hz (by rw [hsz]; omega) hpos ?_
      rw [hsz]
      have hb := hcells ((Array.range (len * m)).map (zv.cells[· % zv.cells.size]!)).toList (by simp)
      rw [Array.toArray_toList] at hb
      exact hb
  have hown := World.ownsRow_lit (base := W.heap.size) (e := e) (size := m) w cs.flatten.toArray len hI.below.size (by unfold maxLen; have := Nat.le_mul_of_pos_right len hm; omega) (by
    have h1 := c2.len
    rw [hxl] at h1
    simpa using h1)
  refine newRow_ok hI hU hkey hm (v := .slice (some ⟨w.heap.size, 0, none⟩) len len) (cs := cs.flatten) (w' := w.alloc (.cells cs.flatten.toArray e)) (by rw [hxl]; simpa using hown) rfl ((Below.refl _ _).alloc (Nat.le_refl _) _) ⟨_, _, heap_alloc_new w _⟩ c2 c3 c4 hnd ?_
  subst hs
  simp only [Sem.run_bind, hrun, Result.andThen_ok, Sem.run_pure]
theorem REs_replicate {m : Nat} {ze : List CT} {zc : List Value} (h : RCs w ze zc []) (hl : zc.length = m) : ∀ n : Nat, REs w m (List.replicate n ze) (List.replicate n zc).flatten []
  | 0 => by simp [REs]
  | n + 1 => by
    rw [List.replicate_succ, List.replicate_succ, List.flatten_cons]
    exact ⟨zc, _, [], [], rfl, rfl, ⟨h, hl⟩, REs_replicate h hl n⟩
theorem zCTs_ok : ∀ {z : List AV} {zs : List Value} {ze : List CT}, zCTs z = some ze → All2 (fun a v => constB a v = true) z zs → RCs w ze zs []
  | [], [], ze, h, _ => by simp [zCTs] at h; subst h; exact ⟨rfl, rfl⟩
  | [], _ :: _, _, _, h => h.elim
  | _ :: _, [], _, _, h => h.elim
  | .c x :: z, v :: zs, ze, h, hr => by
    simp only [zCTs] at h
    obtain ⟨b, h1, rfl⟩ := Option.map_eq_some_iff.1 h
    have hx := const_AVR (g := ⟨fun _ => undef, fun _ => [], fun _ => []⟩) (w := w) hr.1
    obtain ⟨L, hL, _⟩ := hx
    have hL0 : L = [] := by
      have := hr.1
      cases x with
      | int k n => exact hL.2
      | bool b => exact hL.2
      | str s => exact hL.2.1
      | sl e m xs => simp [constB] at this
    subst hL0
    exact ⟨v, zs, [], [], rfl, rfl, hL, zCTs_ok h1 hr.2⟩
  | .nil e m :: z, v :: zs, ze, h, hr => by
    simp only [zCTs] at h
    split at h
    · rename_i hm
      obtain ⟨b, h1, rfl⟩ := Option.map_eq_some_iff.1 h
      have hv : v = .slice none 0 0 := const_AVR (g := ⟨fun _ => undef, fun _ => [], fun _ => []⟩) (w := w) hr.1
      subst hv
      exact ⟨_, zs, [], [], rfl, rfl, ⟨none, 0, [], [], [], rfl, by simp, Nat.zero_le _, rfl, hm, Sl.zero, rfl, rfl⟩, zCTs_ok h1 hr.2⟩
    · simp at h
  | .row k :: z, v :: zs, ze, h, _ => by simp [zCTs] at h
  | .dead :: z, v :: zs, ze, h, _ => by simp [zCTs] at h
theorem made_flat (z : Array Value) (m : Nat) (hz : z.size = m) (hm : 0 < m) : ∀ n : Nat, (madeCells z (n * m)).toList = (List.replicate n z.toList).flatten
  | 0 => by simp [madeCells]
  | n + 1 => by
    have ih := made_flat z m hz hm n
    rw [List.replicate_succ', List.flatten_append, ← ih]
    simp only [madeCells, Array.toList_map, Array.toList_range, Nat.add_mul, Nat.one_mul, List.range_add, List.map_append, List.map_map, List.flatten_cons, List.flatten_nil, List.append_nil]
    congr 1
    apply List.ext_getElem?
    intro j
    by_cases hj : j < m
    · simp only [List.getElem?_map, List.getElem?_range hj, Option.map_some, Function.comp]
      have e : (n * m + j) % z.size = j := by
        rw [hz, Nat.add_comm, Nat.add_mul_mod_self_right, Nat.mod_eq_of_lt hj]
      have hjz : j < z.size := by omega
      simp [e, hjz]
    · have h1 : z.size ≤ j := by omega
      simp [hj, h1]
theorem make_ok (htt : ∀ t i, tt t = some i → TOk P t i) (hI : HI W g st.ob w) (hU : StU U st) (hkey : ¬ U key) {t e m bytes : Nat} {z : List AV} (hti : tt t = some (.slice e m bytes z)) {n : Nat} {ze : List CT} (hz : zCTs z = some ze) (hn : n ≤ 1073741824) {s : Sem Next}
    (hs : s = (do pure (.value (← Instr.makeSlice t (.int .i64 n) (.int .i64 n))))) : Fin P W U key st g w s (.p false [.row key], [(key, .row e m (List.replicate n ze) true)]) := by
  obtain ⟨hu, hm, hby0, ⟨ie, zv, hie, hsz, hby, hzz, hzc, hzl⟩, _⟩ := htt t _ hti
  have hb' : ie.bytes * n ≤ 281474976710656 := by
    have := Nat.mul_le_mul (show ie.bytes ≤ 131072 by omega) hn
    omega
  obtain ⟨w', r1, r2, r3⟩ := run_make_full (P := P) w W.heap.size t e ie zv m hu hie hzz hsz .i64 .i64 n hb' (by unfold maxLen; omega) hI.below.size
  have hzs : zv.cells.size = m := by rw [← hzl, hzc.len]; simp
  rw [made_flat zv.cells m hzs hm n] at r2
  have hre := REs_replicate (zCTs_ok (w := w) hz hzc) (by simpa using hzs) n
  have hb : Below w.heap.size w w' := (Below.refl _ _).grown r3 (Nat.le_refl _) (by simp)
  have hpl : ∃ cur e, w'.heap[w.heap.size]? = some (.cells cur e (0, 0)) := by
    rcases r2.2 with ⟨h', _⟩ | ⟨g', cap', cur, h', _, hg, _⟩
    · simp at h'
    · simp at h'
      rw [← h'.1] at hg
      exact ⟨cur, e, hg⟩
  have := newRow_ok (ks := []) (d := true) hI hU hkey hm (xs := List.replicate n ze) (by simpa using r2) rfl hb hpl hre (FP.nil _) (by simp) (by simp) (s := s) (P := P) (by subst hs; simp only [Sem.run_bind, r1, Result.andThen_ok, Sem.run_pure])
  simpa [goneAll] using this
theorem append_none {t e : TypeId} {ty : TypeId} {ie : TypeInfo} (hu : P.underlying t = some (.slice e)) (hie : P.info? e = some ie) (A B : Option Addr) (n c c' : Nat) (hnc : n ≤ c) :
    (Builtin.append_ #[t, t] ty #[.slice A n c, .slice B 0 c']).run P w = .ok (.slice A n c) w := by
  cases A <;> cases B <;> simp [Builtin.append_, run_und hu, run_size hie, Builtin.lenOf, Builtin.firstCells, loadCells, loadCellsFrom, storeCells, hnc]
theorem RCs_flat : ∀ {e : List CT} {cs : List Value} {L : List Nat}, RCs w e cs L → e.all CT.flat = true → L = []
  | [], _, _, h, _ => h.2
  | x :: r, _, _, ⟨v, cs', L1, L2, rfl, rfl, h1, h2⟩, hf => by
    simp only [List.all_cons, Bool.and_eq_true] at hf
    have e1 : L1 = [] := by
      cases x with
      | int k n => exact h1.2
      | bool b => exact h1.2
      | str s => exact h1.2.1
      | sl e m xs => simp [CT.flat] at hf
    rw [e1, RCs_flat h2 hf.2]; rfl
theorem REs_flat {m : Nat} : ∀ {xs : List (List CT)} {cs : List Value} {L : List Nat}, REs w m xs cs L → flatEs xs = true → L = []
  | [], _, _, h, _ => h.2
  | x :: r, _, _, ⟨c1, c2, L1, L2, rfl, rfl, h1, h2⟩, hf => by
    simp only [flatEs, List.all_cons, Bool.and_eq_true] at hf
    rw [RCs_flat h1.1 hf.1, REs_flat h2 hf.2]; rfl
theorem REs.append {m : Nat} : ∀ {xs ys : List (List CT)} {us vs : List Value} {L M : List Nat}, REs w m xs us L → REs w m ys vs M → REs w m (xs ++ ys) (us ++ vs) (L ++ M)
  | [], _, _, _, _, _, h, h' => by obtain ⟨rfl, rfl⟩ := h; simpa using h'
  | _ :: _, _, _, _, _, _, ⟨c1, c2, L1, L2, rfl, rfl, h3, h4⟩, h' => ⟨c1, c2 ++ _, L1, L2 ++ _, by simp, by simp, h3, h4.append h'⟩
theorem REs.one {m : Nat} : ∀ {xs : List (List CT)} {cs : List Value} {L : List Nat}, REs w m xs cs L → ∀ u ∈ cs, u.oneCell' = true
  | [], _, _, h => by simp [h.1]
  | _ :: _, _, _, ⟨c1, c2, L1, L2, rfl, rfl, h3, h4⟩ => fun u mu => by
    rcases List.mem_append.1 mu with mu | mu
    · exact h3.1.one u mu
    · exact h4.one u mu
/-- what is appended to -/
theorem dst_ok (hI : HI W g st.ob w) {x : SV} {v : Value} {e m : Nat} {xs : List (List CT)} {ks : List Nat} {d : Bool} (h : appDst st x = some (xs, ks, d)) (hok : dstOk st e m x = true) (hx : SVR g w x v) (hu : svU U x) :
    ∃ cs L, w.ownsRow W.heap.size e m v xs.length cs ∧ REs w m xs cs L ∧ (∀ b ∈ L, ¬ g.own b) ∧ (d = true → L = ks.flatMap g.D) ∧ v.ownBlock.toList = ks.flatMap g.O ∧ ∀ k ∈ ks, U k := by
  unfold appDst at h
  split at h
  · simp only [Option.some.injEq, Prod.mk.injEq] at h
    obtain ⟨rfl, rfl, rfl⟩ := h
    have := nil_of hx
    subst this
    exact ⟨[], [], World.ownsRow_nil _ _ _ _, ⟨rfl, rfl⟩, by simp, by simp, by simp [Value.ownBlock], by simp⟩
  · rename_i k
    split at h
    · rename_i e' m' xs' d' hk
      simp only [Option.some.injEq, Prod.mk.injEq] at h
      obtain ⟨rfl, rfl, rfl⟩ := h
      simp only [dstOk, hk, Bool.and_eq_true, beq_iff_eq] at hok
      obtain ⟨rfl, rfl⟩ := hok
      have := row_of hx
      subst this
      obtain ⟨hm, cs, L, o1, o2, o3, o4, o5⟩ := hI.deep hk
      refine ⟨cs, L, o1, o2, o3, fun hd => ?_, by simp [o4], fun q mq => by simp at mq; subst mq; exact hu (.row q) (by simp)⟩
      rcases o5 with ⟨_, o5⟩ | ⟨o5, _⟩
      · simp [o5]
      · simp [hd] at o5
    · simp at h
  · simp at h
/-- what is appended -/
theorem src_ok (hI : HI W g st.ob w) {x : SV} {v : Value} {m : Nat} {xs : List (List CT)} {ks : List Nat} {d : Bool} (h : appSrc st x = some (xs, ks, d)) (hok : srcOk st m x = true) (hx : SVR g w x v) (hu : svU U x) :
    ∃ A c cs L, v = .slice A xs.length c ∧ REs w m xs cs L ∧ (0 < xs.length → ∃ b off, A = some ⟨b, off, none⟩ ∧ CellsAt w b off cs) ∧ (∀ b ∈ L, ¬ g.own b) ∧ (d = true → L.Sublist (ks.flatMap g.D)) ∧ ∀ k ∈ ks, U k := by
  unfold appSrc at h
  split at h
  · simp only [Option.some.injEq, Prod.mk.injEq] at h
    obtain ⟨rfl, rfl, rfl⟩ := h
    simp only [srcOk, beq_iff_eq] at hok
    subst hok
    obtain ⟨A, cap, cs, L0, L1, rfl, h2, h3, h5, h6, h7, ho⟩ := slice_of hx
    refine ⟨A, cap, cs, L1, rfl, h7, fun hp => ?_, fun b mb => ho b (by simp [mb]), fun hd => by rw [REs_flat h7 hd]; simp, by simp⟩
    obtain ⟨b, off, h8, _, h9⟩ := h6.at_ hp
    exact ⟨b, off, h8, h9⟩
  · simp only [Option.some.injEq, Prod.mk.injEq] at h
    obtain ⟨rfl, rfl, rfl⟩ := h
    have := nil_of hx
    subst this
    exact ⟨none, 0, [], [], rfl, ⟨rfl, rfl⟩, by simp, by simp, by simp, by simp⟩
  · rename_i k
    split at h
    · rename_i e' m' xs' d' hk
      simp only [Option.some.injEq, Prod.mk.injEq] at h
      obtain ⟨rfl, rfl, rfl⟩ := h
      simp only [srcOk, hk, beq_iff_eq] at hok
      subst hok
      have := row_of hx
      subst this
      obtain ⟨hm, cs, L, o1, o2, o3, o4, o5⟩ := hI.deep hk
      obtain ⟨A, cap, L0, s1, s2, s3, s4, s5⟩ := Sl.row o1
      refine ⟨A, cap, cs, L, s1, o2, fun hp => ?_, o3, fun hd => ?_, fun q mq => by simp at mq; subst mq; exact hu (.row q) (by simp)⟩
      · obtain ⟨b, off, h8, _, h9⟩ := s4.at_ hp
        exact ⟨b, off, h8, h9⟩
      · rcases o5 with ⟨_, o5⟩ | ⟨o5, _⟩
        · simp [o5]
        · simp [hd] at o5
    · simp at h
  · simp at h
theorem flat_OD (ks : List Nat) : ∀ b, b ∈ ks.flatMap g.O ∨ b ∈ ks.flatMap g.D → b ∈ g.F ks := fun b h => by
  simp only [Gh.F, List.mem_flatMap, List.mem_append] at h ⊢
  rcases h with ⟨k, h1, h2⟩ | ⟨k, h1, h2⟩
  · exact ⟨k, h1, .inl h2⟩
  · exact ⟨k, h1, .inr h2⟩
theorem HI.nodupD {ob : Nat → Ob} (hI : HI W g ob w) : ∀ {ks : List Nat}, ks.Nodup → (ks.flatMap g.D).Nodup
  | [], _ => by simp
  | k :: ks, h => by
    simp only [List.flatMap_cons, List.nodup_append]
    rw [List.nodup_cons] at h
    refine ⟨(List.nodup_append.1 (hI.nodup k)).2.1, hI.nodupD h.2, fun x hx y hy e => ?_⟩
    subst e
    obtain ⟨j, hj, hy⟩ := List.mem_flatMap.1 hy
    exact hI.apart k j (fun e => h.1 (e ▸ hj)) x (by simp [hx]) (by simp [hy])
theorem app_ok (htt : ∀ t i, tt t = some i → TOk P t i) (hI : HI W g st.ob w) (hU : StU U st) (hkey : ¬ U key) {t : Nat} {s x : SV} {vs vx : Value} {r : SV × List (Nat × Ob)} (h : appV st key (tt t) s x = some r) (hs : SVR g w s vs ∧ svU U s) (hx : SVR g w x vx ∧ svU U x) {ty : TypeId} {q : Sem Next}
    (hq : q = (do pure (.value (← Builtin.append_ #[t, t] ty #[vs, vx])))) : Fin P W U key st g w q r := by
  unfold appV at h
  split at h
  · rename_i e m bytes z hti
    obtain ⟨⟨xs, k1, d1⟩, h1, h⟩ := Option.bind_eq_some_iff.1 h
    obtain ⟨⟨ys, k2, d2⟩, h2, h⟩ := Option.bind_eq_some_iff.1 h
    split at h
    · rename_i hc
      simp only [Option.some.injEq] at h
      subst h
      obtain ⟨hc1, hc2, hc3, hc4⟩ := hc
      simp only at hc3 hc4
      obtain ⟨hu, hm, hby0, ⟨ie, zv, hie, hsz, hby, hzz, hzc, hzl⟩, _⟩ := htt t _ hti
      obtain ⟨cs, Lx, a1, a2, a3, a4, a5, a6⟩ := dst_ok hI h1 hc1 hs.1 hs.2
      obtain ⟨A, c, news, Ly, b0, b1, b2, b3, b4, b5⟩ := src_ok hI h2 hc2 hx.1 hx.2
      subst b0
      obtain ⟨A1, cap1, hv1, hv2, hv3⟩ := own_slice a1
      have hnl : news.length = ys.length * m := b1.len
      -- what the append gives
      obtain ⟨v', w', r1, r2, r3, r4⟩ : ∃ v' w', (Builtin.append_ #[t, t] ty #[vs, .slice A ys.length c]).run P w = .ok v' w' ∧ w'.ownsRow W.heap.size e m v' (xs.length + ys.length) (cs ++ news) ∧ w.grownBy w' vs.ownBlock ∧ (v'.ownBlock = vs.ownBlock ∨ v'.ownBlock = some w.heap.size) := by
        by_cases hy : ys.length = 0
        · have hn0 : news = [] := List.eq_nil_of_length_eq_zero (by rw [hnl, hy]; simp)
          refine ⟨vs, w, ?_, by rw [hn0, hy, List.append_nil]; exact a1, World.grownBy.refl _ _, .inl rfl⟩
          rw [hv1, hy]
          exact append_none hu hie A1 A _ _ _ hv2
        · obtain ⟨b, off, rfl, hcell⟩ := b2 (by omega)
          have hbytes : (xs.length + ys.length) * bytes ≤ 140737488355328 := by
            have := Nat.mul_le_mul hc4 hby0
            omega
          obtain ⟨v', w', q1, q2, q3, _, q5⟩ := run_append_own_at (P := P) w W.heap.size t ty e ie zv m bytes hu hie hzz hsz hby (by rw [← hzl, hzc.len]; simp) hm vs xs.length cs a1 ⟨b, off, none⟩ ys.length c news hnl
            (fun j u hj => by rw [add_lit0]; exact hcell j u hj) b1.one (by unfold maxLen; omega) hbytes hI.below.size
          exact ⟨v', w', q1, q2, q3, q5⟩
      have hnot : ∀ b, ¬ g.own b → some b ≠ vs.ownBlock := fun b hn e => hn (by
        have : b ∈ vs.ownBlock.toList := by simp [← e]
        rw [a5] at this
        obtain ⟨k, _, mk⟩ := List.mem_flatMap.1 this
        exact ⟨k, mk⟩)
      have hkeepL : ∀ b ∈ Lx ++ Ly, w'.heap[b]? = w.heap[b]? := fun b mb => by
        rcases List.mem_append.1 mb with mb | mb
        · exact r3.block b (a2.lt b mb) (hnot b (a3 b mb))
        · exact r3.block b (b1.lt b mb) (hnot b (b3 b mb))
      have hREs : REs w' m (xs ++ ys) (cs ++ news) (Lx ++ Ly) := (a2.keep fun b mb => hkeepL b (by simp [mb])).append (b1.keep fun b mb => hkeepL b (by simp [mb]))
      have hOwn : ∀ b ∈ v'.ownBlock.toList, b ∈ k1.flatMap g.O ∨ b = w.heap.size := fun b mb => by
        rcases r4 with r4 | r4
        · rw [r4, a5] at mb; exact .inl mb
        · rw [r4] at mb; simp at mb; exact .inr mb
      have hDsub : (d1 && d2) = true → (Lx ++ Ly).Sublist ((k1 ++ k2).flatMap g.D) := fun hd => by
        simp only [Bool.and_eq_true] at hd
        rw [List.flatMap_append]
        exact List.Sublist.append (by rw [a4 hd.1]; exact List.Sublist.refl _) (b4 hd.2)
      have hDm : ∀ b ∈ (if (d1 && d2) = true then Lx ++ Ly else []), b ∈ Lx ++ Ly ∧ (d1 && d2) = true := fun b mb => by
        split at mb
        · rename_i hd; exact ⟨mb, hd⟩
        · simp at mb
      have hbel : Below W.heap.size W w' := by
        refine ⟨r3.os.trans hI.below.os, r3.tape.trans hI.below.tape, r3.output.trans hI.below.output, Nat.le_trans hI.below.size r3.size, fun b hb => ?_⟩
        rw [r3.block b (Nat.lt_of_lt_of_le hb hI.below.size) fun e => ?_]
        · exact hI.below.block b hb
        · have : b ∈ vs.ownBlock.toList := by simp [← e]
          rw [a5] at this
          obtain ⟨k, _, mk⟩ := List.mem_flatMap.1 this
          have := (hI.plain k b (by simp [mk])).1
          omega
      obtain ⟨t1, t2⟩ := hI.turn (key := key) (U := U) (w' := w') (v := v') (O := v'.ownBlock.toList) (D := if (d1 && d2) = true then Lx ++ Ly else []) (o := .row e m (xs ++ ys) (d1 && d2)) hU.ob hkey (k1 ++ k2)
        (fun k mk => (List.mem_append.1 mk).elim (a6 k) (b5 k)) hbel r3.size (fun b hb hn => r3.block b hb fun e => by
          have : b ∈ vs.ownBlock.toList := by simp [← e]
          rw [a5] at this
          obtain ⟨k, hk, mk⟩ := List.mem_flatMap.1 this
          exact hn k (by simp [hk]) mk)
        (fun b mb => by
          rcases hOwn b mb with mb | rfl
          · obtain ⟨k, hk, mk⟩ := List.mem_flatMap.1 mb
            exact .inl ⟨k, by simp [hk], mk⟩
          · exact .inr (Nat.le_refl _))
        (fun b mb => by
          obtain ⟨m1, m2⟩ := hDm b mb
          obtain ⟨k, hk, mk⟩ := List.mem_flatMap.1 ((hDsub m2).subset m1)
          exact .inl ⟨k, hk, by simp [mk]⟩)
        (by
          rw [List.nodup_append]
          refine ⟨by cases v'.ownBlock <;> simp, ?_, fun b mb b' mb' e => ?_⟩
          · split
            · rename_i hd; exact (hI.nodupD hc3).sublist (hDsub hd)
            · simp
          · subst e
            obtain ⟨m1, m2⟩ := hDm b mb'
            rcases hOwn b mb with mb | rfl
            · obtain ⟨k, _, mk⟩ := List.mem_flatMap.1 mb
              rcases List.mem_append.1 m1 with m1 | m1
              · exact a3 b m1 ⟨k, mk⟩
              · exact b3 b m1 ⟨k, mk⟩
            · rcases List.mem_append.1 m1 with m1 | m1
              · have := a2.lt _ m1; omega
              · have := b1.lt _ m1; omega)
        (fun b mb => by
          rcases List.mem_append.1 mb with mb | mb
          · rcases r2.2 with ⟨h', _⟩ | ⟨g', cap', cur, h', hg0, hg, _⟩
            · simp [h', Value.ownBlock] at mb
            · simp [h', Value.ownBlock] at mb
              subst mb
              exact ⟨hg0, cur, e, hg⟩
          · obtain ⟨m1, m2⟩ := hDm b mb
            obtain ⟨k, hk, mk⟩ := List.mem_flatMap.1 ((hDsub m2).subset m1)
            obtain ⟨p1, cur, e', p2⟩ := hI.plain k b (by simp [mk])
            exact ⟨p1, cur, e', by rw [hkeepL b m1]; exact p2⟩)
        (fun hown => ⟨hm, cs ++ news, Lx ++ Ly, by simpa [Gh.turn, upd] using r2, hREs, by simp [Gh.turn, upd], by
          cases hd : (d1 && d2) with
          | true => exact .inl ⟨rfl, by simp [Gh.turn]⟩
          | false =>
            refine .inr ⟨rfl, by simp [Gh.turn], fun b mb ho => ?_⟩
            rcases turn_own ho with mo | ⟨k, _, _, mk⟩
            · rcases hOwn b mo with mo | rfl
              · obtain ⟨k, _, mk⟩ := List.mem_flatMap.1 mo
                rcases List.mem_append.1 mb with m1 | m1
                · exact a3 b m1 ⟨k, mk⟩
                · exact b3 b m1 ⟨k, mk⟩
              · rcases List.mem_append.1 mb with m1 | m1
                · have := a2.lt _ m1; omega
                · have := b1.lt _ m1; omega
            · rcases List.mem_append.1 mb with m1 | m1
              · exact a3 b m1 ⟨k, mk⟩
              · exact b3 b m1 ⟨k, mk⟩⟩)
      have hwf := wf_turn (key := key) (o := .row e m (xs ++ ys) (d1 && d2)) hU (k1 ++ k2) trivial
      refine ⟨_, v', w', .inl (by subst hq; simp only [Sem.run_bind, r1, Result.andThen_ok, Sem.run_pure]), t1, ⟨_, rfl, ⟨by simp [Gh.turn, upd], ?_⟩⟩, t2, fun y my => by simp at my; subst my; exact key_in, hwf.1, hwf.2⟩
      obtain ⟨A2, cap2, hv'⟩ := own_val r2
      simp [hv', Value.oneCell']
    · simp at h
  · simp at h
end
end Go.Proofs.Ytfmplnebdldpdaa
