/- Struct literals; parts of texts and slices. -/
import Derived.Test.YtfmplnebdldpdaaBOps3
import Derived.Laws.Tables
namespace Go.Proofs.Ytfmplnebdldpdaa
open Go.RowKit
theorem splice_len {α : Type} (l : List α) (off : Nat) (vs : List α) (h : off + vs.length ≤ l.length) : (splice l off vs).length = l.length := by
  simp [splice]; omega
theorem splice_cons {α : Type} (l : List α) (n : Nat) (v : α) (r : List α) (h : n + (r.length + 1) ≤ l.length) : splice (l.set n v) (n + 1) r = splice l n (v :: r) := by
  unfold splice
  have e1 : (l.set n v).take (n + 1) = l.take n ++ [v] := by
    rw [List.take_succ_eq_append_getElem (by simp; omega)]
    simp [List.take_set_of_le]
  have e2 : (l.set n v).drop (n + 1 + r.length) = l.drop (n + (v :: r).length) := by
    rw [List.drop_set_of_lt (by omega)]
    congr 1
    simp; omega
  rw [e1, e2]; simp
theorem foldl_set (off : Nat) : ∀ (vs : List Value) (k : Nat) (cells : Array Value), off + k + vs.length ≤ cells.size →
    (vs.zipIdx k).foldl (fun (cs : Array Value) (p : Value × Nat) => cs.setIfInBounds (off + p.2) p.1) cells = (splice cells.toList (off + k) vs).toArray
  | [], k, cells, h => by simp [splice]
  | v :: r, k, cells, h => by
    rw [List.zipIdx_cons, List.foldl_cons, foldl_set off r (k + 1) _ (by simp at h ⊢; omega)]
    have := splice_cons cells.toList (off + k) v r (by simpa using h)
    rw [← this]
    simp [Nat.add_assoc]
theorem fold_cells (off : Nat) (v : Value) (vs : List Value) (hv : v.cells = vs.toArray) (cells : Array Value) (h : off + vs.length ≤ cells.size) :
    v.cells.zipIdx.foldl (fun cs (c, j) => cs.setIfInBounds (off + j) c) cells = (splice cells.toList off vs).toArray := by
  have := foldl_set off vs 0 cells (by simpa using h)
  rw [hv, ← Array.foldl_toList]
  simpa using this
section
variable {P : Program} {W : World} {U : Nat → Prop} {key : Nat} {st : St} {g : Gh} {w : World} {a : Act} {tt : Nat → Option TI}
theorem All2.splice {α β : Type} {R : α → β → Prop} {l vs : List α} {r us : List β} (h : All2 R l r) (h' : All2 R vs us) (off : Nat) : All2 R (splice l off vs) (splice r off us) := by
  unfold Go.Proofs.Ytfmplnebdldpdaa.splice
  rw [h'.len]
  exact (h.take _).append (h'.append (h.drop _))
theorem avsU_splice {l vs : List AV} (h : avsU U l) (h' : avsU U vs) (off : Nat) : avsU U (splice l off vs) := by
  intro y m
  unfold splice at m
  rcases List.mem_append.1 m with m | m
  · exact h y (List.mem_of_mem_take m)
  · rcases List.mem_append.1 m with m | m
    · exact h' y m
    · exact h y (List.mem_of_mem_drop m)
theorem fill_ok {place : Nat → Option (Nat × Nat)} {fs : List FI} (hp : ∀ i fi, fs[i]? = some fi → place i = some (fi.off, fi.size)) :
    ∀ {parts : List (Nat × SV)} {ps : List (Nat × Value)} {cs cs' : List AV} {vs : List Value}, fillS fs cs parts = some cs' → All2 (fun p q => p.1 = q.1 ∧ SVR g w p.2 q.2 ∧ svU U p.2) parts ps → All2 (AVR g w) cs vs → avsU U cs →
      ∃ vs' : List Value, Instr.fill place vs.toArray ps = some vs'.toArray ∧ All2 (AVR g w) cs' vs' ∧ avsU U cs'
  | [], [], cs, cs', vs, h, _, hr, hu => by simp [fillS] at h; subst h; exact ⟨vs, rfl, hr, hu⟩
  | [], _ :: _, _, _, _, _, h, _, _ => h.elim
  | _ :: _, [], _, _, _, _, h, _, _ => h.elim
  | (i, s) :: r, (j, v) :: ps, cs, cs', vs, h, ⟨⟨e, hs, hsu⟩, hps⟩, hr, hu => by
    simp only at e hs hsu
    subst e
    cases s with
    | p ag us =>
      simp only [fillS] at h
      obtain ⟨f, hf, h⟩ := Option.bind_eq_some_iff.1 h
      split at h
      · rename_i hl
        obtain ⟨us', c1, c2⟩ := PVR.cells hs
        have hlen := c2.len
        have hlen2 := hr.len
        obtain ⟨vs', d1, d2, d3⟩ := fill_ok hp h hps (hr.splice c2 f.off) (avsU_splice hu hsu f.off)
        refine ⟨vs', ?_, d2, d3⟩
        have hcs : v.cells.size = us'.length := by simp [c1]
        rw [Instr.fill, hp i f hf]
        simp only
        rw [if_neg (by simp [hcs]; omega), fold_cells f.off v us' c1 _ (by simp; omega)]
        simpa using d1
      · simp at h
    | _ => simp [fillS] at h
theorem All2.map_right {α β γ : Type} {R : α → γ → Prop} {f : β → γ} : ∀ {l : List α} {r : List β}, All2 (fun a b => R a (f b)) l r → All2 R l (r.map f)
  | [], [], _ => trivial
  | _ :: _, _ :: _, h => ⟨h.1, h.2.map_right⟩
  | [], _ :: _, h => h.elim
  | _ :: _, [], h => h.elim
theorem All2.of_map {α β γ : Type} {R : β → γ → Prop} (f : α → β) (h : α → γ) : ∀ {l : List α}, (∀ x ∈ l, R (f x) (h x)) → All2 R (l.map f) (l.map h)
  | [], _ => trivial
  | x :: l, hh => ⟨hh x (by simp), All2.of_map f h fun y m => hh y (by simp [m])⟩
theorem consts_AVR : ∀ {z : List AV} {zvs : List Value}, All2 (fun a v => constB a v = true) z zvs → All2 (AVR g w) z zvs ∧ avsU U z
  | [], [], _ => ⟨trivial, fun _ m => by simp at m⟩
  | x :: z, v :: zvs, h => by
    obtain ⟨h1, h2⟩ := consts_AVR (z := z) (zvs := zvs) h.2
    refine ⟨⟨const_AVR h.1, h1⟩, fun y m => ?_⟩
    rcases List.mem_cons.1 m with rfl | m
    · have := h.1
      cases y <;> first | trivial | simp [constB] at this
    · exact h2 y m
  | [], _ :: _, h => h.elim
  | _ :: _, [], h => h.elim
theorem places_ok : ∀ {fs : List FI} {fields : List Field}, All2 (fun (fi : FI) (f : Field) => f.offset = fi.off ∧ fi.size ≠ 0 ∧ ∃ j d, P.info? f.type = some j ∧ j.size = fi.size ∧ P.underlying f.type = some d ∧ aggD d = fi.agg) fs fields →
    fields.mapM (fun f => (P.info? f.type).map fun i => (f.offset, i.size)) = some (fs.map fun fi => (fi.off, fi.size))
  | [], [], _ => rfl
  | fi :: fs, f :: fields, ⟨⟨h1, _, j, d, h2, h3, _⟩, h⟩ => by
    simp [List.mapM_cons, h2, h3, h1, places_ok h]
  | [], _ :: _, h => h.elim
  | _ :: _, [], h => h.elim
theorem build_ok (htt : ∀ t i, tt t = some i → TOk P t i) (hS : ∀ t, SVR g w (st.sl t) (a.tmps.getD t undef)) (hU : StU U st) {t n : Nat} {fs : List FI} {z : List AV} (hti : tt t = some (.strct fs n z)) {parts : Array (Nat × Operand)} {cs : List AV} (h : fillS fs z (parts.toList.map (partS tt st fs z)) = some cs) :
    ∃ cv, (Instr.build t (parts.map fun (i, x) => (i, a.eval x))).run P w = .ok cv w ∧ SVR g w (.p true cs) cv ∧ svU U (.p true cs) := by
  obtain ⟨fields, i, zvs, u1, u2, u3, u4, u5, u6⟩ := htt t _ hti
  obtain ⟨hz, hzu⟩ := consts_AVR (g := g) (w := w) (U := U) u5
  have hparts : All2 (fun (p : Nat × SV) (q : Nat × Value) => p.1 = q.1 ∧ SVR g w p.2 q.2 ∧ svU U p.2) (parts.toList.map (partS tt st fs z)) (parts.toList.map fun p => (p.1, a.eval p.2)) := by
    refine All2.of_map _ _ fun p _ => ?_
    unfold partS
    split
    · rename_i hc
      rw [hc]
      refine ⟨rfl, ?_⟩
      dsimp only
      split
      · exact ⟨⟨_, rfl, rfl⟩, fun y m => by simp at m; subst m; trivial⟩
      · exact ⟨trivial, trivial⟩
    · have := ev_ok htt hS hU 0 p.2
      exact ⟨rfl, this⟩
  have hpl : ∀ (i : Nat) (fi : FI), fs[i]? = some fi → ((fs.map fun (fi : FI) => (fi.off, fi.size)).toArray[i]?) = some (fi.off, fi.size) := fun i fi hf => by simp [hf]
  obtain ⟨vs', d1, d2, d3⟩ := fill_ok hpl h hparts hz hzu
  refine ⟨.agg vs'.toArray, run_build w t _ _ ?_, ⟨vs', rfl, d2⟩, d3⟩
  unfold Program.built
  simp only [u1, u2, u4, places_ok u6]
  have e : (parts.map fun (x : Nat × Operand) => (x.1, a.eval x.2)).toList = parts.toList.map fun p => (p.1, a.eval p.2) := by simp
  have e2 : (parts.map fun x => match x with | (i, x) => (i, a.eval x)) = parts.map fun (x : Nat × Operand) => (x.1, a.eval x.2) := rfl
  rw [e2, e]
  exact d1
theorem Sl.sub {m n : Nat} {A : Option Addr} {cs : List Value} {L : List Nat} (h : Sl w m A n cs L) (l q cap : Nat) (hm : 0 < m) (hq : l + q ≤ n) (hcap : n ≤ cap) :
    ∃ A' L', A' = (if cap = l then A else A.map (·.add (l * m))) ∧ Sl w m A' q ((cs.drop (l * m)).take (q * m)) L' ∧ ∀ b ∈ L', b ∈ L := by
  have hlen := h.1
  have hlm : l * m + q * m ≤ n * m := by rw [← Nat.add_mul]; exact Nat.mul_le_mul_right m hq
  refine ⟨_, if q = 0 then [] else L, rfl, ⟨by simp; omega, ?_⟩, fun b mb => ?_⟩
  · by_cases hq0 : q = 0
    · exact .inl ⟨hq0, by simp [hq0]⟩
    · rcases h.2 with ⟨h0, _⟩ | ⟨_, b, off, rfl, rfl, hc⟩
      · omega
      · refine .inr ⟨by omega, b, off + l * m, by rw [if_neg (by omega)]; simp [add_lit0], by simp [hq0], fun j u hj => ?_⟩
        rw [Nat.add_assoc]
        refine hc _ u ?_
        have hjq : j < q * m := by
          have := (List.getElem?_eq_some_iff.1 hj).1
          simp at this; omega
        rw [List.getElem?_take, if_pos hjq, List.getElem?_drop] at hj
        exact hj
  · split at mb
    · simp at mb
    · exact mb
theorem REs.drop {m : Nat} : ∀ {xs : List (List CT)} {cs : List Value} {L : List Nat} (l : Nat), REs w m xs cs L → ∃ L', REs w m (xs.drop l) (cs.drop (l * m)) L' ∧ ∀ b ∈ L', b ∈ L
  | xs, cs, L, 0, h => ⟨L, by simpa using h, fun _ mb => mb⟩
  | [], cs, L, l + 1, h => ⟨[], by obtain ⟨rfl, rfl⟩ := h; simp [REs], by simp⟩
  | x :: r, _, _, l + 1, ⟨c1, c2, L1, L2, rfl, rfl, h3, h4⟩ => by
    obtain ⟨L', h5, h6⟩ := REs.drop l h4
    refine ⟨L', ?_, fun b mb => by simp [h6 b mb]⟩
    have e : (l + 1) * m = c1.length + l * m := by rw [h3.2, Nat.add_mul]; omega
    have e2 : (c1 ++ c2).drop (c1.length + l * m) = c2.drop (l * m) := by
      rw [List.drop_append, List.drop_of_length_le (Nat.le_add_right _ _), List.nil_append, Nat.add_sub_cancel_left]
    rw [e, e2]
    simpa using h5
theorem REs.take {m : Nat} : ∀ {xs : List (List CT)} {cs : List Value} {L : List Nat} (l : Nat), REs w m xs cs L → ∃ L', REs w m (xs.take l) (cs.take (l * m)) L' ∧ ∀ b ∈ L', b ∈ L
  | xs, cs, L, 0, h => ⟨[], by simp [REs], by simp⟩
  | [], cs, L, l + 1, h => ⟨[], by obtain ⟨rfl, rfl⟩ := h; simp [REs], by simp⟩
  | x :: r, _, _, l + 1, ⟨c1, c2, L1, L2, rfl, rfl, h3, h4⟩ => by
    obtain ⟨L', h5, h6⟩ := REs.take l h4
    refine ⟨L1 ++ L', ?_, fun b mb => by
      rcases List.mem_append.1 mb with mb | mb
      · simp [mb]
      · simp [h6 b mb]⟩
    have e : (l + 1) * m = c1.length + l * m := by rw [h3.2, Nat.add_mul]; omega
    rw [e, List.take_length_add_append]
    exact ⟨c1, _, L1, L', rfl, rfl, h3, h5⟩
theorem bound_run {k : IntKind} {i : Int} {y : Nat} {code : BoundsCode} (h0 : 0 ≤ i) (h1 : i ≤ y) : (Instr.sliceBound (.int k i) y code).run P w = .ok i.toNat w := by
  simp [Instr.sliceBound, asIntOf, h0, h1]
def optR (g : Gh) (w : World) : Option SV → Option Value → Prop
  | none, none => True
  | some s, some u => SVR g w s u
  | _, _ => False
theorem bounds_run {lo hi : Option SV} {vlo vhi : Option Value} {len cap l h : Nat} {b : Bool} (hh : hiB len hi = some h) (hl : loB h lo = some l) (hlo : optR g w lo vlo) (hhi : optR g w hi vhi) (hc : len ≤ cap) :
    (Instr.sliceBounds b len cap vlo vhi none).run P w = .ok (l, h, cap) w ∧ l ≤ h ∧ h ≤ len := by
  have e1 : ((match vhi, (none : Option Value) with | some v, some _ => Instr.sliceBound v cap .slice3B | some v, none => Instr.sliceBound v cap (if b then .sliceAcap else .sliceAlen) | none, none => pure len | none, some _ => stuck "Slice: max without high") : Sem Nat).run P w = .ok h w ∧ h ≤ len := by
    unfold hiB at hh
    split at hh
    · simp only [Option.some.injEq] at hh
      subst hh
      cases vhi with
      | none => exact ⟨rfl, Nat.le_refl _⟩
      | some v => exact hhi.elim
    · split at hh <;> simp only [Option.some.injEq, reduceCtorEq] at hh
      rename_i hq
      subst hh
      cases vhi with
      | none => exact hhi.elim
      | some v =>
        have e := int_of hhi
        subst e
        exact ⟨bound_run hq.1 (by omega), by omega⟩
    · simp at hh
  have e2 : ((match vlo with | some v => Instr.sliceBound v h .sliceB | none => pure 0) : Sem Nat).run P w = .ok l w ∧ l ≤ h := by
    unfold loB at hl
    split at hl
    · simp only [Option.some.injEq] at hl
      subst hl
      cases vlo with
      | none => exact ⟨rfl, Nat.zero_le _⟩
      | some v => exact hlo.elim
    · split at hl <;> simp only [Option.some.injEq, reduceCtorEq] at hl
      rename_i hq
      subst hl
      cases vlo with
      | none => exact hlo.elim
      | some v =>
        have e := int_of hlo
        subst e
        exact ⟨bound_run hq.1 hq.2, by omega⟩
    · simp at hl
  refine ⟨?_, e2.2, e1.2⟩
  unfold Instr.sliceBounds
  simp only [Sem.run_bind, Sem.run_pure, Result.andThen_ok, Option.isSome_none, Bool.false_eq_true, if_false]
  have e1' := e1.1
  have e2' := e2.1
  cases vhi <;> cases vlo <;> simp_all
theorem slice_ok (htt : ∀ t i, tt t = some i → TOk P t i) {t : Nat} {x v : SV} {lo hi : Option SV} {vx : Value} {vlo vhi : Option Value} (h : sliceV (tt t) lo hi x = some v) (hx : SVR g w x vx)
    (hlo : optR g w lo vlo) (hhi : optR g w hi vhi) : ∃ cv, (Instr.sliceAt t vx vlo vhi none).run P w = .ok cv w ∧ SVR g w v cv ∧ svU U v := by
  unfold sliceV at h
  split at h
  · rename_i s
    split at h
    · rename_i hstr
      have hu := isStr_und htt hstr
      obtain ⟨q, hq, h⟩ := Option.bind_eq_some_iff.1 h
      obtain ⟨l, hl, rfl⟩ := Option.map_eq_some_iff.1 h
      obtain ⟨rfl, hs⟩ := str_of hx
      obtain ⟨b1, b2, b3⟩ := bounds_run (P := P) (b := false) hq hl hlo hhi (Nat.le_refl _)
      refine ⟨_, ?_, SVR_str (by rw [ByteArray.size_extract]; omega), svU_c _⟩
      simp [Instr.sliceAt, run_und hu, Instr.slice, b1]
    · simp at h
  · rename_i e m xs
    split at h
    · rename_i hsz
      obtain ⟨q, hq, h⟩ := Option.bind_eq_some_iff.1 h
      obtain ⟨l, hl, rfl⟩ := Option.map_eq_some_iff.1 h
      obtain ⟨A, cap, cs, L0, L1, rfl, h2, h3, h5, h6, h7, ho⟩ := slice_of hx
      obtain ⟨b1, b2, b3⟩ := bounds_run (P := P) (b := true) hq hl hlo hhi h2
      obtain ⟨e', b', z', hti⟩ : ∃ e' b' z', tt t = some (.slice e' m b' z') := by
        unfold sizeSl at hsz
        split at hsz
        · rename_i h1; subst hsz; exact ⟨_, _, _, h1⟩
        · omega
      obtain ⟨hu, _, _, ⟨ie, zv, hie, hsi, _⟩, _⟩ := htt t _ hti
      have fin : SVR g w (.p false [.c (.sl e m ((xs.take q).drop l))]) (.slice (if cap = l then A else A.map (·.add (l * m))) (q - l) (cap - l)) := by
        obtain ⟨A', L', rfl, s1, s2⟩ := h6.sub l (q - l) cap h5 (by omega) h2
        obtain ⟨M1, r1, r2⟩ := h7.take q
        obtain ⟨M2, r3, r4⟩ := r1.drop l
        have hlen : ((xs.take q).drop l).length = q - l := by simp; omega
        have e1 : (cs.drop (l * m)).take ((q - l) * m) = (cs.take (q * m)).drop (l * m) := by
          rw [List.drop_take, Nat.sub_mul]
        rw [e1] at s1
        refine ⟨_, rfl, L' ++ M2, ⟨_, _, _, L', M2, by rw [hlen], by rw [hlen]; omega, by omega, rfl, h5, by rw [hlen]; exact s1, r3⟩, fun b mb => ?_⟩
        rcases List.mem_append.1 mb with mb | mb
        · exact ho b (by simp [s2 b mb])
        · exact ho b (by simp [r2 b (r4 b mb)])
      refine ⟨_, ?_, fin, svU_c _⟩
      simp [Instr.sliceAt, run_und hu, Instr.slice, b1, run_size hie, hsi]
    · simp at h
  · simp at h
end
end Go.Proofs.Ytfmplnebdldpdaa
