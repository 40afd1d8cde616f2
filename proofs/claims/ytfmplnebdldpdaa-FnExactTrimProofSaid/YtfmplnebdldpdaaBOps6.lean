/- Rows: slice literals, make, append. -/
import Derived.Test.YtfmplnebdldpdaaBOps5
import Derived.Great.BuildSlice
namespace Go.Proofs.Ytfmplnebdldpdaa
open Go.RowKit
section
variable {P : Program} {W : World} {U : Nat → Prop} {key : Nat} {st : St} {g : Gh} {w w' : World} {a : Act} {tt : Nat → Option TI}
/-- the blocks of what was used up -/
def Gh.F (g : Gh) (ks : List Nat) : List Nat := ks.flatMap fun k => g.O k ++ g.D k
def FP (g : Gh) (ks : List Nat) (d : Bool) (L : List Nat) : Prop := (d = true → L.Sublist (g.F ks)) ∧ ∀ b ∈ L, ¬ g.own b ∨ ∃ k ∈ ks, b ∈ g.O k
theorem FP.nil (d : Bool) : FP g [] d [] := ⟨fun _ => by simp [Gh.F], by simp⟩
theorem FP.append {ks ks' : List Nat} {d d' : Bool} {L L' : List Nat} (h : FP g ks d L) (h' : FP g ks' d' L') : FP g (ks ++ ks') (d && d') (L ++ L') := by
  refine ⟨fun hd => ?_, fun b m => ?_⟩
  · simp only [Bool.and_eq_true] at hd
    simp only [Gh.F, List.flatMap_append]
    exact List.Sublist.append (h.1 hd.1) (h'.1 hd.2)
  · rcases List.mem_append.1 m with m | m
    · exact (h.2 b m).imp id fun ⟨k, h1, h2⟩ => ⟨k, by simp [h1], h2⟩
    · exact (h'.2 b m).imp id fun ⟨k, h1, h2⟩ => ⟨k, by simp [h1], h2⟩
theorem HI.nodupF {ob : Nat → Ob} (hI : HI W g ob w) : ∀ {ks : List Nat}, ks.Nodup → (g.F ks).Nodup
  | [], _ => by simp [Gh.F]
  | k :: ks, h => by
    simp only [Gh.F, List.flatMap_cons, List.nodup_append]
    rw [List.nodup_cons] at h
    refine ⟨List.nodup_append.1 (hI.nodup k), hI.nodupF h.2, fun x hx y hy e => ?_⟩
    subst e
    obtain ⟨j, hj, hy⟩ := List.mem_flatMap.1 hy
    exact hI.apart k j (fun e => h.1 (e ▸ hj)) x hx hy
theorem mem_F {ks : List Nat} {b : Nat} (h : b ∈ g.F ks) : ∃ k ∈ ks, b ∈ g.O k ++ g.D k := by simpa [Gh.F] using h
theorem Sl.row {B e m n : Nat} {v : Value} {cs : List Value} (h : w.ownsRow B e m v n cs) : ∃ A cap L0, v = .slice A n cap ∧ n ≤ cap ∧ cap ≤ maxLen ∧ Sl w m A n cs L0 ∧ L0.Sublist v.ownBlock.toList := by
  obtain ⟨A, cap, rfl, h1, h2⟩ := own_slice h
  obtain ⟨L0, h3, _, h4⟩ := Sl.of_own h
  refine ⟨A, cap, L0, rfl, h1, h2, h3, ?_⟩
  rcases h3.2 with ⟨_, rfl⟩ | ⟨_, b, off, rfl, rfl, _⟩
  · exact List.nil_sublist _
  · simp [Value.ownBlock]
theorem avT_ok (hI : HI W g st.ob w) {x : AV} {ct : CT} {ks : List Nat} {d : Bool} {v : Value} (h : avT st x = some (ct, ks, d)) (hx : AVR g w x v) (hu : avU U x) : ∃ L, RC w ct v L ∧ FP g ks d L ∧ ∀ k ∈ ks, U k := by
  cases x with
  | c y =>
    obtain ⟨L, h1, h2⟩ := hx
    cases y <;> simp only [avT, Option.some.injEq, Prod.mk.injEq] at h <;> obtain ⟨rfl, rfl, rfl⟩ := h
    · exact ⟨L, h1, ⟨fun _ => by rw [h1.2]; simp [Gh.F], fun b m => .inl (h2 b m)⟩, by simp⟩
    · exact ⟨L, h1, ⟨fun _ => by rw [h1.2]; simp [Gh.F], fun b m => .inl (h2 b m)⟩, by simp⟩
    · exact ⟨L, h1, ⟨fun _ => by rw [h1.2.1]; simp [Gh.F], fun b m => .inl (h2 b m)⟩, by simp⟩
    · exact ⟨L, h1, ⟨fun e => by simp at e, fun b m => .inl (h2 b m)⟩, by simp⟩
  | row k =>
    simp only [avT] at h
    split at h
    · rename_i e m xs d' hk
      simp only [Option.some.injEq, Prod.mk.injEq] at h
      obtain ⟨rfl, rfl, rfl⟩ := h
      obtain ⟨hm, cs, L1, o1, o2, o3, o4, o5⟩ := hI.deep hk
      obtain ⟨A, cap, L0, s1, s2, s3, s4, s5⟩ := Sl.row o1
      refine ⟨L0 ++ L1, ⟨A, cap, cs, L0, L1, by rw [hx.1, s1], s2, s3, rfl, hm, s4, o2⟩, ⟨fun hd => ?_, fun b m => ?_⟩, fun q mq => by simp at mq; subst mq; exact hu⟩
      · rcases o5 with ⟨_, o5⟩ | ⟨o5, _⟩
        · simp only [Gh.F, List.flatMap_cons, List.flatMap_nil, List.append_nil, o4, o5]
          exact List.Sublist.append s5 (List.Sublist.refl _)
        · simp [hd] at o5
      · rcases List.mem_append.1 m with m | m
        · exact .inr ⟨k, by simp, by rw [o4]; exact s5.subset m⟩
        · exact .inl (o3 b m)
    · simp at h
  | nil e m =>
    simp only [avT] at h
    split at h
    · rename_i hm
      simp only [Option.some.injEq, Prod.mk.injEq] at h
      obtain ⟨rfl, rfl, rfl⟩ := h
      refine ⟨[], ⟨none, 0, [], [], [], hx, by simp, Nat.zero_le _, rfl, hm, Sl.zero, rfl, rfl⟩, FP.nil _, by simp⟩
    · simp at h
  | dead => simp [avT] at h
theorem avTs_ok (hI : HI W g st.ob w) : ∀ {xs : List AV} {cts : List CT} {ks : List Nat} {d : Bool} {vs : List Value}, avTs st xs = some (cts, ks, d) → All2 (AVR g w) xs vs → avsU U xs → ∃ L, RCs w cts vs L ∧ FP g ks d L ∧ ∀ k ∈ ks, U k
  | [], _, _, _, [], h, _, _ => by
    simp only [avTs, Option.some.injEq, Prod.mk.injEq] at h
    obtain ⟨rfl, rfl, rfl⟩ := h
    exact ⟨[], ⟨rfl, rfl⟩, FP.nil _, by simp⟩
  | [], _, _, _, _ :: _, _, h, _ => h.elim
  | _ :: _, _, _, _, [], _, h, _ => h.elim
  | x :: r, cts, ks, d, v :: vs, h, hr, hu => by
    simp only [avTs] at h
    obtain ⟨⟨c1, k1, d1⟩, h1, h⟩ := Option.bind_eq_some_iff.1 h
    obtain ⟨⟨c2, k2, d2⟩, h2, h⟩ := Option.map_eq_some_iff.1 h
    simp only [Prod.mk.injEq] at h
    obtain ⟨rfl, rfl, rfl⟩ := h
    obtain ⟨L1, a1, a2, a3⟩ := avT_ok hI h1 hr.1 (hu x (by simp))
    obtain ⟨L2, b1, b2, b3⟩ := avTs_ok hI h2 hr.2 (fun y m => hu y (by simp [m]))
    exact ⟨L1 ++ L2, ⟨v, vs, L1, L2, rfl, rfl, a1, b1⟩, a2.append b2, fun k m => (List.mem_append.1 m).elim (a3 k) (b3 k)⟩
theorem elems_ok (hI : HI W g st.ob w) {m : Nat} : ∀ {xs : List SV} {es : List (List CT)} {ks : List Nat} {d : Bool} {vs : List Value}, elemsS st m xs = some (es, ks, d) → All2 (fun s v => SVR g w s v ∧ svU U s) xs vs →
    ∃ (cs : List (List Value)) (L : List Nat), All2 (fun (c : List Value) (v : Value) => v.cells = c.toArray ∧ c.length = m ∧ ∀ u ∈ c, u.oneCell' = true) cs vs ∧ REs w m es cs.flatten L ∧ FP g ks d L ∧ ∀ k ∈ ks, U k
  | [], _, _, _, [], h, _ => by
    simp only [elemsS, Option.some.injEq, Prod.mk.injEq] at h
    obtain ⟨rfl, rfl, rfl⟩ := h
    exact ⟨[], [], trivial, ⟨rfl, rfl⟩, FP.nil _, by simp⟩
  | [], _, _, _, _ :: _, _, h => h.elim
  | _ :: _, _, _, _, [], _, h => h.elim
  | s :: r, es, ks, d, v :: vs, h, ⟨⟨hs, hsu⟩, hr⟩ => by
    cases s with
    | p ag us =>
      simp only [elemsS] at h
      split at h
      · rename_i hl
        obtain ⟨⟨c1, k1, d1⟩, h1, h⟩ := Option.bind_eq_some_iff.1 h
        obtain ⟨⟨c2, k2, d2⟩, h2, h⟩ := Option.map_eq_some_iff.1 h
        simp only [Prod.mk.injEq] at h
        obtain ⟨rfl, rfl, rfl⟩ := h
        obtain ⟨us', p1, p2⟩ := PVR.cells hs
        obtain ⟨L1, a1, a2, a3⟩ := avTs_ok hI h1 p2 hsu
        obtain ⟨cs, L2, b1, b2, b3, b4⟩ := elems_ok hI h2 hr
        have hl' : us'.length = m := by rw [← p2.len]; exact hl
        exact ⟨us' :: cs, L1 ++ L2, ⟨⟨p1, hl', AVRs.one p2⟩, b1⟩, ⟨us', cs.flatten, L1, L2, by simp, rfl, ⟨a1, hl'⟩, b2⟩, a2.append b3, fun k mk => (List.mem_append.1 mk).elim (a3 k) (b4 k)⟩
      · simp at h
    | _ => simp [elemsS] at h
/-- filling a row place by place -/
theorem fill_seq {m : Nat} : ∀ (cs : List (List Value)) (vs : List Value) (i : Nat) (pre base : List Value), All2 (fun (c : List Value) (v : Value) => v.cells = c.toArray ∧ c.length = m ∧ ∀ u ∈ c, u.oneCell' = true) cs vs → pre.length = i * m → base.length = vs.length * m →
    Instr.fill (fun i => some (i * m, m)) (pre ++ base).toArray ((List.range' i vs.length).zip vs) = some (pre ++ cs.flatten).toArray
  | [], [], i, pre, base, _, _, hb => by
    have : base = [] := List.eq_nil_of_length_eq_zero (by simpa using hb)
    subst this
    simp [Instr.fill]
  | [], _ :: _, _, _, _, h, _, _ => h.elim
  | _ :: _, [], _, _, _, h, _, _ => h.elim
  | c :: cs, v :: vs, i, pre, base, ⟨⟨h1, h2, _⟩, h⟩, hp, hb => by
    have hb' : base.length = m + vs.length * m := by rw [hb]; simp [Nat.add_mul]; omega
    have hcs : v.cells.size = m := by simp [h1, h2]
    simp only [List.length_cons, List.range'_succ, List.zip_cons_cons, Instr.fill]
    rw [if_neg (by simp [hcs]; omega), fold_cells (i * m) v c h1 _ (by simp; omega)]
    have e : splice (pre ++ base).toArray.toList (i * m) c = (pre ++ c) ++ base.drop m := by
      unfold splice
      simp only [← hp]
      rw [List.take_left', List.drop_append, List.drop_of_length_le (by omega)]
      · simp [h2]
      · rfl
    rw [e, fill_seq cs vs (i + 1) (pre ++ c) (base.drop m) h (by simp [hp, h2, Nat.add_mul]) (by simp; omega)]
    simp
theorem newRow_ok (hI : HI W g st.ob w) (hU : StU U st) (hkey : ¬ U key) {e m : Nat} (hm : 0 < m) {xs : List (List CT)} {ks : List Nat} {d : Bool} {L : List Nat} {cs : List Value} {v : Value} (hown : w'.ownsRow W.heap.size e m v xs.length cs) (hv : v.ownBlock = some w.heap.size)
    (hb : Below w.heap.size w w') (hpl : ∃ cur e, w'.heap[w.heap.size]? = some (.cells cur e (0, 0))) (hr : REs w m xs cs L) (hf : FP g ks d L) (hks : ∀ k ∈ ks, U k) (hnd : ks.Nodup) {s : Sem Next} (hrun : s.run P w = .ok (.value v) w') :
    Fin P W U key st g w s (.p false [.row key], goneAll ks ++ [(key, .row e m xs d)]) := by
  have hlt := hr.lt
  have hF := hI.nodupF hnd
  have hDmem : ∀ b ∈ (if d = true then L else []), b ∈ L ∧ d = true := fun b mb => by
    split at mb
    · rename_i hd; exact ⟨mb, hd⟩
    · simp at mb
  obtain ⟨h1, h2⟩ := hI.turn (key := key) (U := U) (w' := w') (v := v) (O := [w.heap.size]) (D := if d = true then L else []) (o := .row e m xs d) hU.ob hkey ks hks
    (hI.below.trans (hb.mono hI.below.size)) hb.size (fun b hb' _ => hb.block b hb') (by simp) (fun b mb => by
      obtain ⟨m1, m2⟩ := hDmem b mb
      exact .inl (mem_F ((hf.1 m2).subset m1)))
    (by
      simp only [List.singleton_append, List.nodup_cons]
      refine ⟨fun mb => ?_, ?_⟩
      · have := hlt _ (hDmem _ mb).1; omega
      · split
        · rename_i hd; exact hF.sublist (hf.1 hd)
        · simp)
    (fun b mb => by
      simp only [List.singleton_append, List.mem_cons] at mb
      rcases mb with rfl | mb
      · exact ⟨hI.below.size, hpl⟩
      · obtain ⟨m1, m2⟩ := hDmem b mb
        obtain ⟨k, _, mk⟩ := mem_F ((hf.1 m2).subset m1)
        obtain ⟨p1, cur, e', p2⟩ := hI.plain k b mk
        exact ⟨p1, cur, e', by rw [hb.block b (hlt b m1)]; exact p2⟩)
    (fun _ => ⟨hm, cs, L, by simpa [Gh.turn, upd] using hown, hr.keep fun b mb => hb.block b (hlt b mb), by simp [Gh.turn, upd, hv], by
      cases d with
      | true => exact .inl ⟨rfl, by simp [Gh.turn]⟩
      | false =>
        refine .inr ⟨rfl, by simp [Gh.turn], fun b mb ho => ?_⟩
        have hb' := hlt b mb
        rcases turn_own ho with mo | ⟨k, k1, _, mk⟩
        · simp at mo; omega
        · rcases hf.2 b mb with hn | ⟨q, q1, q2⟩
          · exact hn ⟨k, mk⟩
          · exact hI.apart k q (fun e => k1 (e ▸ q1)) b (by simp [mk]) (by simp [q2])⟩)
  have hwf := wf_turn (key := key) (o := .row e m xs d) hU ks trivial
  refine ⟨_, _, _, .inl hrun, h1, ⟨_, rfl, ⟨by simp [Gh.turn, upd], ?_⟩⟩, h2, fun y my => by simp at my; subst my; exact key_in, hwf.1, hwf.2⟩
  obtain ⟨A, cap, hv'⟩ := own_val hown
  simp [hv', Value.oneCell']
end
end Go.Proofs.Ytfmplnebdldpdaa
