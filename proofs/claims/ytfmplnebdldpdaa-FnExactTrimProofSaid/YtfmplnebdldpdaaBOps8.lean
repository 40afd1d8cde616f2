/- Stores into rows; all operations but calls of Go functions. -/
import Derived.Test.YtfmplnebdldpdaaBOps7
namespace Go.Proofs.Ytfmplnebdldpdaa
open Go.RowKit
section
variable {P : Program} {W : World} {U : Nat → Prop} {key : Nat} {st : St} {g : Gh} {w w' : World} {a : Act} {tt : Nat → Option TI}
theorem RCs.takeS : ∀ {x : List CT} {c : List Value} {L : List Nat} (n : Nat), RCs w x c L → ∃ L', RCs w (x.take n) (c.take n) L' ∧ L'.Sublist L
  | x, c, L, 0, h => ⟨[], by simp [RCs], List.nil_sublist _⟩
  | [], c, L, n + 1, h => ⟨[], by obtain ⟨rfl, rfl⟩ := h; simp [RCs], List.nil_sublist _⟩
  | x :: r, _, _, n + 1, ⟨v, cs', L1, L2, rfl, rfl, h1, h2⟩ => by
    obtain ⟨L', a1, a2⟩ := RCs.takeS n h2
    exact ⟨L1 ++ L', ⟨v, _, L1, L', rfl, rfl, h1, a1⟩, List.Sublist.append (List.Sublist.refl _) a2⟩
theorem RCs.dropS : ∀ {x : List CT} {c : List Value} {L : List Nat} (n : Nat), RCs w x c L → ∃ L', RCs w (x.drop n) (c.drop n) L' ∧ L'.Sublist L
  | x, c, L, 0, h => ⟨L, by simpa using h, List.Sublist.refl _⟩
  | [], c, L, n + 1, h => ⟨[], by obtain ⟨rfl, rfl⟩ := h; simp [RCs], List.nil_sublist _⟩
  | x :: r, _, _, n + 1, ⟨v, cs', L1, L2, rfl, rfl, h1, h2⟩ => by
    obtain ⟨L', a1, a2⟩ := RCs.dropS n h2
    exact ⟨L', by simpa using a1, a2.trans (List.sublist_append_right L1 L2)⟩
/-- both parts at once, so that the blocks stay one behind the other -/
theorem RCs.spliceS {x : List CT} {c : List Value} {L : List Nat} {ys : List CT} {us : List Value} (h : RCs w x c L) (h' : RCs w ys us []) : ∀ (off : Nat), ∃ L', RCs w (splice x off ys) (splice c off us) L' ∧ L'.Sublist L := by
  have hl : us.length = ys.length := h'.len
  intro off
  induction off generalizing x c L with
  | zero =>
    obtain ⟨L', a1, a2⟩ := h.dropS (0 + ys.length)
    refine ⟨[] ++ L', ?_, a2⟩
    simp only [splice, List.take_zero, List.nil_append, hl]
    exact h'.append a1
  | succ off ih =>
    cases x with
    | nil =>
      obtain ⟨rfl, rfl⟩ := h
      refine ⟨[], ?_, List.nil_sublist _⟩
      simpa [splice] using h'
    | cons x r =>
      obtain ⟨v, cs', L1, L2, rfl, rfl, h1, h2⟩ := h
      obtain ⟨L', a1, a2⟩ := ih h2
      refine ⟨L1 ++ L', ?_, List.Sublist.append (List.Sublist.refl _) a2⟩
      have e1 : splice (x :: r) (off + 1) ys = x :: splice r off ys := by
        simp only [splice, List.take_succ_cons, List.cons_append]
        rw [show off + 1 + ys.length = (off + ys.length) + 1 by omega, List.drop_succ_cons]
      have e2 : splice (v :: cs') (off + 1) us = v :: splice cs' off us := by
        simp only [splice, List.take_succ_cons, List.cons_append]
        rw [show off + 1 + us.length = (off + us.length) + 1 by omega, List.drop_succ_cons]
      rw [e1, e2]
      exact ⟨v, _, L1, L', rfl, rfl, h1, a1⟩
theorem splice_app_right {α : Type} (c1 c2 : List α) (off : Nat) (us : List α) : splice (c1 ++ c2) (c1.length + off) us = c1 ++ splice c2 off us := by
  simp only [splice]
  rw [List.take_length_add_append, Nat.add_assoc, List.drop_append, List.drop_of_length_le (Nat.le_add_right _ _), Nat.add_sub_cancel_left]
  simp
theorem splice_app_left {α : Type} (c1 c2 : List α) (off : Nat) (us : List α) (h : off + us.length ≤ c1.length) : splice (c1 ++ c2) off us = splice c1 off us ++ c2 := by
  simp only [splice]
  rw [List.take_append_of_le_length (by omega), List.drop_append_of_le_length h]
  simp
theorem REs.set {m : Nat} {ys : List CT} {us : List Value} (h' : RCs w ys us []) : ∀ {xs : List (List CT)} {cs : List Value} {L : List Nat} {i off : Nat} {x : List CT}, REs w m xs cs L → xs[i]? = some x → off + us.length ≤ m →
    ∃ L', REs w m (xs.set i (splice x off ys)) (splice cs (i * m + off) us) L' ∧ L'.Sublist L
  | [], _, _, _, _, _, _, hx, _ => by simp at hx
  | e :: r, _, _, 0, off, x, ⟨c1, c2, L1, L2, rfl, rfl, h3, h4⟩, hx, ho => by
    simp at hx; subst hx
    obtain ⟨L', a1, a2⟩ := h3.1.spliceS h' off
    refine ⟨L' ++ L2, ?_, List.Sublist.append a2 (List.Sublist.refl _)⟩
    rw [Nat.zero_mul, Nat.zero_add, splice_app_left _ _ _ _ (by rw [h3.2]; exact ho)]
    exact ⟨splice c1 off us, c2, L', L2, rfl, rfl, ⟨a1, by rw [splice_len _ _ _ (by rw [h3.2]; exact ho)]; exact h3.2⟩, h4⟩
  | e :: r, _, _, i + 1, off, x, ⟨c1, c2, L1, L2, rfl, rfl, h3, h4⟩, hx, ho => by
    obtain ⟨L', a1, a2⟩ := REs.set h' h4 (i := i) (off := off) (x := x) (by simpa using hx) ho
    refine ⟨L1 ++ L', ?_, List.Sublist.append (List.Sublist.refl _) a2⟩
    have e : (i + 1) * m + off = c1.length + (i * m + off) := by rw [h3.2, Nat.add_mul]; omega
    rw [e, splice_app_right]
    exact ⟨c1, _, L1, L', rfl, rfl, h3, a1⟩
theorem flatCs_ok : ∀ {vs : List AV} {ys : List CT} {us : List Value}, flatCs vs = some ys → All2 (AVR g w) vs us → RCs w ys us []
  | [], _, [], h, _ => by simp [flatCs] at h; subst h; exact ⟨rfl, rfl⟩
  | [], _, _ :: _, _, h => h.elim
  | _ :: _, _, [], _, h => h.elim
  | x :: vs, ys, u :: us, h, hr => by
    simp only [flatCs] at h
    obtain ⟨y, h1, h⟩ := Option.bind_eq_some_iff.1 h
    obtain ⟨b, h2, rfl⟩ := Option.map_eq_some_iff.1 h
    have hx : x = .c y ∧ y.flat = true := by
      cases x with
      | c z => cases z <;> simp [flatC] at h1 <;> subst h1 <;> exact ⟨rfl, rfl⟩
      | _ => simp [flatC] at h1
    obtain ⟨rfl, hf⟩ := hx
    obtain ⟨L, hL, _⟩ := hr.1
    have hL0 : L = [] := by
      cases y with
      | int k n => exact hL.2
      | bool b => exact hL.2
      | str s => exact hL.2.1
      | sl e m xs => simp [CT.flat] at hf
    subst hL0
    exact ⟨u, us, [], [], rfl, rfl, hL, flatCs_ok h2 hr.2⟩
/-- a store into a row -/
theorem store_rp (htt : ∀ t i, tt t = some i → TOk P t i) (hI : HI W g st.ob w) (hU : StU U st) {t k m i off e : Nat} {xs : List (List CT)} {d : Bool} {x ys : List CT} {vs : List AV} {va vv : Value} {ag : Bool} (hk : st.ob k = .row e m xs d) (hx : xs[i]? = some x) (hys : flatCs vs = some ys) (hl : vs.length = sizeTI (tt t)) (ho : off + vs.length ≤ m)
    (ha : SVR g w (.rp k m i off) va) (hv : SVR g w (.p ag vs) vv) (hpos : 0 < vs.length) {s : Sem Next} (hs : s = (do Instr.storeAt t va vv; pure .skip)) : Fin P W U key st g w s (.und, [(k, .row e m (xs.set i (splice x off ys)) d)]) := by
  obtain ⟨b, n, c, h1, rfl⟩ := ha
  obtain ⟨hm, cs, L, o1, o2, o3, o4, o5⟩ := hI.deep hk
  obtain ⟨us, c1, c2⟩ := PVR.cells hv
  have hxl := c2.len
  have hi : i < xs.length := (List.getElem?_eq_some_iff.1 hx).1
  rcases o1.2 with ⟨_, hn⟩ | ⟨b', cap, cur, hv', hbW, hg, hnc, hcm, hcs, htk⟩
  · omega
  have hbb : b = b' := by rw [hv'] at h1; simp at h1; exact h1.1.symm
  subst hbb
  have hlt : i * m + off + us.length ≤ xs.length * m := by
    have := Nat.mul_le_mul_right m (show i + 1 ≤ xs.length by omega)
    rw [Nat.add_mul] at this
    omega
  have hcap : xs.length * m ≤ cap * m := Nat.mul_le_mul_right m hnc
  have hsize : (sizeOf t).run P w = .ok us.length w := by
    rw [← hxl, hl]
    unfold sizeTI at hl ⊢
    cases hti : tt t with
    | none => rw [hti] at hl; simp at hl; simp [hl] at hpos
    | some i =>
      cases i with
      | atom z => obtain ⟨d, zv, i, _, _, h3, _, h4, _⟩ := htt t _ hti; rw [run_size h3, h4]
      | strct fs n z => obtain ⟨_, i, _, _, h3, h4, _⟩ := htt t _ hti; rw [run_size h3, h4]
      | slice e m b z => obtain ⟨_, _, _, _, j, h3, h4, _⟩ := htt t _ hti; rw [run_size h3, h4]
  have hst := run_storeCells_at (P := P) b (i * m + off) e us 0 cur w hg (by omega) (AVRs.one c2)
  obtain ⟨r1, r2, r3, r4, r5, r6⟩ := setRow_ok b cur (splice cur.toList (i * m + off) us).toArray e hg
  have hrun : s.run P w = .ok .skip (w.setRow b (splice cur.toList (i * m + off) us).toArray) := by
    subst hs
    have e : (cur.toList.take (i * m + off + 0) ++ us ++ cur.toList.drop (i * m + off + 0 + us.length)).toArray = (splice cur.toList (i * m + off) us).toArray := by simp [splice]
    rw [e] at hst
    simp [Instr.storeAt, Instr.sureAddr, storeVar, c1, hsize, hst]
  have hOk : g.O k = [b] := by rw [o4, hv']; rfl
  have hmv : ∀ b', b' < w.heap.size → ¬ g.own b' → (w.setRow b (splice cur.toList (i * m + off) us).toArray).heap[b']? = w.heap[b']? := fun b' _ hn => r2 b' fun e => hn ⟨k, by simp [hOk, e]⟩
  obtain ⟨L', q1, q2⟩ := o2.set (flatCs_ok hys c2) hx (show off + us.length ≤ m by omega)
  have hown' : (w.setRow b (splice cur.toList (i * m + off) us).toArray).ownsRow W.heap.size e m (g.val k) (xs.set i (splice x off ys)).length (splice cs (i * m + off) us) := by
    have hcl : cs.length = xs.length * m := o1.1
    refine ⟨by rw [splice_len _ _ _ (by omega), hcl]; simp, .inr ⟨b, cap, _, by simpa using hv', hbW, r1, by simpa using hnc, hcm, by simp [splice_len _ _ _ (show i * m + off + us.length ≤ cur.toList.length by simp; omega), hcs], ?_⟩⟩
    have : cur.toList = cs ++ cur.toList.drop (xs.length * m) := by rw [← htk]; exact (List.take_append_drop _ _).symm
    rw [this, splice_app_left _ _ _ _ (by omega)]
    have e2 : (xs.set i (splice x off ys)).length * m = (splice cs (i * m + off) us).length := by rw [splice_len _ _ _ (by omega), hcl]; simp
    rw [e2]
    exact List.take_left' rfl
  have hltL := o2.lt
  have hREs' : REs (w.setRow b (splice cur.toList (i * m + off) us).toArray) m (xs.set i (splice x off ys)) (splice cs (i * m + off) us) L' := q1.keep fun b' mb => hmv b' (hltL b' (q2.subset mb)) (o3 b' (q2.subset mb))
  let g' : Gh := ⟨g.val, g.O, upd g.D k (if d = true then L' else [])⟩
  have hgo : ∀ b', g'.own b' ↔ g.own b' := fun b' => Iff.rfl
  have hDsub : ∀ b' ∈ g'.D k, b' ∈ g.D k := fun b' mb => by
    simp only [g', upd_same] at mb
    split at mb
    · rename_i hd
      rcases o5 with ⟨_, o5⟩ | ⟨o5, _⟩
      · rw [o5]; exact q2.subset mb
      · simp [hd] at o5
    · simp at mb
  refine ⟨g', undef, _, .inr ⟨hrun, rfl⟩, ?_, rfl, fun x u hx hu => hu.move hx (fun _ _ => rfl) hmv (fun _ h => .inl h) (by omega), trivial, fun q => ?_, fun q hq => ?_⟩
  · refine hI.step (U := U) (fun q => q = k) ?_ (fun b' _ hn => r2 b' fun e => hn k rfl (by simp [hOk, e])) (fun q hq => ⟨upd_ne _ _ hq, rfl, rfl, upd_ne _ _ hq⟩) hU.ob (fun _ _ => rfl) (fun _ h => .inl h) (fun q hq => ?_)
    · exact ⟨r4.trans hI.below.os, r5.trans hI.below.tape, r6.trans hI.below.output, by have := hI.below.size; omega, fun q hq => by rw [r2 q (by omega)]; exact hI.below.block q hq⟩
    · subst hq
      have hmem : ∀ b' ∈ g'.O q ++ g'.D q, b' ∈ g.O q ++ g.D q := fun b' mb => by
        rcases List.mem_append.1 mb with mb | mb
        · exact List.mem_append.2 (.inl mb)
        · exact List.mem_append.2 (.inr (hDsub b' mb))
      refine ⟨?_, ?_, fun b' mb => ?_, fun j hj b' mb mj => ?_⟩
      · simp only [updAll, upd_same]
        refine ⟨hm, _, L', hown', hREs', o4, ?_⟩
        cases d with
        | true => exact .inl ⟨rfl, by simp [g', upd]⟩
        | false => exact .inr ⟨rfl, by simp [g', upd], fun b' mb => o3 b' (q2.subset mb)⟩
      · have hn := hI.nodup q
        refine hn.sublist (List.Sublist.append (List.Sublist.refl _) ?_)
        simp only [g', upd_same]
        split
        · rename_i hd
          rcases o5 with ⟨_, o5⟩ | ⟨o5, _⟩
          · rw [o5]; exact q2
          · simp [hd] at o5
        · exact List.nil_sublist _
      · obtain ⟨p1, cur', e', p2⟩ := hI.plain q b' (hmem b' mb)
        refine ⟨p1, ?_⟩
        by_cases hb' : b' = b
        · subst hb'; exact ⟨_, _, r1⟩
        · exact ⟨cur', e', by rw [r2 b' hb']; exact p2⟩
      · have mj' : b' ∈ g.O j ++ g.D j := by
          rcases List.mem_append.1 mj with mj | mj
          · exact List.mem_append.2 (.inl mj)
          · simp only [g', upd_ne _ _ (fun e : j = q => hj e.symm)] at mj; exact List.mem_append.2 (.inr mj)
        exact hI.apart q j hj b' (hmem b' mb) mj'
  · simp only [updAll, upd]
    split
    · trivial
    · exact (hU.ob q).mono fun _ => .inl
  · simp only [updAll, upd]
    split
    · rename_i e; subst e
      exact absurd (hU.gone q fun h => hq (.inl h)) (by simp [hk])
    · exact hU.gone q fun h => hq (.inl h)
end
end Go.Proofs.Ytfmplnebdldpdaa
