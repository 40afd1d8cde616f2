/- Calls of Go functions: what a contract says, and how the abstract machine takes it. -/
import Derived.Test.YtfmplnebdldpdaaBOps9
namespace Go.Proofs.Ytfmplnebdldpdaa
open Go.RowKit
theorem flatMap_congr' {α β : Type} {f h : α → List β} : ∀ {l : List α}, (∀ x ∈ l, f x = h x) → l.flatMap f = l.flatMap h
  | [], _ => rfl
  | x :: l, hh => by rw [List.flatMap_cons, List.flatMap_cons, hh x (by simp), flatMap_congr' fun y m => hh y (by simp [m])]
def ArgR (w : World) (x : Bool × List CT) (v : Value) : Prop :=
  (x.1 = true ∧ ∃ (vs : List Value) (L : List Nat), v = .agg vs.toArray ∧ RCs w x.2 vs L) ∨ (x.1 = false ∧ ∃ (ct : CT) (L : List Nat), x.2 = [ct] ∧ RC w ct v L)
/-- a result's cell, and the blocks that come with it -/
def OC (w : World) (B : Nat) : CT → Value → List Nat → Prop
  | .sl e m xs, v, F => 0 < m ∧ ∃ cs L, w.ownsRow B e m v xs.length cs ∧ REs w m xs cs L ∧ F = v.ownBlock.toList ++ L
  | x, v, F => RC w x v [] ∧ F = []
def OCs (w : World) (B : Nat) : List CT → List Value → List Nat → Prop
  | [], vs, F => vs = [] ∧ F = []
  | x :: r, vs, F => ∃ v vs' F1 F2, vs = v :: vs' ∧ F = F1 ++ F2 ∧ OC w B x v F1 ∧ OCs w B r vs' F2
def OP (w : World) (B : Nat) (x : Bool × List CT) (v : Value) (F : List Nat) : Prop :=
  (x.1 = true ∧ ∃ vs : List Value, v = .agg vs.toArray ∧ OCs w B x.2 vs F) ∨ (x.1 = false ∧ ∃ ct, x.2 = [ct] ∧ OC w B ct v F)
def OPs (w : World) (B : Nat) : List (Bool × List CT) → List Value → List Nat → Prop
  | [], vs, F => vs = [] ∧ F = []
  | x :: r, vs, F => ∃ v vs' F1 F2, vs = v :: vs' ∧ F = F1 ++ F2 ∧ OP w B x v F1 ∧ OPs w B r vs' F2
def ResR (w : World) (B : Nat) (res : List (Bool × List CT)) (v : Value) : Prop :=
  ∃ (vs : List Value) (F : List Nat), OPs w B res vs F ∧ Own w B F ∧ v = (if h : vs.toArray.size = 1 then vs.toArray[0] else .tuple vs.toArray)
def Callable (P : Program) (f : FuncId) : Prop := ∃ fn, P.funcs[f]? = some fn ∧ (fn.name == "runtime.NumGoroutine") = false ∧ fn.body.isNone = false
def Sound (P : Program) : Ctx := fun f args res =>
  Callable P f ∧ ∀ (w : World) (vs : List Value), All2 (ArgR w) args vs → Calls P f vs.toArray w fun e w' => ∃ v, e = .returned v ∧ ResR w' w.heap.size res v ∧ Below w.heap.size w w'
section
variable {P : Program} {W : World} {U : Nat → Prop} {key : Nat} {st : St} {g : Gh} {w w' : World} {a : Act} {tt : Nat → Option TI}
theorem avArg_ok (hI : HI W g st.ob w) {x : AV} {ct : CT} {v : Value} (h : avArg st x = some ct) (hx : AVR g w x v) : ∃ L, RC w ct v L := by
  cases x with
  | c y => simp only [avArg, Option.some.injEq] at h; subst h; obtain ⟨L, h1, _⟩ := hx; exact ⟨L, h1⟩
  | row k =>
    simp only [avArg] at h
    split at h
    · rename_i e m xs d hk
      simp only [Option.some.injEq] at h; subst h
      obtain ⟨hm, cs, L1, o1, o2, o3, o4, o5⟩ := hI.deep hk
      obtain ⟨A, cap, L0, s1, s2, s3, s4, s5⟩ := Sl.row o1
      exact ⟨L0 ++ L1, A, cap, cs, L0, L1, by rw [hx.1, s1], s2, s3, rfl, hm, s4, o2⟩
    · simp at h
  | nil e m =>
    simp only [avArg] at h
    split at h
    · rename_i hm
      simp only [Option.some.injEq] at h; subst h
      exact ⟨[], none, 0, [], [], [], hx, by simp, Nat.zero_le _, rfl, hm, Sl.zero, rfl, rfl⟩
    · simp at h
  | dead => simp [avArg] at h
theorem avArgs_ok (hI : HI W g st.ob w) : ∀ {xs : List AV} {cts : List CT} {vs : List Value}, avArgs st xs = some cts → All2 (AVR g w) xs vs → ∃ L, RCs w cts vs L
  | [], _, [], h, _ => by simp [avArgs] at h; subst h; exact ⟨[], rfl, rfl⟩
  | [], _, _ :: _, _, h => h.elim
  | _ :: _, _, [], _, h => h.elim
  | x :: r, cts, v :: vs, h, hr => by
    simp only [avArgs] at h
    obtain ⟨c1, h1, h⟩ := Option.bind_eq_some_iff.1 h
    obtain ⟨c2, h2, rfl⟩ := Option.map_eq_some_iff.1 h
    obtain ⟨L1, a1⟩ := avArg_ok hI h1 hr.1
    obtain ⟨L2, a2⟩ := avArgs_ok hI h2 hr.2
    exact ⟨L1 ++ L2, v, vs, L1, L2, rfl, rfl, a1, a2⟩
theorem svArg_ok (hI : HI W g st.ob w) {x : SV} {r : Bool × List CT} {v : Value} (h : svArg st x = some r) (hx : SVR g w x v) : ArgR w r v := by
  cases x with
  | p ag cs =>
    simp only [svArg] at h
    obtain ⟨l, hl, rfl⟩ := Option.map_eq_some_iff.1 h
    cases ag with
    | true =>
      obtain ⟨vs, rfl, h2⟩ := hx
      obtain ⟨L, hL⟩ := avArgs_ok hI hl h2
      exact .inl ⟨rfl, vs, L, rfl, hL⟩
    | false =>
      obtain ⟨y, rfl, h2⟩ := hx
      obtain ⟨L, hL⟩ := avArgs_ok hI hl (show All2 (AVR g w) [y] [v] from ⟨h2, trivial⟩)
      simp only [avArgs] at hl
      obtain ⟨c1, h1, hl⟩ := Option.bind_eq_some_iff.1 hl
      simp at hl; subst hl
      obtain ⟨L1, a1⟩ := avArg_ok hI h1 h2
      exact .inr ⟨rfl, c1, L1, rfl, a1⟩
  | _ => simp [svArg] at h
theorem svArgs_ok (hI : HI W g st.ob w) : ∀ {xs : List SV} {l : List (Bool × List CT)} {vs : List Value}, svArgs st xs = some l → All2 (SVR g w) xs vs → All2 (ArgR w) l vs
  | [], _, [], h, _ => by simp [svArgs] at h; subst h; trivial
  | [], _, _ :: _, _, h => h.elim
  | _ :: _, _, [], _, h => h.elim
  | x :: r, l, v :: vs, h, hr => by
    simp only [svArgs] at h
    obtain ⟨c1, h1, h⟩ := Option.bind_eq_some_iff.1 h
    obtain ⟨c2, h2, rfl⟩ := Option.map_eq_some_iff.1 h
    exact ⟨svArg_ok hI h1 hr.1, svArgs_ok hI h2 hr.2⟩
/-- a cell of a result, by the values of the keys from lo up to hi -/
def CR (val : Nat → Value) (w : World) (lo hi : Nat) : AV → Value → Prop
  | .row k, v => lo ≤ k ∧ k < hi ∧ v = val k ∧ v.oneCell' = true
  | .c x, v => RC w x v []
  | _, _ => False
structure Bind (w : World) (B lo hi : Nat) (up : List (Nat × Ob)) (F : List Nat) (val : Nat → Value) (O D : Nat → List Nat) : Prop where
  le : lo ≤ hi
  at_ : ∀ k, lo ≤ k → k < hi → ∃ e m xs cs, (∀ ob, updAll ob up k = .row e m xs true) ∧ 0 < m ∧ w.ownsRow B e m (val k) xs.length cs ∧ REs w m xs cs (D k) ∧ O k = (val k).ownBlock.toList
  out : ∀ k, ¬ (lo ≤ k ∧ k < hi) → ∀ ob, updAll ob up k = ob k
  foot : F = (List.range' lo (hi - lo)).flatMap fun k => O k ++ D k
theorem Bind.join {B lo mid hi : Nat} {u1 u2 : List (Nat × Ob)} {F1 F2 : List Nat} {v1 v2 : Nat → Value} {O1 O2 D1 D2 : Nat → List Nat} (h1 : Bind w B lo mid u1 F1 v1 O1 D1) (h2 : Bind w B mid hi u2 F2 v2 O2 D2) :
    Bind w B lo hi (u1 ++ u2) (F1 ++ F2) (fun k => if k < mid then v1 k else v2 k) (fun k => if k < mid then O1 k else O2 k) (fun k => if k < mid then D1 k else D2 k) := by
  have hl := h1.le
  have hr := h2.le
  refine ⟨by omega, fun k a b => ?_, fun k hk ob => ?_, ?_⟩
  · by_cases hk : k < mid
    · obtain ⟨e, m, xs, cs, p1, p2⟩ := h1.at_ k a hk
      simp only [hk, if_true]
      exact ⟨e, m, xs, cs, fun ob => by rw [updAll_append, h2.out k (by omega)]; exact p1 ob, p2⟩
    · obtain ⟨e, m, xs, cs, p1, p2⟩ := h2.at_ k (by omega) b
      simp only [hk, if_false]
      exact ⟨e, m, xs, cs, fun ob => by rw [updAll_append]; exact p1 _, p2⟩
  · rw [updAll_append, h2.out k (by omega), h1.out k (by omega)]
  · rw [h1.foot, h2.foot, show hi - lo = (mid - lo) + (hi - mid) by omega, ← List.range'_append_1, List.flatMap_append, show lo + (mid - lo) = mid by omega]
    congr 1
    · refine flatMap_congr' fun k hk => ?_
      have := (List.mem_range'_1.1 hk).2
      simp [show k < mid by omega]
    · refine flatMap_congr' fun k hk => ?_
      have := (List.mem_range'_1.1 hk).1
      simp [show ¬ k < mid by omega]
theorem CR.mono {val val' : Nat → Value} {lo hi lo' hi' : Nat} {x : AV} {v : Value} (h : CR val w lo hi x v) (hl : lo' ≤ lo) (hh : hi ≤ hi') (hv : ∀ k, lo ≤ k → k < hi → val' k = val k) : CR val' w lo' hi' x v := by
  cases x with
  | row k => obtain ⟨a, b, c, d⟩ := h; exact ⟨by omega, by omega, by rw [hv k a b]; exact c, d⟩
  | c x => exact h
  | nil _ _ => exact h.elim
  | dead => exact h.elim
theorem bindCs_ok {B : Nat} : ∀ {cts : List CT} {vs : List Value} {F : List Nat} (key : Nat), OCs w B cts vs F → ∃ val O D, Bind w B key (bindCs key cts).2.2 (bindCs key cts).2.1 F val O D ∧ All2 (CR val w key (bindCs key cts).2.2) (bindCs key cts).1 vs
  | [], vs, F, key, h => by
    obtain ⟨rfl, rfl⟩ := h
    exact ⟨fun _ => undef, fun _ => [], fun _ => [], ⟨Nat.le_refl _, fun k a b => by simp [bindCs] at b; omega, fun _ _ _ => rfl, by simp [bindCs]⟩, trivial⟩
  | ct :: r, _, _, key, ⟨v, vs, F1, F2, rfl, rfl, h1, h2⟩ => by
    cases ct with
    | sl e m xs =>
      obtain ⟨hm, cs, L, o1, o2, rfl⟩ := h1
      obtain ⟨val, O, D, hb, hr⟩ := bindCs_ok (key + 1) h2
      have hone : Bind w B key (key + 1) [(key, .row e m xs true)] (v.ownBlock.toList ++ L) (fun _ => v) (fun _ => v.ownBlock.toList) (fun _ => L) :=
        ⟨by omega, fun k a b => ⟨e, m, xs, cs, fun ob => by simp [updAll, upd, show k = key by omega], hm, o1, o2, rfl⟩, fun k hk ob => by simp [updAll, upd, show ¬ k = key by omega], by simp⟩
      refine ⟨_, _, _, hone.join hb, ⟨?_, hr.mono fun x u _ hx => hx.mono (by omega) (Nat.le_refl _) fun k a b => by simp [show ¬ k < key + 1 by omega]⟩⟩
      have hle := hb.le
      obtain ⟨A, cap, hv⟩ := own_val o1
      exact ⟨Nat.le_refl _, by simp only [bindCs]; omega, by simp, by simp [hv, Value.oneCell']⟩
    | int k n =>
      obtain ⟨h1, rfl⟩ := h1
      obtain ⟨val, O, D, hb, hr⟩ := bindCs_ok key h2
      exact ⟨val, O, D, by simpa [bindCs] using hb, ⟨h1, hr⟩⟩
    | bool b =>
      obtain ⟨h1, rfl⟩ := h1
      obtain ⟨val, O, D, hb, hr⟩ := bindCs_ok key h2
      exact ⟨val, O, D, by simpa [bindCs] using hb, ⟨h1, hr⟩⟩
    | str s =>
      obtain ⟨h1, rfl⟩ := h1
      obtain ⟨val, O, D, hb, hr⟩ := bindCs_ok key h2
      exact ⟨val, O, D, by simpa [bindCs] using hb, ⟨h1, hr⟩⟩
def PR (val : Nat → Value) (w : World) (lo hi : Nat) (x : Bool × List AV) (v : Value) : Prop :=
  (x.1 = true ∧ ∃ vs : List Value, v = .agg vs.toArray ∧ All2 (CR val w lo hi) x.2 vs) ∨ (x.1 = false ∧ ∃ y, x.2 = [y] ∧ CR val w lo hi y v)
theorem PR.mono {val val' : Nat → Value} {lo hi lo' hi' : Nat} {x : Bool × List AV} {v : Value} (h : PR val w lo hi x v) (hl : lo' ≤ lo) (hh : hi ≤ hi') (hv : ∀ k, lo ≤ k → k < hi → val' k = val k) : PR val' w lo' hi' x v := by
  rcases h with ⟨h1, vs, h2, h3⟩ | ⟨h1, y, h2, h3⟩
  · exact .inl ⟨h1, vs, h2, h3.mono fun a b _ hab => hab.mono hl hh hv⟩
  · exact .inr ⟨h1, y, h2, h3.mono hl hh hv⟩
theorem bindRs_ok {B : Nat} : ∀ {res : List (Bool × List CT)} {vs : List Value} {F : List Nat} (key : Nat), OPs w B res vs F → ∃ val O D, Bind w B key (bindRs key res).2.2 (bindRs key res).2.1 F val O D ∧ All2 (PR val w key (bindRs key res).2.2) (bindRs key res).1 vs
  | [], vs, F, key, h => by
    obtain ⟨rfl, rfl⟩ := h
    exact ⟨fun _ => undef, fun _ => [], fun _ => [], ⟨Nat.le_refl _, fun k a b => by simp [bindRs] at b; omega, fun _ _ _ => rfl, by simp [bindRs]⟩, trivial⟩
  | x :: r, _, _, key, ⟨v, vs, F1, F2, rfl, rfl, h1, h2⟩ => by
    have hx : ∃ val O D, Bind w B key (bindCs key x.2).2.2 (bindCs key x.2).2.1 F1 val O D ∧ PR val w key (bindCs key x.2).2.2 (x.1, (bindCs key x.2).1) v := by
      rcases h1 with ⟨hx, us, rfl, hc⟩ | ⟨hx, ct, he, hc⟩
      · obtain ⟨val, O, D, hb, hr⟩ := bindCs_ok key hc
        exact ⟨val, O, D, hb, .inl ⟨hx, us, rfl, hr⟩⟩
      · obtain ⟨val, O, D, hb, hr⟩ := bindCs_ok (cts := x.2) (vs := [v]) (F := F1) key (by rw [he]; exact ⟨v, [], F1, [], rfl, by simp, hc, rfl, rfl⟩)
        refine ⟨val, O, D, hb, .inr ⟨hx, ?_⟩⟩
        generalize (bindCs key x.2).1 = l at hr
        cases l with
        | nil => exact hr.elim
        | cons y l =>
          cases l with
          | nil => exact ⟨y, rfl, hr.1⟩
          | cons _ _ => exact hr.2.elim
    obtain ⟨val, O, D, hb, hp⟩ := hx
    obtain ⟨val2, O2, D2, hb2, hr2⟩ := bindRs_ok (bindCs key x.2).2.2 h2
    have hle2 := hb2.le
    have hle := hb.le
    refine ⟨_, _, _, hb.join hb2, ⟨hp.mono (Nat.le_refl _) hle2 fun k a b => by simp [b], hr2.mono fun y u _ hy => hy.mono hle (Nat.le_refl _) fun k a b => by simp [show ¬ k < (bindCs key x.2).2.2 by omega]⟩⟩
theorem nodup_flat {n : Nat} {G : Nat → List Nat} : ∀ {lo : Nat}, ((List.range' lo n).flatMap G).Nodup → (∀ k, lo ≤ k → k < lo + n → (G k).Nodup) ∧ ∀ k j, lo ≤ k → k < lo + n → lo ≤ j → j < lo + n → k ≠ j → ∀ b ∈ G k, b ∉ G j := by
  induction n with
  | zero => intro lo _; exact ⟨fun k a b => by omega, fun k j a b => by omega⟩
  | succ n ih =>
    intro lo h
    rw [List.range'_succ, List.flatMap_cons, List.nodup_append] at h
    obtain ⟨h1, h2, h3⟩ := h
    obtain ⟨i1, i2⟩ := ih h2
    have mem : ∀ k, lo + 1 ≤ k → k < lo + 1 + n → ∀ b ∈ G k, b ∈ (List.range' (lo + 1) n).flatMap G := fun k a b x mx => List.mem_flatMap.2 ⟨k, List.mem_range'_1.2 ⟨a, b⟩, mx⟩
    refine ⟨fun k a b => ?_, fun k j a b a' b' hkj x mx mj => ?_⟩
    · by_cases e : k = lo
      · subst e; exact h1
      · exact i1 k (by omega) (by omega)
    · by_cases e : k = lo
      · subst e
        exact h3 x mx x (mem j (by omega) (by omega) x mj) rfl
      · by_cases e' : j = lo
        · subst e'
          exact h3 x mj x (mem k (by omega) (by omega) x mx) rfl
        · exact i2 k j (by omega) (by omega) (by omega) (by omega) hkj x mx mj
/-- the state behind a call -/
theorem call_turn (hI : HI W g st.ob w) (hU : StU U st) (hkey : ∀ k, key ≤ k → k < key + 16 → ¬ U k) {res : List (Bool × List CT)} {v : Value} (hr : ResR w' w.heap.size res v) (hb : Below w.heap.size w w') (hn : (bindRs key res).2.2 ≤ key + 16) :
    ∃ g', HI W g' (updAll st.ob (bindRs key res).2.1) w' ∧ SVR g' w' (resSV (bindRs key res).1) v ∧ (∀ x u, svU U x → SVR g w x u → SVR g' w' x u) ∧ svU (Uk U key) (resSV (bindRs key res).1) ∧
      (∀ k, obU (Uk U key) (updAll st.ob (bindRs key res).2.1 k)) ∧ ∀ k, ¬ Uk U key k → updAll st.ob (bindRs key res).2.1 k = .gone := by
  obtain ⟨vs, F, h1, hF, hv⟩ := hr
  obtain ⟨val, O, D, hB, hA⟩ := bindRs_ok key h1
  generalize (bindRs key res).2.2 = hi at *
  generalize (bindRs key res).2.1 = up at *
  generalize (bindRs key res).1 = xs at *
  have hle := hB.le
  let T : Nat → Prop := fun k => key ≤ k ∧ k < hi
  have hTU : ∀ k, T k → ¬ U k := fun k hk => hkey k hk.1 (by have := hk.2; omega)
  let g' : Gh := ⟨fun k => if key ≤ k ∧ k < hi then val k else g.val k, fun k => if key ≤ k ∧ k < hi then O k else g.O k, fun k => if key ≤ k ∧ k < hi then D k else g.D k⟩
  have gT : ∀ k, T k → g'.val k = val k ∧ g'.O k = O k ∧ g'.D k = D k := fun k hk => ⟨if_pos hk, if_pos hk, if_pos hk⟩
  have gN : ∀ k, ¬ T k → g'.val k = g.val k ∧ g'.O k = g.O k ∧ g'.D k = g.D k := fun k hk => ⟨if_neg hk, if_neg hk, if_neg hk⟩
  have hmemF : ∀ k, T k → ∀ b ∈ O k ++ D k, b ∈ F := fun k hk b mb => by
    rw [hB.foot]
    exact List.mem_flatMap.2 ⟨k, List.mem_range'_1.2 ⟨hk.1, by have := hk.2; omega⟩, mb⟩
  have hge : ∀ k, T k → ∀ b ∈ O k ++ D k, w.heap.size ≤ b := fun k hk b mb => hF.ge b (hmemF k hk b mb)
  have hnd := nodup_flat (hB.foot ▸ hF.nodup)
  have hval : ∀ k, U k → g'.val k = g.val k := fun k hk => (gN k fun h => hTU k h hk).1
  have hown : ∀ b, g'.own b → g.own b ∨ w.heap.size ≤ b := fun b ⟨k, mk⟩ => by
    by_cases hk : T k
    · rw [(gT k hk).2.1] at mk; exact .inr (hge k hk b (by simp [mk]))
    · rw [(gN k hk).2.1] at mk; exact .inl ⟨k, mk⟩
  have hmove : ∀ x u, svU U x → SVR g w x u → SVR g' w' x u := fun x u hx hu => hu.move hx hval (fun b hb' _ => hb.block b hb') hown hb.size
  have hHI : HI W g' (updAll st.ob up) w' := by
    refine hI.step (U := U) T (hI.below.trans (hb.mono hI.below.size)) (fun b hb' _ => hb.block b hb') (fun k hk => ⟨hB.out k hk _, gN k hk⟩) hU.ob hval hown (fun k hk => ?_)
    obtain ⟨e1, e2, e3⟩ := gT k hk
    obtain ⟨e, m, ys, cs, p1, p2, p3, p4, p5⟩ := hB.at_ k hk.1 hk.2
    rw [p1 st.ob, e2, e3]
    refine ⟨⟨p2, cs, D k, ?_, p4, by rw [e1, e2]; exact p5, .inl ⟨rfl, e3⟩⟩, hnd.1 k hk.1 (by have := hk.2; omega), fun b mb => ?_, fun j hj b mb mj => ?_⟩
    · rw [e1]; exact ownsRow_mono p3 hI.below.size
    · exact ⟨Nat.le_trans hI.below.size (hge k hk b mb), hF.plain b (hmemF k hk b mb)⟩
    · by_cases hTj : T j
      · rw [(gT j hTj).2.1, (gT j hTj).2.2] at mj
        exact hnd.2 k j hk.1 (by have := hk.2; omega) hTj.1 (by have := hTj.2; omega) hj b mb mj
      · rw [(gN j hTj).2.1, (gN j hTj).2.2] at mj
        have := hI.lt j b mj
        have := hge k hk b mb
        omega
  have hAV : ∀ x u, CR val w' key hi x u → AVR g' w' x u ∧ avU (Uk U key) x := fun x u h => by
    cases x with
    | row k =>
      obtain ⟨c1, c2, c3, c4⟩ := h
      exact ⟨⟨by rw [(gT k ⟨c1, c2⟩).1]; exact c3, c4⟩, .inr ⟨c1, by omega⟩⟩
    | c x => exact ⟨⟨[], h, by simp⟩, trivial⟩
    | nil _ _ => exact h.elim
    | dead => exact h.elim
  have hAVs : ∀ (ys : List AV) (us : List Value), All2 (CR val w' key hi) ys us → All2 (AVR g' w') ys us ∧ avsU (Uk U key) ys := fun ys us h => by
    induction ys generalizing us with
    | nil => cases us with
      | nil => exact ⟨trivial, fun _ m => by simp at m⟩
      | cons _ _ => exact h.elim
    | cons y ys ih => cases us with
      | nil => exact h.elim
      | cons u us =>
        obtain ⟨i1, i2⟩ := ih us h.2
        refine ⟨⟨(hAV y u h.1).1, i1⟩, fun z mz => ?_⟩
        rcases List.mem_cons.1 mz with rfl | mz
        · exact (hAV z u h.1).2
        · exact i2 z mz
  have hPV : ∀ (y : Bool × List AV) (u : Value), PR val w' key hi y u → PVR g' w' y.1 y.2 u ∧ avsU (Uk U key) y.2 := fun y u h => by
    rcases h with ⟨h1, us, rfl, h3⟩ | ⟨h1, z, h2, h3⟩
    · obtain ⟨i1, i2⟩ := hAVs _ _ h3
      exact ⟨by rw [h1]; exact ⟨us, rfl, i1⟩, i2⟩
    · obtain ⟨i1, i2⟩ := hAV z u h3
      exact ⟨by rw [h1]; exact ⟨z, h2, i1⟩, by rw [h2]; intro q mq; simp at mq; subst mq; exact i2⟩
  have hres : SVR g' w' (resSV xs) v ∧ svU (Uk U key) (resSV xs) := by
    have hlen := hA.len
    by_cases hl : xs.length = 1
    · obtain ⟨x, rfl⟩ := List.length_eq_one_iff.1 hl
      cases vs with
      | nil => simp at hlen
      | cons u us =>
        cases us with
        | cons _ _ => simp at hlen
        | nil =>
          have hvu : v = u := by rw [hv]; rfl
          rw [hvu]
          exact hPV x u hA.1
    · have hvs : ¬ vs.toArray.size = 1 := by simp; omega
      rw [dif_neg hvs] at hv
      have e : resSV xs = .tup xs := by
        cases xs with
        | nil => rfl
        | cons x xs => cases xs with
          | nil => simp at hl
          | cons _ _ => rfl
      rw [e]
      refine ⟨⟨vs, hv, hA.mono fun y u _ h => (hPV y u h).1⟩, fun y my => ?_⟩
      obtain ⟨i, hi'⟩ := List.mem_iff_getElem?.1 my
      obtain ⟨u, _, hu⟩ := hA.at hi'
      exact (hPV y u hu).2
  refine ⟨g', hHI, hres.1, hmove, hres.2, fun k => ?_, fun k hk => ?_⟩
  · by_cases hTk : T k
    · obtain ⟨e, m, ys, cs, p1, _⟩ := hB.at_ k hTk.1 hTk.2
      rw [p1]; trivial
    · rw [hB.out k hTk]; exact (hU.ob k).mono fun _ => .inl
  · rw [hB.out k fun hTk => hk (.inr ⟨hTk.1, by have := hTk.2; omega⟩)]
    exact hU.gone k fun h => hk (.inl h)
end
end Go.Proofs.Ytfmplnebdldpdaa
