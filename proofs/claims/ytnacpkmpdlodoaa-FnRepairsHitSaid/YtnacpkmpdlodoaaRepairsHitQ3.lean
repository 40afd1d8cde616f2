/- Texts of this proof, joined: BCall, BCall2, BReg, BDraw, BAny, BSound, BFn. What each holds is said at its theorems. -/
import Derived.Test.YtnacpkmpdlodoaaRepairsHitQ2
import Derived.Orders
import Derived.Test.YtnacpkmpdlodoaaRepairsHitQ1
set_option linter.unusedSimpArgs false
set_option linter.unusedVariables false
namespace Go.Proofs.Ytnacpkmpdlodoaa
section
open Go.RowKit
theorem flatMap_congr' {α β : Type} {f h : α → List β} : ∀ {l : List α}, (∀ x ∈ l, f x = h x) → l.flatMap f = l.flatMap h
  | [], _ => rfl
  | x :: l, hh => by rw [List.flatMap_cons, List.flatMap_cons, hh x (by simp), flatMap_congr' fun y m => hh y (by simp [m])]
/-- an argument: what it leads to is no block of z -/
def ArgR (w : World) (z : Nat → Prop) (x : Bool × List CT) (v : Value) : Prop :=
  (x.1 = true ∧ ∃ (vs : List Value) (L : List Nat), v = .agg vs.toArray ∧ RCs w x.2 vs L ∧ ∀ b ∈ L, ¬ z b) ∨ (x.1 = false ∧ ∃ (ct : CT) (L : List Nat), x.2 = [ct] ∧ RC w ct v L ∧ ∀ b ∈ L, ¬ z b)
/-- a result's cell, and the blocks that come with it; what is lent leads to no block of n -/
def OC (w : World) (B : Nat) (n : Nat → Prop) : Bool × CT → Value → List Nat → Prop
  | (false, .sl e m xs), v, F => 0 < m ∧ ∃ cs L, w.ownsV B e m v xs.length cs ∧ REs w m xs cs L ∧ F = v.ownBlock.toList ++ L ∧ ∀ b ∈ v.ownBlock.toList, n b
  | (false, .int k i), v, F => RC w (.int k i) v [] ∧ F = []
  | (false, .bool b), v, F => RC w (.bool b) v [] ∧ F = []
  | (false, .str s), v, F => RC w (.str s) v [] ∧ F = []
  | (false, .ifc b), v, F => RC w (.ifc b) v [] ∧ F = []
  | (false, .any), v, F => RC w .any v [] ∧ F = []
  | (false, .pt _), _, _ => False
  | (false, .fn _ _), _, _ => False
  | (false, .mp _ _ _), _, _ => False
  | (false, .nl _ _), _, _ => False
  | (true, x), v, F => F = [] ∧ ∃ L, RC w x v L ∧ ∀ b ∈ L, ¬ n b
def OCs (w : World) (B : Nat) (n : Nat → Prop) : List (Bool × CT) → List Value → List Nat → Prop
  | [], vs, F => vs = [] ∧ F = []
  | x :: r, vs, F => ∃ v vs' F1 F2, vs = v :: vs' ∧ F = F1 ++ F2 ∧ OC w B n x v F1 ∧ OCs w B n r vs' F2
def OP (w : World) (B : Nat) (n : Nat → Prop) (x : RT) (v : Value) (F : List Nat) : Prop :=
  (x.1 = true ∧ ∃ vs : List Value, v = .agg vs.toArray ∧ OCs w B n x.2 vs F) ∨ (x.1 = false ∧ ∃ ct, x.2 = [ct] ∧ OC w B n ct v F)
def OPs (w : World) (B : Nat) (n : Nat → Prop) : List RT → List Value → List Nat → Prop
  | [], vs, F => vs = [] ∧ F = []
  | x :: r, vs, F => ∃ v vs' F1 F2, vs = v :: vs' ∧ F = F1 ++ F2 ∧ OP w B n x v F1 ∧ OPs w B n r vs' F2
def ResR (w : World) (B : Nat) (n : Nat → Prop) (res : List RT) (v : Value) : Prop :=
  ∃ (vs : List Value) (F : List Nat), OPs w B n res vs F ∧ Own w B F ∧ v = (if h : vs.toArray.size = 1 then vs.toArray[0] else .tuple vs.toArray)
def Callable (P : Program) (f : FuncId) : Prop := ∃ fn, P.funcs[f]? = some fn ∧ (fn.name == "runtime.NumGoroutine") = false ∧ fn.body.isNone = false
def Sound (P : Program) (J : World → Prop) (f : FuncId) (args : List (Bool × List CT)) (res : List RT) : Prop :=
  Callable P f ∧ ∀ (w : World) (z : Nat → Prop) (vs : List Value), J w → (∀ b, z b → b < w.heap.size) → All2 (ArgR w z) args vs → Calls P f vs.toArray w fun e w' => ∃ v n, e = .returned v ∧ ResR w' w.heap.size n res v ∧ (∀ b, z b → n b) ∧ Below w.heap.size w w'
/-- what is handed in: the block that may be written to is q -/
def HandR (w : World) (z : Nat → Prop) (q : Option Nat) : Hand → Value → Prop
  | .row e m xs, v => flatEs xs = true ∧ 0 < m ∧ v.ownBlock = q ∧ ∃ cs, w.ownsV 0 e m v xs.length cs ∧ REs w m xs cs []
  | .box t cs, v => ∃ b vs L, q = some b ∧ v = .pointer (some ⟨b, 0, none⟩) ∧ w.heap[b]? = some (.cells (vs : List Value).toArray t (0, 0)) ∧ RCs w cs vs L ∧ ∀ a ∈ L, ¬ z a
def inQ (z : Nat → Prop) (q : Option Nat) (a : Nat) : Prop := z a ∨ q = some a
structure BelQ (q : Option Nat) (w w' : World) : Prop where
  os : w'.os = w.os
  tape : w'.tape = w.tape
  output : w'.output = w.output
  size : w.heap.size ≤ w'.heap.size
  block : ∀ k, k < w.heap.size → ¬ q = some k → w'.heap[k]? = w.heap[k]?
def SoundH (P : Program) (J : World → Prop) (JF : Nat → Prop) (f : FuncId) (h : Hand) (args : List (Bool × List CT)) (res : List RT) (h' : Hand) : Prop :=
  Callable P f ∧ ∀ (w : World) (z : Nat → Prop) (q : Option Nat) (v0 : Value) (vs : List Value), J w → (∀ b, q = some b → JF b) → (∀ b, z b → b < w.heap.size ∧ ¬ q = some b) → HandR w (inQ z q) q h v0 → All2 (ArgR w (inQ z q)) args vs →
    Calls P f (v0 :: vs).toArray w fun e w' => ∃ v n, e = .returned v ∧ ResR w' w.heap.size n res v ∧ (∀ b, inQ z q b → n b) ∧ HandR w' n q h' v0 ∧ BelQ q w w'
def nbVal (b : Nat) : NB → Value
  | .box _ _ => .pointer (some ⟨b, 0, none⟩)
  | .map _ _ _ => .map (some b)
def nbR (w : World) (n : Nat → Prop) (b : Nat) : NB → Prop
  | .box t cs => ∃ us L, w.heap[b]? = some (.cells (us : List Value).toArray t (0, 0)) ∧ RCs w cs us L ∧ ∀ x ∈ L, ¬ n x
  | .map kk vk kv => ∃ es c, w.heap[b]? = some (.map es c) ∧ mapOf es = kv ∧ mapOk kk vk kv
/-- the call gives a pointer to a new box, or a new map -/
def SoundB (P : Program) (J : World → Prop) (f : FuncId) (args : List (Bool × List CT)) (nb : NB) : Prop :=
  Callable P f ∧ ∀ (w : World) (z : Nat → Prop) (vs : List Value), J w → (∀ b, z b → b < w.heap.size) → All2 (ArgR w z) args vs →
    Calls P f vs.toArray w fun e w' => ∃ (b : Nat) (n : Nat → Prop), e = .returned (nbVal b nb) ∧ w.heap.size ≤ b ∧ nbR w' n b nb ∧ n b ∧ (∀ x, z x → n x) ∧ Below w.heap.size w w'
/-- the context of a program's calls -/
def SC (P : Program) (J : World → Prop) (JF : Nat → Prop) (hd : FuncId → Nat) : Ctx := ⟨Sound P J, SoundH P J JF, hd, SoundB P J⟩
/-- the table of types is right, and the world is as the contracts ask -/
structure MOk (P : Program) (J : World → Prop) (JF : Nat → Prop) (W : Base) (tt : Nat → Option TI) : Prop where
  tt : ∀ t i, tt t = some i → TOk P t i
  jb : ∀ w : World, Bel W w → J w
  jf : ∀ b, W.heap.size ≤ b → JF b
  xf : ∀ b, W.x b → JF b
section
variable {P : Program} {J : World → Prop} {W : Base} {U : Nat → Prop} {key : Nat} {st : St} {g : Gh} {w w' : World} {a : Act} {tt : Nat → Option TI}
theorem MOk.at {JF : Nat → Prop} (h : MOk P J JF W tt) (hb : Bel W w) : J w := h.jb _ hb
/-- no row of the call's own that is still written to -/
def okAV (ob : Nat → Ob) : AV → Prop
  | .row k => ∃ e m xs, ob k = .row e m xs 0
  | _ => True
theorem avArg_ok [NW] (hI : HI W g st.ob w) {x : AV} {ct : CT} {v : Value} (h : avArg st x = some ct) (hx : AVR g w x v) : ∃ L, RC w ct v L ∧ (okAV st.ob x → ∀ b ∈ L, ¬ g.own b) := by
  cases x with
  | c y => simp only [avArg, Option.some.injEq] at h; subst h; obtain ⟨L, h1, h2⟩ := hx; exact ⟨L, h1, fun _ => h2⟩
  | row k =>
    simp only [avArg] at h
    split at h
    · rename_i e m xs d hk
      simp only [Option.some.injEq] at h; subst h
      obtain ⟨hm, cs, L1, o1, o2, o3, o5⟩ := hI.deep hk
      obtain ⟨A, cap, L0, s1, s2, s3, s4, s5⟩ := Sl.row o1
      refine ⟨L0 ++ L1, ⟨A, cap, cs, L0, L1, by rw [hx.1, s1], s2, s3, rfl, hm, s4, o2⟩, ?_⟩
      rintro ⟨e', m', xs', h0⟩ b mb
      rw [hk] at h0
      have hd : d = 0 := by simp at h0; exact h0.2.2.2
      rcases List.mem_append.1 mb with m1 | m1
      · rcases o5 with ⟨q, _⟩ | ⟨q, _⟩ | ⟨_, _, _, q⟩
        · omega
        · omega
        · exact q b (s5.subset m1)
      · exact o3 b m1
    · simp at h
  | nil e m =>
    simp only [avArg] at h
    split at h
    · rename_i hm
      simp only [Option.some.injEq] at h; subst h
      exact ⟨[], ⟨none, 0, [], [], [], hx, by simp, Nat.zero_le _, rfl, hm, Sl.zero, rfl, rfl⟩, by simp⟩
    · simp at h
  | n y => simp only [avArg, Option.some.injEq] at h; subst h; obtain ⟨L, h1, h2⟩ := NR.toC hx; exact ⟨L, h1, fun _ => h2⟩
  | dead => simp [avArg] at h
theorem avArgs_ok [NW] (hI : HI W g st.ob w) : ∀ {xs : List AV} {cts : List CT} {vs : List Value}, avArgs st xs = some cts → All2 (AVR g w) xs vs → ∃ L, RCs w cts vs L ∧ ((∀ x ∈ xs, okAV st.ob x) → ∀ b ∈ L, ¬ g.own b)
  | [], _, [], h, _ => by simp [avArgs] at h; subst h; exact ⟨[], ⟨rfl, rfl⟩, by simp⟩
  | [], _, _ :: _, _, h => h.elim
  | _ :: _, _, [], _, h => h.elim
  | x :: r, cts, v :: vs, h, hr => by
    simp only [avArgs] at h
    obtain ⟨c1, h1, h⟩ := Option.bind_eq_some_iff.1 h
    obtain ⟨c2, h2, rfl⟩ := Option.map_eq_some_iff.1 h
    obtain ⟨L1, a1, b1⟩ := avArg_ok hI h1 hr.1
    obtain ⟨L2, a2, b2⟩ := avArgs_ok hI h2 hr.2
    refine ⟨L1 ++ L2, ⟨v, vs, L1, L2, rfl, rfl, a1, a2⟩, fun ho b mb => ?_⟩
    rcases List.mem_append.1 mb with m | m
    · exact b1 (ho x (by simp)) b m
    · exact b2 (fun y my => ho y (by simp [my])) b m
def okSV (ob : Nat → Ob) : SV → Prop
  | .p _ cs => ∀ x ∈ cs, okAV ob x
  | _ => True
theorem svArg_ok [NW] (hI : HI W g st.ob w) {x : SV} {r : Bool × List CT} {v : Value} (h : svArg st x = some r) (hx : SVR g w x v) {z : Nat → Prop} (hz : (∀ b, ¬ z b) ∨ (okSV st.ob x ∧ ∀ b, z b → g.own b)) : ArgR w z r v := by
  cases x with
  | p ag cs =>
    simp only [svArg] at h
    obtain ⟨l, hl, rfl⟩ := Option.map_eq_some_iff.1 h
    have av : ∀ {L : List Nat}, ((∀ x ∈ cs, okAV st.ob x) → ∀ b ∈ L, ¬ g.own b) → ∀ b ∈ L, ¬ z b := fun hL b mb => by
      rcases hz with hz | ⟨h1, h2⟩
      · exact hz b
      · exact fun hb => hL h1 b mb (h2 b hb)
    cases ag with
    | true =>
      obtain ⟨vs, rfl, h2⟩ := hx
      obtain ⟨L, hL, hL2⟩ := avArgs_ok hI hl h2
      exact .inl ⟨rfl, vs, L, rfl, hL, av hL2⟩
    | false =>
      obtain ⟨y, rfl, h2⟩ := hx
      simp only [avArgs] at hl
      obtain ⟨c1, h1, hl⟩ := Option.bind_eq_some_iff.1 hl
      simp at hl; subst hl
      obtain ⟨L1, a1, b1⟩ := avArg_ok hI h1 h2
      exact .inr ⟨rfl, c1, L1, rfl, a1, av fun ho => b1 (ho y (by simp))⟩
  | _ => simp [svArg] at h
theorem svArgs_ok [NW] (hI : HI W g st.ob w) {z : Nat → Prop} : ∀ {xs : List SV} {l : List (Bool × List CT)} {vs : List Value}, svArgs st xs = some l → All2 (SVR g w) xs vs → ((∀ b, ¬ z b) ∨ ((∀ x ∈ xs, okSV st.ob x) ∧ ∀ b, z b → g.own b)) → All2 (ArgR w z) l vs
  | [], _, [], h, _, _ => by simp [svArgs] at h; subst h; trivial
  | [], _, _ :: _, _, h, _ => h.elim
  | _ :: _, _, [], _, h, _ => h.elim
  | x :: r, l, v :: vs, h, hr, hz => by
    simp only [svArgs] at h
    obtain ⟨c1, h1, h⟩ := Option.bind_eq_some_iff.1 h
    obtain ⟨c2, h2, rfl⟩ := Option.map_eq_some_iff.1 h
    exact ⟨svArg_ok hI h1 hr.1 (hz.imp id fun q => ⟨q.1 x (by simp), q.2⟩), svArgs_ok hI h2 hr.2 (hz.imp id fun q => ⟨fun y my => q.1 y (by simp [my]), q.2⟩)⟩
theorem okSV_of {vs : List SV} {ob : Nat → Ob} (h : vs.all svNoRow = true) : ∀ x ∈ vs, okSV ob x := fun x mx => by
  have hx := List.all_eq_true.1 h x mx
  cases x with
  | p ag cs =>
    intro y my
    have hy := List.all_eq_true.1 hx y my
    cases y with
    | row k => simp [avNoRow] at hy
    | _ => trivial
  | _ => trivial
/-- a cell of a result, by the values of the keys from lo up to hi -/
def CR (val : Nat → Value) (w : World) (n : Nat → Prop) (l : Bool) (lo hi : Nat) : AV → Value → Prop
  | .row k, v => lo ≤ k ∧ k < hi ∧ v = val k ∧ v.oneCell' = true
  | .c x, v => ∃ L, RC w x v L ∧ ∀ b ∈ L, l = true ∧ ¬ n b
  | _, _ => False
structure Bind (w : World) (B lo hi : Nat) (n : Nat → Prop) (up : List (Nat × Ob)) (F : List Nat) (val : Nat → Value) (O D : Nat → List Nat) : Prop where
  le : lo ≤ hi
  at_ : ∀ k, lo ≤ k → k < hi → ∃ e m xs cs, (∀ ob, updAll ob up k = .row e m xs 2) ∧ 0 < m ∧ w.ownsV B e m (val k) xs.length cs ∧ REs w m xs cs (D k) ∧ O k = (val k).ownBlock.toList ∧ ∀ b ∈ O k, n b
  out : ∀ k, ¬ (lo ≤ k ∧ k < hi) → ∀ ob, updAll ob up k = ob k
  foot : F = (List.range' lo (hi - lo)).flatMap fun k => O k ++ D k
theorem Bind.join [NW] {B lo mid hi : Nat} {n : Nat → Prop} {u1 u2 : List (Nat × Ob)} {F1 F2 : List Nat} {v1 v2 : Nat → Value} {O1 O2 D1 D2 : Nat → List Nat} (h1 : Bind w B lo mid n u1 F1 v1 O1 D1) (h2 : Bind w B mid hi n u2 F2 v2 O2 D2) :
    Bind w B lo hi n (u1 ++ u2) (F1 ++ F2) (fun k => if k < mid then v1 k else v2 k) (fun k => if k < mid then O1 k else O2 k) (fun k => if k < mid then D1 k else D2 k) := by
  have hl := h1.le
  have hr := h2.le
  refine ⟨by omega, fun k a b => ?_, fun k hk ob => ?_, ?_⟩
  · by_cases hk : k < mid
    · obtain ⟨e, m, xs, cs, p1, p2⟩ := h1.at_ k a hk
      simp only [hk, if_true]
      exact ⟨e, m, xs, cs, fun ob => by rw [updAll_append, h2.out k (by omega)]; exact p1 ob, p2⟩
    · obtain ⟨e, m, xs, cs, p1, p2⟩ := h2.at_ k (by omega) b
      simp only [hk, if_false]
      exact ⟨e, m, xs, cs, fun ob => by rw [updAll_append]; exact p1 _, p2⟩
  · rw [updAll_append, h2.out k (by omega), h1.out k (by omega)]
  · rw [h1.foot, h2.foot, show hi - lo = (mid - lo) + (hi - mid) by omega, ← List.range'_append_1, List.flatMap_append, show lo + (mid - lo) = mid by omega]
    congr 1
    · refine flatMap_congr' fun k hk => ?_
      have := (List.mem_range'_1.1 hk).2
      simp [show k < mid by omega]
    · refine flatMap_congr' fun k hk => ?_
      have := (List.mem_range'_1.1 hk).1
      simp [show ¬ k < mid by omega]
theorem CR.mono {val val' : Nat → Value} {n : Nat → Prop} {l : Bool} {lo hi lo' hi' : Nat} {x : AV} {v : Value} (h : CR val w n l lo hi x v) (hl : lo' ≤ lo) (hh : hi ≤ hi') (hv : ∀ k, lo ≤ k → k < hi → val' k = val k) : CR val' w n l lo' hi' x v := by
  cases x with
  | row k => obtain ⟨a, b, c, d⟩ := h; exact ⟨by omega, by omega, by rw [hv k a b]; exact c, d⟩
  | c x => exact h
  | n _ => exact h.elim
  | nil _ _ => exact h.elim
  | dead => exact h.elim
theorem bindCs_ok [NW] {B : Nat} {n : Nat → Prop} {l : Bool} : ∀ {cts : List (Bool × CT)} {vs : List Value} {F : List Nat} (key : Nat), OCs w B n cts vs F → (lendsC cts = true → l = true) → ∃ val O D, Bind w B key (bindCs key cts).2.2 n (bindCs key cts).2.1 F val O D ∧ All2 (CR val w n l key (bindCs key cts).2.2) (bindCs key cts).1 vs
  | [], vs, F, key, h, _ => by
    obtain ⟨rfl, rfl⟩ := h
    exact ⟨fun _ => undef, fun _ => [], fun _ => [], ⟨Nat.le_refl _, fun k a b => by simp [bindCs] at b; omega, fun _ _ _ => rfl, by simp [bindCs]⟩, trivial⟩
  | (true, x) :: r, _, _, key, ⟨v, vs, F1, F2, rfl, rfl, h1, h2⟩, hl => by
    obtain ⟨rfl, L, h3, h4⟩ := h1
    obtain ⟨val, O, D, hb, hr⟩ := bindCs_ok (l := l) key h2 fun e => hl (by simp [lendsC])
    exact ⟨val, O, D, by simpa [bindCs] using hb, ⟨⟨L, h3, fun b mb => ⟨hl (by simp [lendsC]), h4 b mb⟩⟩, hr⟩⟩
  | (false, .sl e m xs) :: r, _, _, key, ⟨v, vs, F1, F2, rfl, rfl, h1, h2⟩, hl => by
    obtain ⟨hm, cs, L, o1, o2, rfl, o3⟩ := h1
    obtain ⟨val, O, D, hb, hr⟩ := bindCs_ok (l := l) (key + 1) h2 fun e => hl (by simpa [lendsC] using e)
    have hone : Bind w B key (key + 1) n [(key, .row e m xs 2)] (v.ownBlock.toList ++ L) (fun _ => v) (fun _ => v.ownBlock.toList) (fun _ => L) :=
      ⟨by omega, fun k a b => ⟨e, m, xs, cs, fun ob => by simp [updAll, upd, show k = key by omega], hm, o1, o2, rfl, o3⟩, fun k hk ob => by simp [updAll, upd, show ¬ k = key by omega], by simp⟩
    refine ⟨_, _, _, hone.join hb, ⟨?_, hr.mono fun x u _ hx => hx.mono (by omega) (Nat.le_refl _) fun k a b => by simp [show ¬ k < key + 1 by omega]⟩⟩
    have hle := hb.le
    obtain ⟨A, cap, hv⟩ := own_val o1
    exact ⟨Nat.le_refl _, by simp only [bindCs]; omega, by simp, by simp [hv, Value.oneCell']⟩
  | (false, .int k i) :: r, _, _, key, ⟨v, vs, F1, F2, rfl, rfl, h1, h2⟩, hl => by
    obtain ⟨h1, rfl⟩ := h1
    obtain ⟨val, O, D, hb, hr⟩ := bindCs_ok (l := l) key h2 fun e => hl (by simpa [lendsC] using e)
    exact ⟨val, O, D, by simpa [bindCs] using hb, ⟨⟨[], h1, by simp⟩, hr⟩⟩
  | (false, .bool k) :: r, _, _, key, ⟨v, vs, F1, F2, rfl, rfl, h1, h2⟩, hl => by
    obtain ⟨h1, rfl⟩ := h1
    obtain ⟨val, O, D, hb, hr⟩ := bindCs_ok (l := l) key h2 fun e => hl (by simpa [lendsC] using e)
    exact ⟨val, O, D, by simpa [bindCs] using hb, ⟨⟨[], h1, by simp⟩, hr⟩⟩
  | (false, .str s) :: r, _, _, key, ⟨v, vs, F1, F2, rfl, rfl, h1, h2⟩, hl => by
    obtain ⟨h1, rfl⟩ := h1
    obtain ⟨val, O, D, hb, hr⟩ := bindCs_ok (l := l) key h2 fun e => hl (by simpa [lendsC] using e)
    exact ⟨val, O, D, by simpa [bindCs] using hb, ⟨⟨[], h1, by simp⟩, hr⟩⟩
  | (false, .ifc s) :: r, _, _, key, ⟨v, vs, F1, F2, rfl, rfl, h1, h2⟩, hl => by
    obtain ⟨h1, rfl⟩ := h1
    obtain ⟨val, O, D, hb, hr⟩ := bindCs_ok (l := l) key h2 fun e => hl (by simpa [lendsC] using e)
    exact ⟨val, O, D, by simpa [bindCs] using hb, ⟨⟨[], h1, by simp⟩, hr⟩⟩
  | (false, .any) :: r, _, _, key, ⟨v, vs, F1, F2, rfl, rfl, h1, h2⟩, hl => by
    obtain ⟨h1, rfl⟩ := h1
    obtain ⟨val, O, D, hb, hr⟩ := bindCs_ok (l := l) key h2 fun e => hl (by simpa [lendsC] using e)
    exact ⟨val, O, D, by simpa [bindCs] using hb, ⟨⟨[], h1, by simp⟩, hr⟩⟩
  | (false, .pt _) :: r, _, _, key, ⟨v, vs, F1, F2, rfl, rfl, h1, h2⟩, hl => h1.elim
  | (false, .fn _ _) :: r, _, _, key, ⟨v, vs, F1, F2, rfl, rfl, h1, h2⟩, hl => h1.elim
  | (false, .mp _ _ _) :: r, _, _, key, ⟨v, vs, F1, F2, rfl, rfl, h1, h2⟩, hl => h1.elim
  | (false, .nl _ _) :: r, _, _, key, ⟨v, vs, F1, F2, rfl, rfl, h1, h2⟩, hl => h1.elim
def PR (val : Nat → Value) (w : World) (n : Nat → Prop) (l : Bool) (lo hi : Nat) (x : Bool × List AV) (v : Value) : Prop :=
  (x.1 = true ∧ ∃ vs : List Value, v = .agg vs.toArray ∧ All2 (CR val w n l lo hi) x.2 vs) ∨ (x.1 = false ∧ ∃ y, x.2 = [y] ∧ CR val w n l lo hi y v)
theorem PR.mono [NW] {val val' : Nat → Value} {n : Nat → Prop} {l : Bool} {lo hi lo' hi' : Nat} {x : Bool × List AV} {v : Value} (h : PR val w n l lo hi x v) (hl : lo' ≤ lo) (hh : hi ≤ hi') (hv : ∀ k, lo ≤ k → k < hi → val' k = val k) : PR val' w n l lo' hi' x v := by
  rcases h with ⟨h1, vs, h2, h3⟩ | ⟨h1, y, h2, h3⟩
  · exact .inl ⟨h1, vs, h2, h3.mono fun a b _ hab => hab.mono hl hh hv⟩
  · exact .inr ⟨h1, y, h2, h3.mono hl hh hv⟩
theorem bindRs_ok [NW] {B : Nat} {n : Nat → Prop} {l : Bool} : ∀ {res : List RT} {vs : List Value} {F : List Nat} (key : Nat), OPs w B n res vs F → (lends res = true → l = true) → ∃ val O D, Bind w B key (bindRs key res).2.2 n (bindRs key res).2.1 F val O D ∧ All2 (PR val w n l key (bindRs key res).2.2) (bindRs key res).1 vs
  | [], vs, F, key, h, _ => by
    obtain ⟨rfl, rfl⟩ := h
    exact ⟨fun _ => undef, fun _ => [], fun _ => [], ⟨Nat.le_refl _, fun k a b => by simp [bindRs] at b; omega, fun _ _ _ => rfl, by simp [bindRs]⟩, trivial⟩
  | x :: r, _, _, key, ⟨v, vs, F1, F2, rfl, rfl, h1, h2⟩, hl => by
    have hl1 : lendsC x.2 = true → l = true := fun e => hl (by simp [lends, e])
    have hl2 : lends r = true → l = true := fun e => hl (by simp [lends, e])
    have hx : ∃ val O D, Bind w B key (bindCs key x.2).2.2 n (bindCs key x.2).2.1 F1 val O D ∧ PR val w n l key (bindCs key x.2).2.2 (x.1, (bindCs key x.2).1) v := by
      rcases h1 with ⟨hx, us, rfl, hc⟩ | ⟨hx, ct, he, hc⟩
      · obtain ⟨val, O, D, hb, hr⟩ := bindCs_ok key hc hl1
        exact ⟨val, O, D, hb, .inl ⟨hx, us, rfl, hr⟩⟩
      · obtain ⟨val, O, D, hb, hr⟩ := bindCs_ok (cts := x.2) (vs := [v]) (F := F1) key (by rw [he]; exact ⟨v, [], F1, [], rfl, by simp, hc, rfl, rfl⟩) hl1
        refine ⟨val, O, D, hb, .inr ⟨hx, ?_⟩⟩
        generalize (bindCs key x.2).1 = l at hr
        cases l with
        | nil => exact hr.elim
        | cons y l =>
          cases l with
          | nil => exact ⟨y, rfl, hr.1⟩
          | cons _ _ => exact hr.2.elim
    obtain ⟨val, O, D, hb, hp⟩ := hx
    obtain ⟨val2, O2, D2, hb2, hr2⟩ := bindRs_ok (bindCs key x.2).2.2 h2 hl2
    have hle2 := hb2.le
    have hle := hb.le
    refine ⟨_, _, _, hb.join hb2, ⟨hp.mono (Nat.le_refl _) hle2 fun k a b => by simp [b], hr2.mono fun y u _ hy => hy.mono hle (Nat.le_refl _) fun k a b => by simp [show ¬ k < (bindCs key x.2).2.2 by omega]⟩⟩
theorem nodup_flat {n : Nat} {G : Nat → List Nat} : ∀ {lo : Nat}, ((List.range' lo n).flatMap G).Nodup → (∀ k, lo ≤ k → k < lo + n → (G k).Nodup) ∧ ∀ k j, lo ≤ k → k < lo + n → lo ≤ j → j < lo + n → k ≠ j → ∀ b ∈ G k, b ∉ G j := by
  induction n with
  | zero => intro lo _; exact ⟨fun k a b => by omega, fun k j a b => by omega⟩
  | succ n ih =>
    intro lo h
    rw [List.range'_succ, List.flatMap_cons, List.nodup_append] at h
    obtain ⟨h1, h2, h3⟩ := h
    obtain ⟨i1, i2⟩ := ih h2
    have mem : ∀ k, lo + 1 ≤ k → k < lo + 1 + n → ∀ b ∈ G k, b ∈ (List.range' (lo + 1) n).flatMap G := fun k a b x mx => List.mem_flatMap.2 ⟨k, List.mem_range'_1.2 ⟨a, b⟩, mx⟩
    refine ⟨fun k a b => ?_, fun k j a b a' b' hkj x mx mj => ?_⟩
    · by_cases e : k = lo
      · subst e; exact h1
      · exact i1 k (by omega) (by omega)
    · by_cases e : k = lo
      · subst e
        exact h3 x mx x (mem j (by omega) (by omega) x mj) rfl
      · by_cases e' : j = lo
        · subst e'
          exact h3 x mj x (mem k (by omega) (by omega) x mx) rfl
        · exact i2 k j (by omega) (by omega) (by omega) (by omega) hkj x mx mj
/-- the state behind a call: the keys of H were handed in -/
theorem call_turn [NW] {ob : Nat → Ob} (hI : HI W g ob w) (hobU : ∀ k, obU U (ob k)) (hgone : ∀ k, ¬ U k → ob k = .gone) (hkey : ∀ k, key ≤ k → k < key + 16 → ¬ U k) {res : List RT} {v : Value} {n : Nat → Prop} (hr : ResR w' w.heap.size n res v) (hn : (bindRs key res).2.2 ≤ key + 16)
    (H : Nat → Prop) (hHU : ∀ k, H k → U k) (obH : Nat → Ob) (hlen : lends res = true → ∀ b, g.own b → n b)
    (hbel : Bel W w') (hsz : w.heap.size ≤ w'.heap.size) (hw : ∀ b, b < w.heap.size → (∀ k, H k → b ∉ g.O k) → w'.heap[b]? = w.heap[b]?)
    (hobH : ∀ k, H k → obU (Uk U key) (obH k)) (hH : ∀ g' : Gh, (∀ b, g'.own b → g.own b ∨ ((∃ k, b ∈ g'.O k) ∧ w.heap.size ≤ b ∧ n b)) → (∀ k, H k → g'.val k = g.val k ∧ g'.O k = g.O k ∧ g'.D k = g.D k) → ∀ k, H k → ObR g' w' k (obH k) ∧ ∀ b ∈ g.O k ++ g.D k, PlainAt w' (obH k) b) :
    ∃ g', HI W g' (fun k => updAll (fun j => open Classical in if H j then obH j else ob j) (bindRs key res).2.1 k) w' ∧ SVR g' w' (resSV (bindRs key res).1) v ∧ (∀ x u, svU U x → SVR g w x u → SVR g' w' x u) ∧ svU (Uk U key) (resSV (bindRs key res).1) ∧
      (∀ k, obU (Uk U key) (updAll (fun j => open Classical in if H j then obH j else ob j) (bindRs key res).2.1 k)) ∧ ∀ k, ¬ Uk U key k → updAll (fun j => open Classical in if H j then obH j else ob j) (bindRs key res).2.1 k = .gone := by
  classical
  obtain ⟨vs, F, h1, hF, hv⟩ := hr
  obtain ⟨val, O, D, hB, hA⟩ := bindRs_ok (l := lends res) key h1 id
  generalize (bindRs key res).2.2 = hi at *
  generalize (bindRs key res).2.1 = up at *
  generalize (bindRs key res).1 = xs at *
  have hle := hB.le
  let T : Nat → Prop := fun k => key ≤ k ∧ k < hi
  have hTU : ∀ k, T k → ¬ U k := fun k hk => hkey k hk.1 (by have := hk.2; omega)
  let g' : Gh := ⟨fun k => if key ≤ k ∧ k < hi then val k else g.val k, fun k => if key ≤ k ∧ k < hi then O k else g.O k, fun k => if key ≤ k ∧ k < hi then D k else g.D k, g.Z⟩
  have gT : ∀ k, T k → g'.val k = val k ∧ g'.O k = O k ∧ g'.D k = D k := fun k hk => ⟨if_pos hk, if_pos hk, if_pos hk⟩
  have gN : ∀ k, ¬ T k → g'.val k = g.val k ∧ g'.O k = g.O k ∧ g'.D k = g.D k := fun k hk => ⟨if_neg hk, if_neg hk, if_neg hk⟩
  have hTH : ∀ k, H k → ¬ T k := fun k hk ht => hTU k ht (hHU k hk)
  have hmemF : ∀ k, T k → ∀ b ∈ O k ++ D k, b ∈ F := fun k hk b mb => by
    rw [hB.foot]
    exact List.mem_flatMap.2 ⟨k, List.mem_range'_1.2 ⟨hk.1, by have := hk.2; omega⟩, mb⟩
  have hge : ∀ k, T k → ∀ b ∈ O k ++ D k, w.heap.size ≤ b := fun k hk b mb => hF.ge b (hmemF k hk b mb)
  have hnd := nodup_flat (hB.foot ▸ hF.nodup)
  have hval : ∀ k, U k → g'.val k = g.val k := fun k hk => (gN k fun h => hTU k h hk).1
  have hown2 : ∀ b, g'.own b → g.own b ∨ ((∃ k, b ∈ g'.O k) ∧ w.heap.size ≤ b ∧ n b) := fun b hb => by
    rcases hb with ⟨k, mk⟩ | hz
    · by_cases hk : T k
      · have mk' := mk
        rw [(gT k hk).2.1] at mk'
        obtain ⟨e, m, ys, cs, _, _, _, _, _, p6⟩ := hB.at_ k hk.1 hk.2
        exact .inr ⟨⟨k, mk⟩, hge k hk b (by simp [mk']), p6 b mk'⟩
      · rw [(gN k hk).2.1] at mk; exact .inl (.inl ⟨k, mk⟩)
    · exact .inl (.inr hz)
  have hown : OGrow g g' w.heap.size := .of (fun b hb => (hown2 b hb).imp id fun h => h.2.1) fun j b mb => by
    by_cases hj : T j
    · rw [(gT j hj).2.2] at mb
      exact .inr (hge j hj b (by simp [mb]))
    · rw [(gN j hj).2.2] at mb; exact .inl (.inr ⟨j, mb⟩)
  have hw' : ∀ b, b < w.heap.size → ¬ g.own b → w'.heap[b]? = w.heap[b]? := fun b hb hnb => hw b hb fun k _ mk => hnb (.inl ⟨k, mk⟩)
  have hmove : ∀ x u, svU U x → SVR g w x u → SVR g' w' x u := fun x u hx hu => hu.move hx hval hw' hown hsz
  have hout : ∀ k, ¬ T k → updAll (fun j => if H j then obH j else ob j) up k = if H k then obH k else ob k := fun k hk => hB.out k hk _
  have hHI : HI W g' (updAll (fun j => if H j then obH j else ob j) up) w' := by
    refine hI.step (U := U) (fun k => T k ∨ H k) hbel rfl (fun b hb' hq => hw b hb' fun k hk => hq k (.inr hk)) (fun k hk => ?_) hobU hval hown (fun k hk => ?_)
    · have k1 : ¬ T k := fun h => hk (.inl h)
      have k2 : ¬ H k := fun h => hk (.inr h)
      exact ⟨by rw [hout k k1, if_neg k2], gN k k1⟩
    · by_cases hTk : T k
      · obtain ⟨e1, e2, e3⟩ := gT k hTk
        obtain ⟨e, m, ys, cs, p1, p2, p3, p4, p5, _⟩ := hB.at_ k hTk.1 hTk.2
        rw [p1, e2, e3]
        refine ⟨⟨p2, cs, D k, ?_, p4, .inl ⟨rfl, by rw [e1, e2]; exact p5, e3⟩⟩, hnd.1 k hTk.1 (by have := hTk.2; omega), fun b mb => ?_, fun j hj b mb mj => ?_⟩
        · rw [e1]; exact ownsV_mono p3 (Nat.zero_le _)
        · exact ⟨.inl (Nat.le_trans hI.below.size (hge k hTk b mb)), hF.plain b (hmemF k hTk b mb)⟩
        · by_cases hTj : T j
          · rw [(gT j hTj).2.1, (gT j hTj).2.2] at mj
            exact hnd.2 k j hTk.1 (by have := hTk.2; omega) hTj.1 (by have := hTj.2; omega) hj b mb mj
          · rw [(gN j hTj).2.1, (gN j hTj).2.2] at mj
            have := hI.lt j b mj
            have := hge k hTk b mb
            omega
      · have hHk : H k := hk.resolve_left hTk
        obtain ⟨e1, e2, e3⟩ := gN k hTk
        obtain ⟨q1, q2⟩ := hH g' hown2 (fun j hj => gN j (hTH j hj)) k hHk
        rw [hout k hTk, if_pos hHk, e2, e3]
        refine ⟨q1, hI.nodup k, fun b mb => ⟨(hI.plain k b mb).1, q2 b mb⟩, fun j hj b mb mj => ?_⟩
        by_cases hTj : T j
        · rw [(gT j hTj).2.1, (gT j hTj).2.2] at mj
          have := hI.lt k b mb
          have := hge j hTj b mj
          omega
        · rw [(gN j hTj).2.1, (gN j hTj).2.2] at mj
          exact hI.apart k j hj b mb mj
  have hAV : ∀ x u, CR val w' n (lends res) key hi x u → AVR g' w' x u ∧ avU (Uk U key) x := fun x u h => by
    cases x with
    | row k =>
      obtain ⟨c1, c2, c3, c4⟩ := h
      exact ⟨⟨by rw [(gT k ⟨c1, c2⟩).1]; exact c3, c4⟩, .inr ⟨c1, by omega⟩⟩
    | c x =>
      obtain ⟨L, h1, h2⟩ := h
      refine ⟨⟨L, h1, fun b mb o => ?_⟩, trivial⟩
      rcases hown2 b o with o | o
      · exact (h2 b mb).2 (hlen (h2 b mb).1 b o)
      · exact (h2 b mb).2 o.2.2
    | n _ => exact h.elim
    | nil _ _ => exact h.elim
    | dead => exact h.elim
  have hAVs : ∀ (ys : List AV) (us : List Value), All2 (CR val w' n (lends res) key hi) ys us → All2 (AVR g' w') ys us ∧ avsU (Uk U key) ys := fun ys us h => by
    induction ys generalizing us with
    | nil => cases us with
      | nil => exact ⟨trivial, fun _ m => by simp at m⟩
      | cons _ _ => exact h.elim
    | cons y ys ih => cases us with
      | nil => exact h.elim
      | cons u us =>
        obtain ⟨i1, i2⟩ := ih us h.2
        refine ⟨⟨(hAV y u h.1).1, i1⟩, fun z mz => ?_⟩
        rcases List.mem_cons.1 mz with rfl | mz
        · exact (hAV z u h.1).2
        · exact i2 z mz
  have hPV : ∀ (y : Bool × List AV) (u : Value), PR val w' n (lends res) key hi y u → PVR g' w' y.1 y.2 u ∧ avsU (Uk U key) y.2 := fun y u h => by
    rcases h with ⟨h1, us, rfl, h3⟩ | ⟨h1, z, h2, h3⟩
    · obtain ⟨i1, i2⟩ := hAVs _ _ h3
      exact ⟨by rw [h1]; exact ⟨us, rfl, i1⟩, i2⟩
    · obtain ⟨i1, i2⟩ := hAV z u h3
      exact ⟨by rw [h1]; exact ⟨z, h2, i1⟩, by rw [h2]; intro q mq; simp at mq; subst mq; exact i2⟩
  have hres : SVR g' w' (resSV xs) v ∧ svU (Uk U key) (resSV xs) := by
    have hlen := hA.len
    by_cases hl : xs.length = 1
    · obtain ⟨x, rfl⟩ := List.length_eq_one_iff.1 hl
      cases vs with
      | nil => simp at hlen
      | cons u us =>
        cases us with
        | cons _ _ => simp at hlen
        | nil =>
          have hvu : v = u := by rw [hv]; rfl
          rw [hvu]
          exact hPV x u hA.1
    · have hvs : ¬ vs.toArray.size = 1 := by simp; omega
      rw [dif_neg hvs] at hv
      have e : resSV xs = .tup xs := by
        cases xs with
        | nil => rfl
        | cons x xs => cases xs with
          | nil => simp at hl
          | cons _ _ => rfl
      rw [e]
      refine ⟨⟨vs, hv, hA.mono fun y u _ h => (hPV y u h).1⟩, fun y my => ?_⟩
      obtain ⟨i, hi'⟩ := List.mem_iff_getElem?.1 my
      obtain ⟨u, _, hu⟩ := hA.at hi'
      exact (hPV y u hu).2
  refine ⟨g', hHI, hres.1, hmove, hres.2, fun k => ?_, fun k hk => ?_⟩
  · by_cases hTk : T k
    · obtain ⟨e, m, ys, cs, p1, _⟩ := hB.at_ k hTk.1 hTk.2
      rw [p1]; trivial
    · rw [hout k hTk]
      split
      · rename_i hHk; exact hobH k hHk
      · exact (hobU k).mono fun _ => .inl
  · have hTk : ¬ T k := fun hTk => hk (.inr ⟨hTk.1, by have := hTk.2; omega⟩)
    have hHk : ¬ H k := fun h => hk (.inl (hHU k h))
    rw [hout k hTk, if_neg hHk]
    exact hgone k fun h => hk (.inl h)
theorem frz_all [NW] (st : St) : ∀ (ks : List Nat) {g : Gh} {ob : Nat → Ob}, HI W g ob w → (∀ k, ob k = st.ob k ∨ ob k = frzOb (st.ob k)) → ∃ g1 : Gh, HI W g1 (updAll ob (frzAll st ks)) w ∧ g1.val = g.val ∧ OLess g1 g ∧ ∀ k, updAll ob (frzAll st ks) k = (if k ∈ ks then frzOb (st.ob k) else ob k)
  | [], g, ob, hI, _ => ⟨g, hI, rfl, OLess.refl _, fun k => by simp [frzAll, updAll]⟩
  | k :: r, g, ob, hI, hob => by
    have hfk : frzOb (ob k) = frzOb (st.ob k) := by
      rcases hob k with h | h
      · rw [h]
      · rw [h]; cases st.ob k <;> rfl
    obtain ⟨g1, h1, h2, h3, _⟩ := frz_one hI k
    rw [hfk] at h1
    have hob' : ∀ j, upd ob k (frzOb (st.ob k)) j = st.ob j ∨ upd ob k (frzOb (st.ob k)) j = frzOb (st.ob j) := fun j => by
      by_cases hj : j = k
      · subst hj; right; rw [upd_same]
      · rw [upd_ne _ _ hj]; exact hob j
    obtain ⟨g2, i1, i2, i3, i4⟩ := frz_all st r h1 hob'
    refine ⟨g2, i1, i2.trans h2, i3.trans h3, fun j => ?_⟩
    show updAll (upd ob k (frzOb (st.ob k))) (frzAll st r) j = _
    rw [i4 j]
    by_cases hj : j = k
    · subst hj; simp [upd]
    · simp [hj, upd]
theorem svArg_frz {st st' : St} (h : ∀ k, st'.ob k = st.ob k ∨ st'.ob k = frzOb (st.ob k)) (x : SV) : svArg st' x = svArg st x := by
  have h1 : ∀ y : AV, avArg st' y = avArg st y := fun y => by
    cases y with
    | row k =>
      simp only [avArg]
      rcases h k with e | e
      · rw [e]
      · rw [e]; cases st.ob k <;> rfl
    | _ => rfl
  have h2 : ∀ ys : List AV, avArgs st' ys = avArgs st ys := fun ys => by
    induction ys with
    | nil => rfl
    | cons y ys ih => simp only [avArgs, h1, ih]
  cases x <;> simp [svArg, h2]
theorem svArgs_frz [NW] {st st' : St} (h : ∀ k, st'.ob k = st.ob k ∨ st'.ob k = frzOb (st.ob k)) : ∀ xs : List SV, svArgs st' xs = svArgs st xs
  | [] => rfl
  | x :: r => by simp only [svArgs]; rw [svArg_frz h x, svArgs_frz h r]
theorem mem_rowsAV {k : Nat} : ∀ {cs : List AV}, AV.row k ∈ cs → k ∈ rowsAV cs
  | [], h => by simp at h
  | x :: r, h => by
    rcases List.mem_cons.1 h with rfl | h
    · simp [rowsAV]
    · have := mem_rowsAV h
      cases x <;> simp [rowsAV, this]
theorem mem_rowsSV [NW] {k : Nat} {a : Bool} {cs : List AV} : ∀ {vs : List SV}, SV.p a cs ∈ vs → AV.row k ∈ cs → k ∈ rowsSV vs
  | [], h, _ => by simp at h
  | x :: r, h, hk => by
    rcases List.mem_cons.1 h with rfl | h
    · simp [rowsSV, mem_rowsAV hk]
    · have := mem_rowsSV h hk
      cases x <;> simp [rowsSV, this]
end
end
section
open Go.RowKit
/-- what a call gives and how the objects turn: 0 the arguments are only read; 1 the first is handed in; 2 what is handed over is only read from then on -/
def callR (S : Ctx) (f : FuncId) (n key : Nat) (st : St) (vs : List SV) (v : SV) (u : List (Nat × Ob)) : Prop :=
  match n with
  | 0 => ∃ l res, svArgs st vs = some l ∧ S.r f l res ∧ (!lends res || vs.all svNoRow) = true ∧ (bindRs key res).2.2 ≤ key + 16 ∧ v = resSV (bindRs key res).1 ∧ u = (bindRs key res).2.1
  | 1 => ∃ v0 r k h l res h', vs = v0 :: r ∧ handOf st v0 = some (k, h) ∧ svArgs st r = some l ∧ S.h f h l res h' ∧ (rowsSV r).all (fun j => j != k) = true ∧ (bindRs key res).2.2 ≤ key + 16 ∧ v = resSV (bindRs key res).1 ∧ u = frzAll st (rowsSV r) ++ ((k, handOb h') :: (bindRs key res).2.1)
  | 3 => ∃ l nb, svArgs st vs = some l ∧ S.b f l nb ∧ v = nbSV key nb ∧ u = frzAll st (rowsSV vs) ++ [(key, nbOb nb)]
  | 4 => ∃ l res, svArgs st (vs.map nlS) = some l ∧ S.r f l res ∧ (!lends res || (vs.map nlS).all svNoRow) = true ∧ (bindRs key res).2.2 ≤ key + 16 ∧ v = resSV (bindRs key res).1 ∧ u = (bindRs key res).2.1
  | _ => ∃ l res, svArgs st vs = some l ∧ S.r f l res ∧ (bindRs key res).2.2 ≤ key + 16 ∧ v = resSV (bindRs key res).1 ∧ u = frzAll st (rowsSV vs) ++ (bindRs key res).2.1
theorem spK_iff {S : Ctx} {f : FuncId} {n key : Nat} {d : Option Nat} {K : St → Prop} {st : St} {vs : List SV} : spK S f n key d K st vs ↔ ∃ v u, callR S f n key st vs v u ∧ K ((st.put d v).app u) := by
  rcases n with _ | _ | _ | _ | _ | n
  · simp only [spK, callR]
    constructor
    · intro h
      unfold optK at h
      split at h
      · rename_i l hl
        obtain ⟨res, h1, h2, h3, h4⟩ := h
        exact ⟨_, _, ⟨l, res, hl, h1, h2, h3, rfl, rfl⟩, h4⟩
      · exact h.elim
    · rintro ⟨v, u, ⟨l, res, hl, h1, h2, h3, rfl, rfl⟩, h4⟩
      rw [hl]
      exact ⟨res, h1, h2, h3, h4⟩
  · simp only [spK, callR]
    constructor
    · intro h
      cases vs with
      | nil => exact h.elim
      | cons v0 r =>
        simp only [hands] at h
        unfold optK at h
        split at h
        · rename_i kh hk
          split at h
          · rename_i l hl
            obtain ⟨res, h', h1, h2, h3, h4⟩ := h
            exact ⟨_, _, ⟨v0, r, kh.1, kh.2, l, res, h', rfl, hk, hl, h1, h2, h3, rfl, rfl⟩, h4⟩
          · exact h.elim
        · exact h.elim
    · rintro ⟨v, u, ⟨v0, r, k, hh, l, res, h', rfl, hk, hl, h1, h2, h3, rfl, rfl⟩, h4⟩
      simp only [hands, hk, hl, optK]
      exact ⟨res, h', h1, h2, h3, h4⟩
  · simp only [spK, callR]
    constructor
    · intro h
      unfold optK at h
      split at h
      · rename_i l hl
        obtain ⟨res, h1, h3, h4⟩ := h
        exact ⟨_, _, ⟨l, res, hl, h1, h3, rfl, rfl⟩, h4⟩
      · exact h.elim
    · rintro ⟨v, u, ⟨l, res, hl, h1, h3, rfl, rfl⟩, h4⟩
      rw [hl]
      exact ⟨res, h1, h3, h4⟩
  · simp only [spK, callR]
    constructor
    · intro h
      unfold optK at h
      split at h
      · rename_i l hl
        obtain ⟨nb, h1, h4⟩ := h
        exact ⟨_, _, ⟨l, nb, hl, h1, rfl, rfl⟩, h4⟩
      · exact h.elim
    · rintro ⟨v, u, ⟨l, nb, hl, h1, rfl, rfl⟩, h4⟩
      rw [hl]
      exact ⟨nb, h1, h4⟩
  · simp only [spK, callR]
    constructor
    · intro h
      unfold optK at h
      split at h
      · rename_i l hl
        obtain ⟨res, h1, h2, h3, h4⟩ := h
        exact ⟨_, _, ⟨l, res, hl, h1, h2, h3, rfl, rfl⟩, h4⟩
      · exact h.elim
    · rintro ⟨v, u, ⟨l, res, hl, h1, h2, h3, rfl, rfl⟩, h4⟩
      rw [hl]
      exact ⟨res, h1, h2, h3, h4⟩
  · simp only [spK, callR]
    constructor
    · intro h
      unfold optK at h
      split at h
      · rename_i l hl
        obtain ⟨res, h1, h3, h4⟩ := h
        exact ⟨_, _, ⟨l, res, hl, h1, h3, rfl, rfl⟩, h4⟩
      · exact h.elim
    · rintro ⟨v, u, ⟨l, res, hl, h1, h3, rfl, rfl⟩, h4⟩
      rw [hl]
      exact ⟨res, h1, h3, h4⟩
section
variable {P : Program} {J : World → Prop} {JF : Nat → Prop} {W : Base} {U : Nat → Prop} {key : Nat} {st : St} {g : Gh} {w w' : World} {a : Act} {tt : Nat → Option TI} {hd : FuncId → Nat}
/-- what is so behind a call -/
def After [NW] (W : Base) (U : Nat → Prop) (key : Nat) (st : St) (g : Gh) (w : World) (v : SV) (u : List (Nat × Ob)) (cv : Value) (w' : World) : Prop :=
  ∃ g', HI W g' (updAll st.ob u) w' ∧ SVR g' w' v cv ∧ (∀ x c, svU U x → SVR g w x c → SVR g' w' x c) ∧ svU (Uk U key) v ∧ (∀ k, obU (Uk U key) (updAll st.ob u k)) ∧ ∀ k, ¬ Uk U key k → updAll st.ob u k = .gone
theorem HI.ownlt [NW] {ob : Nat → Ob} (hI : HI W g ob w) {b : Nat} (h : g.own b) : b < w.heap.size := by
  rcases h with ⟨k, mk⟩ | hz
  · exact hI.lt k b (by simp [mk])
  · rw [hI.gz] at hz
    exact Nat.lt_of_lt_of_le (hI.zx b hz).1 hI.below.size
theorem frz_U {ks : List Nat} {ob : Nat → Ob} (hobU : ∀ k, obU U (st.ob k)) (h : ∀ k, ob k = (if k ∈ ks then frzOb (st.ob k) else st.ob k)) : ∀ k, obU U (ob k) := fun k => by
  rw [h k]
  have := hobU k
  split
  · cases hk : st.ob k <;> simp only [frzOb] <;> first | trivial | (rw [hk] at this; exact this)
  · exact this
theorem frz_ok [NW] {vs : List SV} {l : List (Bool × List CT)} {st1 : St} (h : ∀ k, st1.ob k = (if k ∈ rowsSV vs then frzOb (st.ob k) else st.ob k)) (hl : svArgs st vs = some l) : ∀ x ∈ vs, okSV st1.ob x := by
  have key : ∀ (cs : List AV) (l : List CT), avArgs st cs = some l → (∀ k, AV.row k ∈ cs → k ∈ rowsSV vs) → ∀ y ∈ cs, okAV st1.ob y := by
    intro cs
    induction cs with
    | nil => intro l _ _ y my; simp at my
    | cons c cs ih =>
      intro l hl hk y my
      simp only [avArgs] at hl
      obtain ⟨c1, h1, hl⟩ := Option.bind_eq_some_iff.1 hl
      obtain ⟨c2, h2, _⟩ := Option.map_eq_some_iff.1 hl
      rcases List.mem_cons.1 my with rfl | my
      · cases y with
        | row k =>
          simp only [avArg] at h1
          split at h1
          · rename_i e m xs d hob
            exact ⟨e, m, xs, by rw [h k, if_pos (hk k (by simp)), hob]; rfl⟩
          · simp at h1
        | _ => trivial
      · exact ih c2 h2 (fun k mk => hk k (by simp [mk])) y my
  have all : ∀ (xs : List SV) (l : List (Bool × List CT)), svArgs st xs = some l → (∀ x ∈ xs, x ∈ vs) → ∀ x ∈ xs, okSV st1.ob x := by
    intro xs
    induction xs with
    | nil => intro l _ _ x mx; simp at mx
    | cons x xs ih =>
      intro l hl hm y my
      simp only [svArgs] at hl
      obtain ⟨c1, h1, hl⟩ := Option.bind_eq_some_iff.1 hl
      obtain ⟨c2, h2, _⟩ := Option.map_eq_some_iff.1 hl
      rcases List.mem_cons.1 my with rfl | my
      · cases y with
        | p ag cs =>
          simp only [svArg] at h1
          obtain ⟨l1, h3, _⟩ := Option.map_eq_some_iff.1 h1
          exact key cs l1 h3 (fun k mk => mem_rowsSV (hm (.p ag cs) (by simp)) mk)
        | _ => trivial
      · exact ih c2 h2 (fun z mz => hm z (by simp [mz])) y my
  exact all vs l hl (fun _ h => h)
theorem updIf {k : Nat} {inst : ∀ j, Decidable (j = k)} (ob : Nat → Ob) (o : Ob) : (fun j => @ite _ (j = k) (inst j) o (ob j)) = upd ob k o := by
  funext j
  simp only [upd]
  split <;> rfl
theorem callR0_sound [NW] (htt : MOk P J JF W tt) {f : FuncId} {vs : List SV} {cvs : List Value} {v : SV} {u : List (Nat × Ob)} (h : callR (SC P J JF hd) f 0 key st vs v u) (hH : HI W g st.ob w) (hU : StU U st) (hkey : ∀ k, key ≤ k → k < key + 16 → ¬ U k) (hvs : All2 (SVR g w) vs cvs) (hvU : ∀ x ∈ vs, svU U x) :
    Callable P f ∧ Calls P f cvs.toArray w fun e w' => ∃ cv, e = .returned cv ∧ After W U key st g w v u cv w' := by
  obtain ⟨l, res, hl, hs, hlend, hn, rfl, rfl⟩ := h
  obtain ⟨hc, hC⟩ := hs
  refine ⟨hc, ?_⟩
  by_cases hle : lends res = true
  · have hno : ∀ x ∈ vs, okSV st.ob x := okSV_of (by simpa [hle] using hlend)
    refine (hC w g.own cvs (htt.at hH.below) (fun b hb => hH.ownlt hb) (svArgs_ok hH hl hvs (.inr ⟨hno, fun _ h => h⟩))).mono ?_
    rintro e w' ⟨cv, n, rfl, hr, hz, hb⟩
    obtain ⟨g', t1, t2, t3, t4, t5, t6⟩ := call_turn hH hU.ob hU.gone hkey hr hn (fun _ => False) (fun _ h => h.elim) (fun _ => .gone) (fun _ b hb => hz b hb) (hH.below.trans hb) hb.size (fun b hb' _ => hb.block b hb') (fun _ h => h.elim) (fun _ _ _ _ h => h.elim)
    simp only [if_false] at t1 t5 t6
    exact ⟨cv, rfl, g', t1, t2, t3, t4, t5, t6⟩
  · refine (hC w (fun _ => False) cvs (htt.at hH.below) (fun b hb => hb.elim) (svArgs_ok hH hl hvs (.inl fun _ h => h))).mono ?_
    rintro e w' ⟨cv, n, rfl, hr, hz, hb⟩
    obtain ⟨g', t1, t2, t3, t4, t5, t6⟩ := call_turn hH hU.ob hU.gone hkey hr hn (fun _ => False) (fun _ h => h.elim) (fun _ => .gone) (fun h => absurd h hle) (hH.below.trans hb) hb.size (fun b hb' _ => hb.block b hb') (fun _ h => h.elim) (fun _ _ _ _ h => h.elim)
    simp only [if_false] at t1 t5 t6
    exact ⟨cv, rfl, g', t1, t2, t3, t4, t5, t6⟩
theorem nlA_ok [NW] {x : AV} {v : Value} (h : AVR g w x v) : AVR g w (nlA x) v := by
  cases x with
  | nil e m => exact ⟨[], ⟨h, rfl⟩, by simp⟩
  | _ => exact h
theorem nlAs_ok [NW] : ∀ {xs : List AV} {vs : List Value}, All2 (AVR g w) xs vs → All2 (AVR g w) (xs.map nlA) vs
  | [], [], _ => trivial
  | [], _ :: _, h => h.elim
  | _ :: _, [], h => h.elim
  | _ :: _, _ :: _, h => ⟨nlA_ok h.1, nlAs_ok h.2⟩
theorem nlS_ok [NW] {x : SV} {v : Value} (h : SVR g w x v) : SVR g w (nlS x) v := by
  cases x with
  | p a cs =>
    cases a with
    | true => obtain ⟨vs, h1, h2⟩ := h; exact ⟨vs, h1, nlAs_ok h2⟩
    | false => obtain ⟨y, rfl, h2⟩ := h; exact ⟨_, rfl, nlA_ok h2⟩
  | _ => exact h
theorem nlSs_ok [NW] : ∀ {xs : List SV} {vs : List Value}, All2 (SVR g w) xs vs → All2 (SVR g w) (xs.map nlS) vs
  | [], [], _ => trivial
  | [], _ :: _, h => h.elim
  | _ :: _, [], h => h.elim
  | _ :: _, _ :: _, h => ⟨nlS_ok h.1, nlSs_ok h.2⟩
theorem nlS_U {x : SV} (h : svU U x) : svU U (nlS x) := by
  cases x with
  | p a cs =>
    intro y my
    obtain ⟨z, mz, rfl⟩ := List.mem_map.1 my
    have hz := h z mz
    cases z <;> first | exact hz | trivial
  | _ => exact h
theorem callR_sound [NW] (htt : MOk P J JF W tt) {f : FuncId} {n : Nat} {vs : List SV} {cvs : List Value} {v : SV} {u : List (Nat × Ob)} (h : callR (SC P J JF hd) f n key st vs v u) (hH : HI W g st.ob w) (hU : StU U st) (hkey : ∀ k, key ≤ k → k < key + 16 → ¬ U k) (hvs : All2 (SVR g w) vs cvs) (hvU : ∀ x ∈ vs, svU U x) :
    Callable P f ∧ Calls P f cvs.toArray w fun e w' => ∃ cv, e = .returned cv ∧ After W U key st g w v u cv w' := by
  unfold callR at h
  split at h
  · exact callR0_sound htt (f := f) (vs := vs) h hH hU hkey hvs hvU
  · obtain ⟨v0, r, k, hh, l, res, h', rfl, hk, hl, hs, hne, hn, rfl, rfl⟩ := h
    obtain ⟨hc, hC⟩ := hs
    refine ⟨hc, ?_⟩
    cases cvs with
    | nil => exact hvs.elim
    | cons c0 cr =>
    obtain ⟨hv0, hvr⟩ := hvs
    obtain ⟨g1, i1, i2, i3, i4⟩ := frz_all st (rowsSV r) hH (fun k => .inl rfl)
    let st1 : St := ⟨st.sl, updAll st.ob (frzAll st (rowsSV r)), st.n⟩
    have hob1 : ∀ k, st1.ob k = (if k ∈ rowsSV r then frzOb (st.ob k) else st.ob k) := i4
    have hfr : ∀ k, st1.ob k = st.ob k ∨ st1.ob k = frzOb (st.ob k) := fun k => by
      rw [hob1 k]; split
      · exact .inr rfl
      · exact .inl rfl
    have hl1 : svArgs st1 r = some l := by rw [svArgs_frz hfr]; exact hl
    have hok1 := frz_ok (st1 := st1) hob1 hl
    have hkr : k ∉ rowsSV r := fun hm => by
      have := List.all_eq_true.1 hne k hm
      simp at this
    have hk1 : st1.ob k = st.ob k := by rw [hob1 k, if_neg hkr]
    have hUk : st.ob k ≠ .gone → U k := fun hg => Classical.byContradiction fun hn => hg (hU.gone k hn)
    have hobU1 : ∀ j, obU U (st1.ob j) := frz_U hU.ob hob1
    have hgone1 : ∀ j, ¬ U j → st1.ob j = .gone := fun j hj => by
      have e := hU.gone j hj
      rcases hfr j with h | h <;> rw [h, e] <;> rfl
    have hv0' : SVR g1 w v0 c0 := hv0.less i2 i3
    have hvr' : All2 (SVR g1 w) r cr := hvr.mono fun x c _ hx => hx.less i2 i3
    -- the block that is handed in
    have hhand : ∃ q : Option Nat, HandR w (inQ (fun b => g1.own b ∧ ¬ q = some b) q) q hh c0 ∧ g1.O k = q.toList ∧ g1.D k = [] ∧ c0 = g1.val k ∧ st.ob k ≠ .gone := by
      unfold handOf at hk
      split at hk
      · rename_i k'
        split at hk
        · rename_i t cs hob
          split at hk
          · rename_i hnr
            obtain ⟨l', hl', e⟩ := Option.map_eq_some_iff.1 hk
            simp only [Prod.mk.injEq] at e
            obtain ⟨rfl, rfl⟩ := e
            have ho := i1.obs k'
            rw [show updAll st.ob (frzAll st (rowsSV r)) k' = .box t cs from hk1.trans hob] at ho
            obtain ⟨b, vs, h1, h2, h3, h4, h5⟩ := ho
            obtain ⟨b', h6, h7⟩ := hv0'
            have hb : b' = b := by rw [h6] at h1; simpa using h1
            subst hb
            have hl1' : avArgs st1 cs = some l' := by
              have := svArg_frz hfr (.p true cs)
              simp only [svArg, hl'] at this
              obtain ⟨x, hx, hx2⟩ := Option.map_eq_some_iff.1 this
              simp only [Prod.mk.injEq, true_and] at hx2
              rw [hx, hx2]
            obtain ⟨L, hL, hL2⟩ := avArgs_ok (st := st1) i1 hl1' h5
            refine ⟨some b', ⟨b', vs, L, rfl, h7, h4, hL, fun x mx hx => ?_⟩, by simp [h2], h3, by rw [h7, h6], by rw [hob]; simp⟩
            refine hL2 (fun y my => ?_) x mx ?_
            · have := List.all_eq_true.1 hnr y my
              cases y <;> simp [avNoRow] at this <;> trivial
            · rcases hx with hx | hx
              · exact hx.1
              · simp only [Option.some.injEq] at hx
                subst hx
                exact .inl ⟨k', by simp [h2]⟩
          · simp at hk
        · simp at hk
      · rename_i k'
        split at hk
        · rename_i e m xs d hob
          split at hk
          · rename_i hd2
            simp only [Option.some.injEq, Prod.mk.injEq] at hk
            obtain ⟨rfl, rfl⟩ := hk
            have ho := i1.obs k'
            rw [show updAll st.ob (frzAll st (rowsSV r)) k' = .row e m xs d from hk1.trans hob] at ho
            obtain ⟨hm, cs, L, h1, h2, h3⟩ := ho
            obtain rfl := REs_flat h2 hd2.2
            obtain ⟨x, hx1, hx2⟩ := hv0'
            simp only [List.cons.injEq, and_true] at hx1
            subst hx1
            rcases h3 with ⟨_, h3, h4⟩ | ⟨h3, _⟩ | ⟨h3, _⟩
            · exact ⟨(g1.val k').ownBlock, ⟨hd2.2, hm, by rw [hx2.1], cs, by rw [hx2.1]; exact h1, h2⟩, h3, h4, hx2.1, by rw [hob]; simp⟩
            · omega
            · omega
          · simp at hk
        · simp at hk
      · simp at hk
    obtain ⟨q, hq1, hq2, hq3, hq4, hq5⟩ := hhand
    have hkU := hUk hq5
    have hqo : ∀ b, q = some b → g1.own b := fun b hb => .inl ⟨k, by simp [hq2, hb]⟩
    have hin : ∀ b, g1.own b → inQ (fun b => g1.own b ∧ ¬ q = some b) q b := fun b hb => by
      by_cases hqb : q = some b
      · exact .inr hqb
      · exact .inl ⟨hb, hqb⟩
    have hargs : All2 (ArgR w (inQ (fun b => g1.own b ∧ ¬ q = some b) q)) l cr := svArgs_ok (st := st1) i1 hl1 hvr' (.inr ⟨hok1, fun b hb => by
      rcases hb with hb | hb
      · exact hb.1
      · exact hqo b hb⟩)
    have hqf : ∀ b, q = some b → JF b := fun b hb => by
      rcases (i1.plain k b (by simp [hq2, hb])).1 with h | h
      · exact htt.jf b h
      · exact htt.xf b h
    refine (hC w _ q c0 cr (htt.at hH.below) hqf (fun b hb => ⟨i1.ownlt hb.1, hb.2⟩) hq1 hargs).mono ?_
    rintro e w' ⟨cv, n, rfl, hr, hz, hb', hbq⟩
    have hbel : Bel W w' := ⟨hbq.os.trans hH.below.os, hbq.tape.trans hH.below.tape, hbq.output.trans hH.below.output, Nat.le_trans hH.below.size hbq.size, fun i hi hx => by
      rw [hbq.block i (Nat.lt_of_lt_of_le hi hH.below.size) fun hqi => ?_]
      · exact hH.below.block i hi hx
      · rcases (i1.plain k i (by simp [hq2, hqi])).1 with h | h
        · omega
        · exact hx h⟩
    obtain ⟨g', t1, t2, t3, t4, t5, t6⟩ := call_turn i1 hobU1 hgone1 hkey hr hn (fun j => j = k) (fun j hj => by rw [hj]; exact hkU) (fun _ => handOb h') (fun _ b hb => hz b (hin b hb)) hbel hbq.size
      (fun b hb hk' => hbq.block b hb fun hqb => hk' k rfl (by simp [hq2, hqb]))
      (fun j _ => by
        cases h' with
        | row e m xs => trivial
        | box t cs => intro y my; simp only [List.mem_map] at my; obtain ⟨x, _, rfl⟩ := my; trivial)
      (fun g' ho hg' j hj => by
        subst hj
        obtain ⟨e1, e2, e3⟩ := hg' j rfl
        have hno : ∀ b, ¬ n b → ¬ g'.own b := fun b hnb hob => by
          rcases ho b hob with h | h
          · exact hnb (hz b (hin b h))
          · exact hnb h.2.2
        cases h' with
        | row e m xs =>
          obtain ⟨p1, p2, p3, cs, p4, p5⟩ := hb'
          refine ⟨⟨p2, cs, [], by rw [e1, ← hq4]; exact p4, p5, .inl ⟨rfl, by rw [e2, hq2, e1, ← hq4, p3], by rw [e3, hq3]⟩⟩, fun b mb => ?_⟩
          rw [hq2, hq3] at mb
          simp at mb
          rcases p4.2 with ⟨h0, _⟩ | ⟨gg, o, cap, cur, hv, _, hcc, _⟩
          · rw [h0] at p3; simp [Value.ownBlock] at p3; rw [← p3] at mb; simp at mb
          · rw [hv] at p3; simp only [Value.ownBlock] at p3; rw [mb] at p3; simp at p3; subst p3; exact ⟨_, _, hcc⟩
        | box t cs =>
          obtain ⟨b, vs, L, p1, p2, p3, p4, p5⟩ := hb'
          refine ⟨⟨b, vs, by rw [e1, ← hq4]; exact p2, by rw [e2, hq2, p1]; rfl, by rw [e3, hq3], p3, p4.avr fun x mx => hno x (p5 x mx)⟩, fun x mx => ?_⟩
          rw [hq2, hq3, p1] at mx
          simp at mx
          subst mx
          exact ⟨_, _, p3⟩)
    have hup : updAll st.ob (frzAll st (rowsSV r) ++ ((k, handOb h') :: (bindRs key res).2.1)) = updAll (upd (updAll st.ob (frzAll st (rowsSV r))) k (handOb h')) (bindRs key res).2.1 := by rw [updAll_append]; rfl
    have hif := updIf (k := k) (inst := fun j => Classical.propDecidable (j = k)) (updAll st.ob (frzAll st (rowsSV r))) (handOb h')
    have t1' : HI W g' (updAll (upd (updAll st.ob (frzAll st (rowsSV r))) k (handOb h')) (bindRs key res).2.1) w' := hif ▸ t1
    have t5' : ∀ j, obU (Uk U key) (updAll (upd (updAll st.ob (frzAll st (rowsSV r))) k (handOb h')) (bindRs key res).2.1 j) := hif ▸ t5
    have t6' : ∀ j, ¬ Uk U key j → updAll (upd (updAll st.ob (frzAll st (rowsSV r))) k (handOb h')) (bindRs key res).2.1 j = .gone := hif ▸ t6
    rw [← hup] at t1' t5' t6'
    exact ⟨cv, rfl, g', t1', t2, fun x c hx hc => t3 x c hx (hc.less i2 i3), t4, t5', t6'⟩
  · obtain ⟨l, nb, hl, hs, rfl, rfl⟩ := h
    obtain ⟨hc, hC⟩ := hs
    refine ⟨hc, ?_⟩
    obtain ⟨g1, i1, i2, i3, i4⟩ := frz_all st (rowsSV vs) hH (fun k => .inl rfl)
    let st1 : St := ⟨st.sl, updAll st.ob (frzAll st (rowsSV vs)), st.n⟩
    have hob1 : ∀ k, st1.ob k = (if k ∈ rowsSV vs then frzOb (st.ob k) else st.ob k) := i4
    have hfr : ∀ k, st1.ob k = st.ob k ∨ st1.ob k = frzOb (st.ob k) := fun k => by
      rw [hob1 k]; split
      · exact .inr rfl
      · exact .inl rfl
    have hl1 : svArgs st1 vs = some l := by rw [svArgs_frz hfr]; exact hl
    have hok1 := frz_ok (st1 := st1) hob1 hl
    have hobU1 : ∀ j, obU U (st1.ob j) := frz_U hU.ob hob1
    have hgone1 : ∀ j, ¬ U j → st1.ob j = .gone := fun j hj => by
      have e := hU.gone j hj
      rcases hfr j with h | h <;> rw [h, e] <;> rfl
    have hvs' : All2 (SVR g1 w) vs cvs := hvs.mono fun x c _ hx => hx.less i2 i3
    refine (hC w g1.own cvs (htt.at hH.below) (fun b hb => i1.ownlt hb) (svArgs_ok (st := st1) i1 hl1 hvs' (.inr ⟨hok1, fun _ h => h⟩))).mono ?_
    rintro e w' ⟨b, n, rfl, hb, hnR, hnb, hz, hbel⟩
    have hkU : ¬ U key := hkey key (Nat.le_refl _) (by omega)
    let g' : Gh := ⟨fun k => if k = key then nbVal b nb else g1.val k, fun k => if k = key then [b] else g1.O k, fun k => if k = key then [] else g1.D k, g1.Z⟩
    have hval : ∀ k, U k → g'.val k = g1.val k := fun k hk => if_neg fun (e : k = key) => hkU (e ▸ hk)
    have hown2 : ∀ x, g'.own x → g1.own x ∨ x = b := fun x hx => by
      rcases hx with ⟨k, mk⟩ | hx
      · simp only [g'] at mk
        split at mk
        · exact .inr (by simpa using mk)
        · exact .inl (.inl ⟨k, mk⟩)
      · exact .inl (.inr hx)
    have hown : OGrow g1 g' w.heap.size := .of (fun x hx => (hown2 x hx).imp id fun (e : x = b) => by rw [e]; exact hb) fun j x mx => by
      simp only [g'] at mx
      split at mx
      · simp at mx
      · exact .inl (.inr ⟨j, mx⟩)
    have hno : ∀ x, ¬ n x → ¬ g'.own x := fun x mx hx => mx (by
      rcases hown2 x hx with h | h
      · exact hz x h
      · rw [h]; exact hnb)
    have hup : updAll st.ob (frzAll st (rowsSV vs) ++ [(key, nbOb nb)]) = upd (updAll st.ob (frzAll st (rowsSV vs))) key (nbOb nb) := by rw [updAll_append]; rfl
    have hvk : g'.val key = nbVal b nb := if_pos rfl
    have hplain : PlainAt w' (nbOb nb) b := by
      cases nb with
      | box t cs => obtain ⟨us, L, p1, _⟩ := hnR; exact ⟨_, _, p1⟩
      | map kk vk kv => obtain ⟨es, c, p1, _⟩ := hnR; exact ⟨_, _, p1⟩
    refine ⟨_, rfl, g', ?_, ?_, fun x c hx hc => (hc.less i2 i3).move hx hval (fun b hb _ => hbel.block b hb) hown hbel.size, ?_, fun k => ?_, fun k hk => ?_⟩
    · rw [hup]
      refine i1.step (U := U) (fun k => k = key) (hH.below.trans hbel) rfl (fun b hb _ => hbel.block b hb) (fun k hk => ⟨upd_ne _ _ hk, if_neg hk, if_neg hk, if_neg hk⟩) hobU1 hval hown (fun k hk => ?_)
      subst hk
      have e1 : g'.O k = [b] := if_pos rfl
      have e2 : g'.D k = [] := if_pos rfl
      rw [upd_same, e1, e2]
      refine ⟨?_, by simp, fun x mx => ?_, fun j hj x mx mj => ?_⟩
      · cases nb with
        | box t cs => obtain ⟨us, L, p1, p2, p3⟩ := hnR; exact ⟨b, us, hvk, e1, e2, p1, p2.avr fun x mx => hno x (p3 x mx)⟩
        | map kk vk kv => obtain ⟨es, c, p1, p2⟩ := hnR; exact ⟨b, es, c, hvk, e1, e2, p1, p2⟩
      · simp at mx; subst mx; exact ⟨.inl (Nat.le_trans hH.below.size hb), hplain⟩
      · simp at mx; subst mx
        have e3 : g'.O j = g1.O j := if_neg fun e => hj e.symm
        have e4 : g'.D j = g1.D j := if_neg fun e => hj e.symm
        rw [e3, e4] at mj
        have := i1.lt j x mj
        omega
    · cases nb with
      | box t cs => exact ⟨b, hvk, rfl⟩
      | map kk vk kv => exact ⟨.row key, rfl, hvk.symm, rfl⟩
    · cases nb with
      | box t cs => exact .inr ⟨Nat.le_refl _, by omega⟩
      | map kk vk kv => intro y my; simp at my; subst my; exact .inr ⟨Nat.le_refl _, by omega⟩
    · rw [hup]
      by_cases hk : k = key
      · subst hk; rw [upd_same]
        cases nb with
        | box t cs => intro y my; simp only [List.mem_map] at my; obtain ⟨x, _, rfl⟩ := my; trivial
        | map kk vk kv => trivial
      · rw [upd_ne _ _ hk]; exact (hobU1 k).mono fun _ => .inl
    · have hk2 : ¬ k = key := fun e => hk (.inr ⟨by omega, by omega⟩)
      rw [hup, upd_ne _ _ hk2]
      exact hgone1 k fun h => hk (.inl h)
  · exact callR0_sound htt (f := f) (vs := vs.map nlS) h hH hU hkey (nlSs_ok hvs) (fun x hx => by
      obtain ⟨y, my, rfl⟩ := List.mem_map.1 hx
      exact nlS_U (hvU y my))
  · obtain ⟨l, res, hl, hs, hn, rfl, rfl⟩ := h
    obtain ⟨hc, hC⟩ := hs
    refine ⟨hc, ?_⟩
    obtain ⟨g1, i1, i2, i3, i4⟩ := frz_all st (rowsSV vs) hH (fun k => .inl rfl)
    let st1 : St := ⟨st.sl, updAll st.ob (frzAll st (rowsSV vs)), st.n⟩
    have hob1 : ∀ k, st1.ob k = (if k ∈ rowsSV vs then frzOb (st.ob k) else st.ob k) := i4
    have hfr : ∀ k, st1.ob k = st.ob k ∨ st1.ob k = frzOb (st.ob k) := fun k => by
      rw [hob1 k]; split
      · exact .inr rfl
      · exact .inl rfl
    have hl1 : svArgs st1 vs = some l := by rw [svArgs_frz hfr]; exact hl
    have hok1 := frz_ok (st1 := st1) hob1 hl
    have hobU1 : ∀ j, obU U (st1.ob j) := frz_U hU.ob hob1
    have hgone1 : ∀ j, ¬ U j → st1.ob j = .gone := fun j hj => by
      have e := hU.gone j hj
      rcases hfr j with h | h <;> rw [h, e] <;> rfl
    have hvs' : All2 (SVR g1 w) vs cvs := hvs.mono fun x c _ hx => hx.less i2 i3
    refine (hC w g1.own cvs (htt.at hH.below) (fun b hb => i1.ownlt hb) (svArgs_ok (st := st1) i1 hl1 hvs' (.inr ⟨hok1, fun _ h => h⟩))).mono ?_
    rintro e w' ⟨cv, n, rfl, hr, hz, hb⟩
    obtain ⟨g', t1, t2, t3, t4, t5, t6⟩ := call_turn i1 hobU1 hgone1 hkey hr hn (fun _ => False) (fun _ h => h.elim) (fun _ => .gone) (fun _ b hb => hz b hb) (hH.below.trans hb) hb.size (fun b hb' _ => hb.block b hb') (fun _ h => h.elim) (fun _ _ _ _ h => h.elim)
    simp only [if_false, ← updAll_append] at t1 t5 t6
    exact ⟨cv, rfl, g', t1, t2, fun x c hx hc => t3 x c hx (hc.less i2 i3), t4, t5, t6⟩
end
end
section
open Go.RowKit
section
variable {P : Program} {J : World → Prop} {JF : Nat → Prop} {W : Base} {U : Nat → Prop} {key : Nat} {st : St} {w w' : World} {a : Act} {tt : Nat → Option TI} {hs : FuncId → Nat} {Q : Exit → Act → World → Prop}
theorem put_tmps (a : Act) (d : Option Nat) (v : Value) : (a.put d v).tmps.size = a.tmps.size := by cases d <;> simp [Act.put]
theorem put_inv [NW] {g g' : Gh} {d : Option Nat} {v : SV} {u : List (Nat × Ob)} {cv : Value} (hS : ∀ t, SVR g w (st.sl t) (a.tmps.getD t undef)) (hU : StU U st) (hdef : a.defers = []) (hh : ∀ v, W.hv = some v → a.tmps.getD 0 undef = v) (hd : ∀ t, d = some t → t < a.tmps.size ∧ (W.hv = none ∨ t ≠ 0))
    (h1 : HI W g' (updAll st.ob u) w') (h2 : SVR g' w' v cv) (h3 : ∀ x c, svU U x → SVR g w x c → SVR g' w' x c) (h4 : svU (Uk U key) v) (h5 : ∀ k, obU (Uk U key) (updAll st.ob u k)) (h6 : ∀ k, ¬ Uk U key k → updAll st.ob u k = .gone) :
    Inv W (Uk U key) ((st.put d v).app u) (a.put d cv) w' := by
  cases d with
  | none =>
    refine ⟨⟨g', h1, fun t => h3 _ _ (hU.sl t) (hS t)⟩, ⟨fun t => (hU.sl t).mono fun _ => .inl, h5, h6⟩, hdef, hh⟩
  | some d =>
    have hd' := (hd d rfl).1
    refine ⟨⟨g', h1, fun t => ?_⟩, ⟨fun t => ?_, h5, h6⟩, hdef, fun u hu => ?_⟩
    · show SVR g' w' (upd st.sl d v t) ((a.tmps.setIfInBounds d cv).getD t undef)
      by_cases ht : t = d
      · subst ht
        rw [upd_same]
        simpa [Array.getD_eq_getD_getElem?, Array.getElem?_setIfInBounds, hd'] using h2
      · rw [upd_ne _ _ ht]
        have : (a.tmps.setIfInBounds d cv).getD t undef = a.tmps.getD t undef := by
          simp [Array.getD_eq_getD_getElem?, Array.getElem?_setIfInBounds_ne (fun e : d = t => ht e.symm)]
        rw [this]
        exact h3 _ _ (hU.sl t) (hS t)
    · show svU (Uk U key) (upd st.sl d v t)
      by_cases ht : t = d
      · subst ht; rw [upd_same]; exact h4
      · rw [upd_ne _ _ ht]; exact (hU.sl t).mono fun _ => .inl
    · show (a.tmps.setIfInBounds d cv).getD 0 undef = u
      have hne : d ≠ 0 := by
        rcases (hd d rfl).2 with h | h
        · rw [h] at hu; simp at hu
        · exact h
      rw [← hh u hu]
      simp [Array.getD_eq_getD_getElem?, Array.getElem?_setIfInBounds_ne hne]
theorem clo_vals [NW] {g : Gh} {x : SV} {v : Value} {fc : FuncId × List CT} (hfc : cloOf x = some fc) (hs : SVR g w x v) : ∃ cs : List Value, v = .func (.func fc.1) #[] cs.toArray ∧ All2 (SVR g w) (fc.2.map capSV) cs := by
  unfold cloOf at hfc
  split at hfc
  · rename_i f es
    simp only [Option.some.injEq] at hfc
    subst hfc
    obtain ⟨y, hy, hs⟩ := hs
    simp at hy; subst hy
    obtain ⟨L, ⟨vs, h1, h2⟩, h3⟩ := hs
    refine ⟨vs, h1, ?_⟩
    have := h2.avr (g := g) h3
    have conv : ∀ (es : List CT) (vs : List Value), All2 (AVR g w) (es.map AV.c) vs → All2 (SVR g w) (es.map capSV) vs := by
      intro es
      induction es with
      | nil => intro vs h; cases vs with
        | nil => trivial
        | cons _ _ => exact h.elim
      | cons e es ih => intro vs h; cases vs with
        | nil => exact h.elim
        | cons v vs => exact ⟨⟨_, rfl, h.1⟩, ih vs h.2⟩
    exact conv _ _ this
  · rename_i f
    simp only [Option.some.injEq] at hfc
    subst hfc
    exact ⟨[], hs, trivial⟩
  · simp at hfc
theorem opS_sound [NW] (htt : MOk P J JF W tt) {o : Oper} {K : St → Prop} (h : opS tt (SC P J JF hs) key o K st) (hI : Inv W U st a w) (hkey : ∀ k, key ≤ k → k < key + 16 → ¬ U k) (hd : ∀ t, o.dst = some t → t < a.tmps.size ∧ (W.hv = none ∨ t ≠ 0)) :
    o.wp P a w (fun a' w' => ∃ st', Inv W (Uk U key) st' a' w' ∧ a'.tmps.size = a.tmps.size ∧ K st') Q := by
  obtain ⟨⟨g, hH, hS⟩, hU, hdef, hh⟩ := hI
  have evals : ∀ (args : Array Operand) (ts : Array TypeId), All2 (SVR g w) (evs tt st ts.toList args.toList) (args.toList.map a.eval) ∧ ∀ x ∈ evs tt st ts.toList args.toList, svU U x := fun args ts => by
    have he : args.toList.map a.eval = (zipT ts.toList args.toList).map fun p => a.eval p.2 := by
      have := congrArg (List.map a.eval) (zipT_snd ts.toList args.toList)
      rw [← this, List.map_map]; rfl
    refine ⟨?_, fun x mx => ?_⟩
    · rw [he]
      exact All2.of_map _ _ fun p _ => (ev_ok htt.tt hS hU p.1 p.2).1
    · obtain ⟨p, _, rfl⟩ := List.mem_map.1 mx
      exact (ev_ok htt.tt hS hU p.1 p.2).2
  have arm : ∀ (f : FuncId) (n : Nat) (vs : List SV) (cvs : List Value), spK (SC P J JF hs) f n key o.dst K st vs → All2 (SVR g w) vs cvs → (∀ x ∈ vs, svU U x) → (Callable P f → (execOp a.eval o).run P w = .ok (.enter f cvs.toArray) w) →
      o.wp P a w (fun a' w' => ∃ st', Inv W (Uk U key) st' a' w' ∧ a'.tmps.size = a.tmps.size ∧ K st') Q := fun f n vs cvs h hargs hargU hrun => by
    obtain ⟨v, u, hr, hK⟩ := spK_iff.1 h
    obtain ⟨hc, hcall⟩ := callR_sound htt hr hH hU hkey hargs hargU
    unfold Oper.wp
    rw [hrun hc, Oper.upon_enter]
    refine hcall.mono ?_
    rintro e w' ⟨cv, rfl, g', t1, t2, t3, t4, t5, t6⟩
    exact ⟨_, put_inv hS hU hdef hh hd t1 t2 t3 t4 t5 t6, put_tmps _ _ _, hK⟩
  unfold opS at h
  split at h
  · rename_i c hc
    obtain ⟨f, l1, l2⟩ := c
    have hop : ∃ args ts, o.op = .call ⟨.value (.func f), args, ts⟩ ∧ l1 = ts.toList ∧ l2 = args.toList := by
      unfold goCall at hc
      split at hc
      · rename_i f' args ts he
        simp only [Option.some.injEq, Prod.mk.injEq] at hc
        obtain ⟨rfl, rfl, rfl⟩ := hc
        exact ⟨args, ts, he, rfl, rfl⟩
      · simp at hc
    obtain ⟨args, ts, hop, rfl, rfl⟩ := hop
    refine arm f _ _ _ h (evals args ts).1 (evals args ts).2 ?_
    rintro ⟨fn, f1, f2, f3⟩
    have f2' : ¬ fn.name = "runtime.NumGoroutine" := by simpa using f2
    have f3' : ¬ fn.body = none := fun e => by rw [e] at f3; simp at f3
    have e1 : (args.toList.map a.eval).toArray = args.map a.eval := by
      apply Array.ext'
      simp
    rw [e1]
    simp [execOp, hop, resolve, Act.eval, Deferred.ofValue, invoke, callFunc, program, Sem.run, f1, f2', f3']
  · split at h
    · rename_i c hc
      obtain ⟨s, l1, l2⟩ := c
      have hop : ∃ args ts, o.op = .call ⟨.value (.tmp s), args, ts⟩ ∧ l1 = ts.toList ∧ l2 = args.toList := by
        unfold dynCall at hc
        split at hc
        · rename_i s' args ts he
          simp only [Option.some.injEq, Prod.mk.injEq] at hc
          obtain ⟨rfl, rfl, rfl⟩ := hc
          exact ⟨args, ts, he, rfl, rfl⟩
        · simp at hc
      obtain ⟨args, ts, hop, rfl, rfl⟩ := hop
      unfold optK at h
      split at h
      · rename_i fc hfc
        obtain ⟨_, h⟩ := h
        have hval := clo_vals hfc (hS s)
        obtain ⟨cs, hv', hcs⟩ := hval
        have hv : a.eval (.tmp s) = .func (.func fc.1) #[] cs.toArray := hv'
        refine arm fc.1 0 _ (args.toList.map a.eval ++ cs) h ((evals args ts).1.append hcs) (fun x mx => ?_) ?_
        · rcases List.mem_append.1 mx with m | m
          · exact (evals args ts).2 x m
          · obtain ⟨c, _, rfl⟩ := List.mem_map.1 m
            exact svU_c _
        · rintro ⟨fn, f1, f2, f3⟩
          have f2' : ¬ fn.name = "runtime.NumGoroutine" := by simpa using f2
          have f3' : ¬ fn.body = none := fun e => by rw [e] at f3; simp at f3
          have e1 : (args.toList.map a.eval ++ cs).toArray = args.map a.eval ++ cs.toArray := by
            apply Array.ext'
            simp
          rw [e1]
          simp [execOp, hop, resolve, hv, Deferred.ofValue, invoke, callFunc, program, Sem.run, f1, f2', f3']
      · exact h.elim
    · unfold optK at h
      split at h
      · rename_i r hr
        obtain ⟨g', cv, w', hrun, t1, t2, t3, t4, t5, t6⟩ := opE_sound (P := P) (W := W) (a := a) htt.tt o hr hH hS hU (hkey key (Nat.le_refl _) (by omega))
        unfold Oper.wp
        rcases hrun with hrun | ⟨hrun, rfl⟩
        · rw [hrun]
          exact ⟨_, put_inv hS hU hdef hh hd t1 t2 t3 t4 t5 t6, put_tmps _ _ _, h⟩
        · rw [hrun]
          exact ⟨_, put_inv hS hU hdef hh hd t1 t2 t3 t4 t5 t6, put_tmps _ _ _, h⟩
      · exact h.elim
theorem und_inv [NW] (hI : Inv W U st a w) (d : Option Nat) (hd : ∀ t, d = some t → t < a.tmps.size ∧ (W.hv = none ∨ t ≠ 0)) : Inv W (Uk U key) (st.put d .und) (a.put d undef) w := by
  obtain ⟨⟨g, hH, hS⟩, hU, hdef, hh⟩ := hI
  exact put_inv (u := []) (key := key) hS hU hdef hh hd hH rfl (fun _ _ _ h => h) trivial (fun k => (hU.ob k).mono fun _ => .inl) (fun k hk => hU.gone k fun h => hk (.inl h))
theorem opG_sound [NW] (htt : MOk P J JF W tt) {ops : Array Oper} {i : Nat} {o : Oper} {K : St → Prop} (ho : ops[i]? = some o) (h : opG tt (SC P J JF hs) ops.toList key o K st) (hI : Inv W U st a w) (hkey : ∀ k, key ≤ k → k < key + 16 → ¬ U k) (hd : ∀ t, o.dst = some t → t < a.tmps.size ∧ (W.hv = none ∨ t ≠ 0)) :
    wpOp P ops Q i (fun a' w' => ∃ st', Inv W (Uk U key) st' a' w' ∧ a'.tmps.size = a.tmps.size ∧ K st') a w := by
  have skip : K (st.put o.dst .und) → ∃ st', Inv W (Uk U key) st' (a.put o.dst undef) w ∧ (a.put o.dst undef).tmps.size = a.tmps.size ∧ K st' := fun hK => ⟨_, und_inv hI _ hd, put_tmps _ _ _, hK⟩
  unfold wpOp
  simp only [ho]
  unfold opG gslot at h
  cases hg : o.guard with
  | none =>
    rw [hg] at h
    rw [if_pos (by simp [Region.wanted, hg])]
    exact .inl (opS_sound htt h hI hkey hd)
  | some jw =>
    obtain ⟨j, want⟩ := jw
    rw [hg] at h
    simp only at h
    cases hj : (ops.toList[j]?).bind (·.dst) with
    | none =>
      rw [hj] at h
      have hj' : (ops[j]?).bind (·.dst) = none := by simpa using hj
      rw [if_neg (by simp [Region.wanted, hg, yielded, hj'])]
      exact skip h
    | some t =>
      rw [hj] at h
      have hj' : (ops[j]?).bind (·.dst) = some t := by simpa using hj
      obtain ⟨⟨g, hH, hS⟩, hU, hdef, hh⟩ := hI
      have hst := hS t
      simp only at h
      unfold gK at h
      split at h
      · rename_i hb
        have : ∃ b, st.sl t = .p false [.c (.bool b)] := by
          unfold isBool at hb
          split at hb
          · rename_i b he; exact ⟨b, he⟩
          · simp at hb
        obtain ⟨b, hb'⟩ := this
        rw [hb'] at hst h
        have hv := bool_of hst
        have hy : yielded ops a.tmps j = some b := by
          unfold yielded
          rw [hj', Option.bind_some]
          have : a.tmps[t]? = some (.bool b) := by
            rw [Array.getD_eq_getD_getElem?] at hv
            cases he : a.tmps[t]? with
            | none => rw [he] at hv; simp [undef] at hv
            | some q => rw [he] at hv; simpa using hv
          rw [this]
        by_cases hw : (b == want) = true
        · rw [if_pos (show (getBool (.p false [.c (.bool b)]) == want) = true from hw)] at h
          rw [if_pos (by simpa [Region.wanted, hg, hy] using hw)]
          exact .inl (opS_sound htt h ⟨⟨g, hH, hS⟩, hU, hdef, hh⟩ hkey hd)
        · rw [if_neg (show ¬ (getBool (.p false [.c (.bool b)]) == want) = true from hw)] at h
          rw [if_neg (by simpa [Region.wanted, hg, hy] using hw)]
          exact skip h
      · split at h
        · rename_i hu
          have hb' : st.sl t = .und := by
            unfold isUnd at hu
            split at hu
            · rename_i he; exact he
            · simp at hu
          rw [hb'] at hst
          have hst' : a.tmps.getD t undef = undef := hst
          have hy : yielded ops a.tmps j = none := by
            unfold yielded
            rw [hj', Option.bind_some]
            rw [Array.getD_eq_getD_getElem?] at hst'
            cases he : a.tmps[t]? with
            | none => rfl
            | some q => rw [he] at hst'; simp at hst'; rw [hst']; rfl
          rw [if_neg (by simp [Region.wanted, hg, hy])]
          exact skip h
        · exact h.elim
/-- a region in the order of its text -/
theorem ops_sound [NW] (htt : MOk P J JF W tt) {ops : Array Oper} {N : Nat} (hN : ∀ o ∈ ops.toList, ∀ t, o.dst = some t → t < N ∧ (W.hv = none ∨ t ≠ 0)) {K : St → Prop} : ∀ (r : List Oper) (i key : Nat) (U : Nat → Prop) (st : St) (a : Act) (w : World), ops.toList.drop i = r → opsS tt (SC P J JF hs) ops.toList key r K st → Inv W U st a w → (∀ k, key ≤ k → ¬ U k) → a.tmps.size = N →
    (∀ U' st' a' w', Inv W U' st' a' w' → (∀ k, key + 16 * r.length ≤ k → ¬ U' k) → a'.tmps.size = N → K st' → Q .normal a' w') → wpOps P ops Q (List.range' i r.length) a w
  | [], i, key, U, st, a, w, _, h, hI, hk, hs, hQ => hQ U st a w hI (by simpa using hk) hs h
  | o :: r, i, key, U, st, a, w, hr, h, hI, hk, hs, hQ => by
    have hi : ops.toList[i]? = some o := by
      have := congrArg (fun l => l[0]?) hr
      simpa using this
    have hr' : ops.toList.drop (i + 1) = r := by
      have := congrArg List.tail hr
      simpa using this
    rw [List.length_cons, List.range'_succ, wpOps_cons]
    refine wpOp_mono ?_ (opG_sound htt (by simpa using hi) h hI (fun k a _ => hk k a) (fun t ht => by rw [hs]; exact hN o (List.mem_of_getElem? hi) t ht))
    rintro a' w' ⟨st', hI', hs', hK'⟩
    refine ops_sound htt hN r (i + 1) (key + 16) _ st' a' w' hr' hK' hI' (fun k hk' hU => ?_) (by omega) (fun U' st2 a2 w2 h1 h2 h3 h4 => hQ U' st2 a2 w2 h1 (fun k hk' => h2 k (by simp at hk'; omega)) h3 h4)
    rcases hU with hU | hU
    · exact hk k (by omega) hU
    · omega
end
end
section
open Go.RowKit
/-- 0: looks at slots alone; 1: looks at rows and boxes, or makes one; 2: looks at how far rows are the call's own, too; 3: takes rows up; 4: changes them -/
def flatTI : Option TI → Bool
  | some (.slice _ _ _ z) => z.all avFlat
  | _ => false
def cls (tt : Nat → Option TI) (hs : FuncId → Nat) : Op → Nat
  | .move _ => 0
  | .assign _ => 0
  | .pick _ _ _ => 0
  | .build _ _ => 0
  | .nilCheck _ => 0
  | .binOp _ _ _ _ _ => 0
  | .unOp _ _ _ => 0
  | .convert _ t _ => if isStr (tt t) = true then 1 else 0
  | .slice t _ lo hi _ => if isStr (tt t) = true then 0 else if lo.isSome && hi.isNone then 4 else 3
  | .fieldAddr _ _ _ => 0
  | .field _ _ _ => 0
  | .index _ _ _ => 0
  | .extract _ _ => 0
  | .alloc _ => 1
  | .box _ _ => 1
  | .load _ _ => 1
  | .makeMap _ _ => 1
  | .lookup _ _ _ _ => 1
  | .makeSlice _ _ _ => 1
  | .indexAddr _ _ _ => 1
  | .buildSlice t _ ps => if ps.size = 0 ∨ flatTI (tt t) = true then 2 else 3
  | .call ⟨.builtin .len, _, _⟩ => 1
  | .call ⟨.builtin .max, _, _⟩ => 0
  | .call ⟨.builtin .min, _, _⟩ => 0
  | .call ⟨.value (.func f), _, _⟩ => if hs f = 0 ∨ hs f = 4 then 1 else 4
  | _ => 4
section
variable {P : Program} {W : Base} {U : Nat → Prop} {key : Nat} {st st' : St} {w w' : World} {a : Act} {tt : Nat → Option TI} {S : Ctx} {Q : Exit → Act → World → Prop}
def opRS (tt : Nat → Option TI) (S : Ctx) (key : Nat) (o : Oper) (st : St) (v : SV) (u : List (Nat × Ob)) : Prop :=
  match goCall o.op with
  | some c => callR S c.1 (S.hd c.1) key st (evs tt st c.2.1 c.2.2) v u
  | none => match dynCall o.op with
    | some c => ∃ fc, cloOf (st.sl c.1) = some fc ∧ S.hd fc.1 = 0 ∧ callR S fc.1 0 key st (evs tt st c.2.1 c.2.2 ++ fc.2.map capSV) v u
    | none => opE tt key o st = some (v, u)
def opR (tt : Nat → Option TI) (S : Ctx) (all : List Oper) (key : Nat) (o : Oper) (st : St) (v : SV) (u : List (Nat × Ob)) : Prop :=
  match gslot all o with
  | none => opRS tt S key o st v u
  | some (none, _) => v = .und ∧ u = []
  | some (some t, want) => gK (st.sl t) want (opRS tt S key o st v u) (v = .und ∧ u = [])
theorem opS_iff [NW] {o : Oper} {K : St → Prop} : opS tt S key o K st ↔ ∃ v u, opRS tt S key o st v u ∧ K ((st.put o.dst v).app u) := by
  cases hc : goCall o.op with
  | some c =>
    simp only [opS, opRS, hc]
    exact spK_iff
  | none =>
    simp only [opS, opRS, hc]
    cases hd : dynCall o.op with
    | some c =>
      simp only
      constructor
      · intro h
        unfold optK at h
        split at h
        · rename_i fc hfc
          obtain ⟨h0, h⟩ := h
          obtain ⟨v, u, h1, h2⟩ := spK_iff.1 h
          exact ⟨v, u, ⟨fc, hfc, h0, h1⟩, h2⟩
        · exact h.elim
      · rintro ⟨v, u, ⟨fc, hfc, h0, h1⟩, h2⟩
        rw [hfc]
        exact ⟨h0, spK_iff.2 ⟨v, u, h1, h2⟩⟩
    | none =>
      simp only
      constructor
      · intro h
        unfold optK at h
        split at h
        · rename_i r hr
          exact ⟨r.1, r.2, hr, h⟩
        · exact h.elim
      · rintro ⟨v, u, h1, h2⟩
        rw [h1]
        exact h2
theorem opG_iff [NW] {all : List Oper} {o : Oper} {K : St → Prop} : opG tt S all key o K st ↔ ∃ v u, opR tt S all key o st v u ∧ K ((st.put o.dst v).app u) := by
  have skip : K (st.put o.dst .und) ↔ ∃ v u, (v = SV.und ∧ u = []) ∧ K ((st.put o.dst v).app u) := by
    constructor
    · intro h; exact ⟨.und, [], ⟨rfl, rfl⟩, h⟩
    · rintro ⟨v, u, ⟨rfl, rfl⟩, h⟩; exact h
  cases hg : gslot all o with
  | none => simp only [opG, opR, hg]; exact opS_iff
  | some q =>
    obtain ⟨q, want⟩ := q
    cases q with
    | none => simp only [opG, opR, hg]; exact skip
    | some t =>
      simp only [opG, opR, hg, gK]
      by_cases h1 : isBool (st.sl t) = true
      · by_cases h2 : (getBool (st.sl t) == want) = true
        · simp only [h1, h2, if_true]; exact opS_iff
        · simp only [h1, h2, if_true, if_false]; exact skip
      · by_cases h2 : isUnd (st.sl t) = true
        · simp only [h1, h2, if_true, if_false]; exact skip
        · simp only [h1, h2, if_false]; simp
theorem evs_same [NW] {ts : List TypeId} {xs : List Operand} (h : ∀ x ∈ xs, ∀ t, st.ev tt t x = st'.ev tt t x) : evs tt st ts xs = evs tt st' ts xs := by
  unfold evs
  refine List.map_congr_left fun p hp => h p.2 ?_ p.1
  rw [← zipT_snd ts xs]
  exact List.mem_map.2 ⟨p, hp, rfl⟩
/-- the same, or only read from then on -/
def Wk (st st' : St) (U : Nat → Prop) : Prop := ∀ k, U k → st'.ob k = st.ob k ∨ st'.ob k = frzOb (st.ob k)
theorem Wk.of (h : ∀ k, U k → st.ob k = st'.ob k) : Wk st st' U := fun k hk => .inl (h k hk).symm
theorem avArgs_same (hob : Wk st st' U) : ∀ {xs : List AV}, avsU U xs → avArgs st xs = avArgs st' xs
  | [], _ => rfl
  | x :: r, h => by
    have hx : avArg st x = avArg st' x := by
      cases x with
      | row k =>
        simp only [avArg]
        rcases hob k (h (.row k) (by simp)) with e | e
        · rw [e]
        · rw [e]; cases st.ob k <;> rfl
      | _ => rfl
    have hr := avArgs_same hob (xs := r) (fun y m => h y (by simp [m]))
    simp only [avArgs, hx, hr]
theorem svArgs_same [NW] (hob : Wk st st' U) : ∀ {xs : List SV}, (∀ x ∈ xs, svU U x) → svArgs st xs = svArgs st' xs
  | [], _ => rfl
  | x :: r, h => by
    have hx : svArg st x = svArg st' x := by
      cases x with
      | p ag cs => simp only [svArg, avArgs_same hob (h (.p ag cs) (by simp))]
      | _ => rfl
    have hr := svArgs_same hob (xs := r) (fun y m => h y (by simp [m]))
    simp only [svArgs, hx, hr]
theorem loadV_same (hob : Wk st st' U) {t : Option TI} {x : SV} (hx : svU U x) : loadV st t x = loadV st' t x := by
  cases x with
  | bp k off =>
    simp only [loadV]
    rcases hob k hx with e | e
    · rw [e]
    · rw [e]; cases st.ob k <;> rfl
  | rp k m i off =>
    simp only [loadV]
    rcases hob k hx with e | e
    · rw [e]
    · rw [e]; cases st.ob k <;> rfl
  | p ag cs => cases ag with
    | true => rfl
    | false => cases cs with
      | nil => rfl
      | cons y r => cases r <;> cases y <;> first | rfl | (rename_i z; cases z <;> rfl) | (rename_i z _ _; cases z <;> rfl)
  | _ => rfl
theorem lenV_same (hob : Wk st st' U) {t : Option TI} {x : SV} (hx : svU U x) : lenV st t x = lenV st' t x := by
  unfold lenV
  split <;> try rfl
  rename_i k
  rcases hob k (hx (.row k) (by simp)) with e | e
  · rw [e]
  · rw [e]; cases st.ob k <;> rfl
theorem idxAddr_same (hob : Wk st st' U) {m : Nat} {x i : SV} (hx : svU U x) : idxAddr st m x i = idxAddr st' m x i := by
  unfold idxAddr
  split <;> try rfl
  rename_i k _ _
  rcases hob k (hx (.row k) (by simp)) with e | e
  · rw [e]
  · rw [e]; cases st.ob k <;> rfl
theorem capV_same (hob : st.ob = st'.ob) (x : SV) : capV st x = capV st' x := by
  unfold capV
  rw [hob]
theorem capsV_same [NW] (hob : st.ob = st'.ob) : ∀ xs : List SV, capsV st xs = capsV st' xs
  | [] => rfl
  | x :: r => by simp only [capsV, capV_same hob x, capsV_same hob r]
theorem lookV_same (hob : Wk st st' U) {t : Option TI} {x i : SV} {ok : Bool} (hx : svU U x) : lookV st t x i ok = lookV st' t x i ok := by
  unfold lookV
  split <;> try rfl
  rename_i k
  rcases hob k (hx (.row k) (by simp)) with e | e
  · rw [e]
  · rw [e]; cases st.ob k <;> rfl
theorem strOf_same (hob : Wk st st' U) {x : SV} (hx : svU U x) : strOf st x = strOf st' x := by
  unfold strOf
  split <;> try rfl
  rename_i k
  rcases hob k (hx (.row k) (by simp)) with e | e
  · rw [e]
  · rw [e]; cases st.ob k <;> rfl
theorem convO_same [NW] (hob : Wk st st' U) {s t : Nat} {x : SV} (hx : svU U x) : convO tt st s t x = convO tt st' s t x := by
  unfold convO
  rw [strOf_same hob hx]
/-- the same, or gone -/
def Mk (st st' : St) (U : Nat → Prop) : Prop := ∀ k, U k → st'.ob k = st.ob k ∨ st'.ob k = .gone
theorem avArgs_more (hob : Mk st st' U) : ∀ {xs : List AV} {r : List CT}, avsU U xs → avArgs st' xs = some r → avArgs st xs = some r
  | [], _, _, h => h
  | x :: xs, r, hu, h => by
    simp only [avArgs] at h ⊢
    obtain ⟨a, h1, h⟩ := Option.bind_eq_some_iff.1 h
    obtain ⟨b, h2, rfl⟩ := Option.map_eq_some_iff.1 h
    have hx : avArg st x = some a := by
      cases x with
      | row k =>
        simp only [avArg] at h1 ⊢
        rcases hob k (hu (.row k) (by simp)) with e | e
        · rwa [e] at h1
        · rw [e] at h1; simp at h1
      | _ => exact h1
    rw [hx, Option.bind_some, avArgs_more hob (fun y m => hu y (by simp [m])) h2]
    rfl
theorem svArgs_more [NW] (hob : Mk st st' U) : ∀ {xs : List SV} {r : List (Bool × List CT)}, (∀ x ∈ xs, svU U x) → svArgs st' xs = some r → svArgs st xs = some r
  | [], _, _, h => h
  | x :: xs, r, hu, h => by
    simp only [svArgs] at h ⊢
    obtain ⟨a, h1, h⟩ := Option.bind_eq_some_iff.1 h
    obtain ⟨b, h2, rfl⟩ := Option.map_eq_some_iff.1 h
    have hx : svArg st x = some a := by
      cases x with
      | p ag cs =>
        simp only [svArg] at h1 ⊢
        obtain ⟨l, h3, rfl⟩ := Option.map_eq_some_iff.1 h1
        rw [avArgs_more hob (hu (.p ag cs) (by simp)) h3]
        rfl
      | _ => exact h1
    rw [hx, Option.bind_some, svArgs_more hob (fun y m => hu y (by simp [m])) h2]
    rfl
theorem loadV_more (hob : Mk st st' U) {t : Option TI} {x r : SV} (hx : svU U x) (h : loadV st' t x = some r) : loadV st t x = some r := by
  cases x with
  | bp k off =>
    simp only [loadV] at h ⊢
    rcases hob k hx with e | e
    · rwa [e] at h
    · rw [e] at h; simp at h
  | rp k m i off =>
    simp only [loadV] at h ⊢
    rcases hob k hx with e | e
    · rwa [e] at h
    · rw [e] at h; simp at h
  | p ag cs => cases ag with
    | true => exact h
    | false => cases cs with
      | nil => exact h
      | cons y r => cases r <;> cases y <;> first | exact h | (rename_i z; cases z <;> exact h) | (rename_i z _ _; cases z <;> exact h)
  | _ => exact h
theorem lenV_more (hob : Mk st st' U) {t : Option TI} {x r : SV} (hx : svU U x) (h : lenV st' t x = some r) : lenV st t x = some r := by
  unfold lenV at h ⊢
  split at h <;> try exact h
  rename_i k
  rcases hob k (hx (.row k) (by simp)) with e | e
  · rwa [e] at h
  · rw [e] at h; simp at h
theorem idxAddr_more (hob : Mk st st' U) {m : Nat} {x i r : SV} (hx : svU U x) (h : idxAddr st' m x i = some r) : idxAddr st m x i = some r := by
  unfold idxAddr at h ⊢
  split at h <;> try exact h
  rename_i k _ _
  rcases hob k (hx (.row k) (by simp)) with e | e
  · rwa [e] at h
  · rw [e] at h; simp at h
theorem lookV_more (hob : Mk st st' U) {t : Option TI} {x i r : SV} {ok : Bool} (hx : svU U x) (h : lookV st' t x i ok = some r) : lookV st t x i ok = some r := by
  unfold lookV at h ⊢
  split at h <;> try exact h
  rename_i k
  rcases hob k (hx (.row k) (by simp)) with e | e
  · rwa [e] at h
  · rw [e] at h; simp at h
theorem strOf_more (hob : Mk st st' U) {x r : SV} (hx : svU U x) (h : strOf st' x = some r) : strOf st x = some r := by
  unfold strOf at h ⊢
  split at h <;> try exact h
  rename_i k
  rcases hob k (hx (.row k) (by simp)) with e | e
  · rwa [e] at h
  · rw [e] at h; simp at h
/-- other slots -/
theorem opE_slots [NW] {o : Oper} {sl sl' : Nat → SV} {ob : Nat → Ob} {n n' : Nat} (hl : ∀ x ∈ o.op.operands, ∀ t, St.ev tt ⟨sl, ob, n⟩ t x = St.ev tt ⟨sl', ob, n'⟩ t x) : opE tt key o ⟨sl, ob, n⟩ = opE tt key o ⟨sl', ob, n'⟩ := by
  obtain ⟨dst, op, ty, pos, af, gd⟩ := o
  cases op with
  | build t parts =>
    have hp : ∀ fs z, parts.toList.map (partS tt ⟨sl, ob, n⟩ fs z) = parts.toList.map (partS tt ⟨sl', ob, n'⟩ fs z) := fun fs z => List.map_congr_left fun p hp => by
      have := hl p.2 (by simp [Op.operands]; exact ⟨p.1, by simpa using hp⟩) 0
      unfold partS
      split
      · rfl
      · rw [this]
    simp only [opE, hp]
  | buildSlice t len parts =>
    have hp : ∀ e, (parts.toList.map fun p => St.ev tt ⟨sl, ob, n⟩ e p.2) = parts.toList.map fun p => St.ev tt ⟨sl', ob, n'⟩ e p.2 := fun e => List.map_congr_left fun p hp => hl p.2 (by simp [Op.operands]; exact ⟨p.1, by simpa using hp⟩) e
    have he : ∀ m l, elemsS ⟨sl, ob, n⟩ m l = elemsS ⟨sl', ob, n'⟩ m l := fun m l => by
      have h1 : ∀ x, avT ⟨sl, ob, n⟩ x = avT ⟨sl', ob, n'⟩ x := fun x => by cases x <;> rfl
      have h2 : ∀ xs, avTs ⟨sl, ob, n⟩ xs = avTs ⟨sl', ob, n'⟩ xs := fun xs => by
        induction xs with
        | nil => rfl
        | cons x xs ih => simp only [avTs, h1, ih]
      induction l with
      | nil => rfl
      | cons x xs ih => cases x <;> simp only [elemsS, h2, ih]
    have hz : ∀ ks, frzAll ⟨sl, ob, n⟩ ks = frzAll ⟨sl', ob, n'⟩ ks := fun ks => by
      induction ks with
      | nil => rfl
      | cons k r ih => simp only [frzAll, ih]
    simp only [opE, hp, he, hz]
  | slice t x lo hi mx =>
    simp only [Op.operands] at hl
    cases mx with
    | some _ => rfl
    | none =>
      have hx := fun t => hl x (by simp) t
      cases lo with
      | none => cases hi with
        | none => simp only [opE, hx, Option.map_none]; rfl
        | some h => have hh := fun t => hl h (by simp) t; simp only [opE, hx, hh, Option.map_none, Option.map_some]; rfl
      | some l =>
        have hlo := fun t => hl l (by simp) t
        cases hi with
        | none => simp only [opE, hx, hlo, Option.map_none, Option.map_some]; rfl
        | some h => have hh := fun t => hl h (by simp) t; simp only [opE, hx, hlo, hh, Option.map_some]; rfl
  | call c =>
    obtain ⟨callee, args, ts⟩ := c
    cases callee with
    | builtin b =>
      have := evs_same (tt := tt) (st := ⟨sl, ob, n⟩) (st' := ⟨sl', ob, n'⟩) (ts := ts.toList) (xs := args.toList) (fun x m t => hl x (by simp [Op.operands, Call.operands]; simpa using m) t)
      simp only [opE, this]
      unfold bltV
      split <;> rfl
    | value f => rfl
    | invoke r m => rfl
  | move x => have := fun t => hl x (by simp [Op.operands]) t; simp only [opE, this]
  | assign x => have := fun t => hl x (by simp [Op.operands]) t; simp only [opE, this]
  | pick c x y => have h1 := fun t => hl c (by simp [Op.operands]) t; have h2 := fun t => hl x (by simp [Op.operands]) t; have h3 := fun t => hl y (by simp [Op.operands]) t; simp only [opE, h1, h2, h3]
  | alloc t => rfl
  | box t x => have := fun t => hl x (by simp [Op.operands]) t; simp only [opE, this]
  | load t x => have := fun t => hl x (by simp [Op.operands]) t; simp only [opE, this]; rfl
  | store t x v => have h1 := fun t => hl x (by simp [Op.operands]) t; have h2 := fun t => hl v (by simp [Op.operands]) t; simp only [opE, h1, h2]; rfl
  | nilCheck x => have := fun t => hl x (by simp [Op.operands]) t; simp only [opE, this]
  | binOp op t x y t' => have h1 := fun t => hl x (by simp [Op.operands]) t; have h2 := fun t => hl y (by simp [Op.operands]) t; simp only [opE, h1, h2]
  | unOp op t x => have := fun t => hl x (by simp [Op.operands]) t; simp only [opE, this]
  | convert s t x => have := fun t => hl x (by simp [Op.operands]) t; simp only [opE, this]; rfl
  | makeFunc fn first caps =>
    cases fn with
    | func f =>
      have hc : caps.toList.map (St.ev tt ⟨sl, ob, n⟩ 0) = caps.toList.map (St.ev tt ⟨sl', ob, n'⟩ 0) := List.map_congr_left fun x hx => hl x (by simp [Op.operands]; exact .inr (by simpa using hx)) 0
      simp only [opE, hc, capsV_same (st := ⟨sl, ob, n⟩) (st' := ⟨sl', ob, n'⟩) rfl]
    | _ => rfl
  | makeMap t r => cases r <;> rfl
  | lookup t x i ok => have h1 := fun t => hl x (by simp [Op.operands]) t; have h2 := fun t => hl i (by simp [Op.operands]) t; simp only [opE, h1, h2]; rfl
  | mapUpdate t x i v => have h1 := fun t => hl x (by simp [Op.operands]) t; have h2 := fun t => hl i (by simp [Op.operands]) t; have h3 := fun t => hl v (by simp [Op.operands]) t; simp only [opE, h1, h2, h3]; rfl
  | makeSlice t x y => have h1 := fun t => hl x (by simp [Op.operands]) t; have h2 := fun t => hl y (by simp [Op.operands]) t; simp only [opE, h1, h2]
  | fieldAddr t x f => have := fun t => hl x (by simp [Op.operands]) t; simp only [opE, this]
  | field t x f => have := fun t => hl x (by simp [Op.operands]) t; simp only [opE, this]
  | indexAddr t x y => have h1 := fun t => hl x (by simp [Op.operands]) t; have h2 := fun t => hl y (by simp [Op.operands]) t; simp only [opE, h1, h2]; rfl
  | index t x y => have h1 := fun t => hl x (by simp [Op.operands]) t; have h2 := fun t => hl y (by simp [Op.operands]) t; simp only [opE, h1, h2]
  | extract x i => have := fun t => hl x (by simp [Op.operands]) t; simp only [opE, this]
  | _ => rfl
theorem ev_ob (sl : Nat → SV) (ob ob' : Nat → Ob) (n n' t : Nat) (x : Operand) : St.ev tt ⟨sl, ob, n⟩ t x = St.ev tt ⟨sl, ob', n'⟩ t x := by cases x <;> rfl
/-- other rows and boxes -/
theorem avT_same {st st' : St} (h : ∀ k, U k → st.ob k = st'.ob k) {x : AV} (hx : avU U x) : avT st x = avT st' x := by
  cases x with
  | row k => simp only [avT]; rw [h k hx]
  | c x => cases x <;> rfl
  | nil e m => rfl
  | n x => rfl
  | dead => rfl
theorem avTs_same [NW] {st st' : St} (h : ∀ k, U k → st.ob k = st'.ob k) : ∀ {xs : List AV}, avsU U xs → avTs st xs = avTs st' xs
  | [], _ => rfl
  | x :: r, hx => by simp only [avTs]; rw [avT_same h (hx x (by simp)), avTs_same h fun y m => hx y (by simp [m])]
theorem elemsS_same [NW] {st st' : St} {m : Nat} (h : ∀ k, U k → st.ob k = st'.ob k) : ∀ {xs : List SV}, (∀ v ∈ xs, svU U v) → elemsS st m xs = elemsS st' m xs
  | [], _ => rfl
  | .p a cs :: r, hx => by
    simp only [elemsS]
    rw [avTs_same h (hx (.p a cs) (by simp)), elemsS_same h fun v mv => hx v (by simp [mv])]
  | .any :: r, _ => rfl
  | .und :: r, _ => rfl
  | .tup _ :: r, _ => rfl
  | .bp _ _ :: r, _ => rfl
  | .rp _ _ _ _ :: r, _ => rfl
  | .ep _ _ :: r, _ => rfl
  | .fn _ :: r, _ => rfl
theorem avT_keysU {x : AV} {ct : CT} {ks : List Nat} {d : Nat} (h : avT st x = some (ct, ks, d)) (hx : avU U x) : ∀ k ∈ ks, U k := by
  intro k mk
  cases x with
  | c y => cases y <;> simp only [avT, Option.some.injEq, Prod.mk.injEq] at h <;> (rw [← h.2.1] at mk; simp at mk)
  | nil e m =>
    simp only [avT] at h
    split at h <;> simp only [Option.some.injEq, Prod.mk.injEq, reduceCtorEq] at h
    rw [← h.2.1] at mk; simp at mk
  | row j =>
    simp only [avT] at h
    split at h
    · split at h <;> simp only [Option.some.injEq, Prod.mk.injEq] at h
      · rw [← h.2.1] at mk; simp at mk
      · rw [← h.2.1] at mk; simp at mk; subst mk; exact hx
    · simp at h
  | n x => simp [avT] at h
  | dead => simp [avT] at h
theorem avTs_keysU [NW] : ∀ {xs : List AV} {cts : List CT} {ks : List Nat} {d : Nat}, avTs st xs = some (cts, ks, d) → avsU U xs → ∀ k ∈ ks, U k
  | [], _, _, _, h, _, k, mk => by simp only [avTs, Option.some.injEq, Prod.mk.injEq] at h; rw [← h.2.1] at mk; simp at mk
  | x :: r, _, _, _, h, hu, k, mk => by
    simp only [avTs] at h
    obtain ⟨⟨c1, k1, d1⟩, h1, h⟩ := Option.bind_eq_some_iff.1 h
    obtain ⟨⟨c2, k2, d2⟩, h2, h⟩ := Option.map_eq_some_iff.1 h
    simp only [Prod.mk.injEq] at h
    rw [← h.2.1] at mk
    rcases List.mem_append.1 mk with mk | mk
    · exact avT_keysU h1 (hu x (by simp)) k mk
    · exact avTs_keysU h2 (fun y my => hu y (by simp [my])) k mk
theorem elemsS_keysU [NW] {m : Nat} : ∀ {xs : List SV} {es : List (List CT)} {ks : List Nat} {d : Nat}, elemsS st m xs = some (es, ks, d) → (∀ v ∈ xs, svU U v) → ∀ k ∈ ks, U k
  | [], _, _, _, h, _, k, mk => by simp only [elemsS, Option.some.injEq, Prod.mk.injEq] at h; rw [← h.2.1] at mk; simp at mk
  | x :: r, _, _, _, h, hu, k, mk => by
    cases x with
    | p a cs =>
      simp only [elemsS] at h
      split at h
      · obtain ⟨⟨c1, k1, d1⟩, h1, h⟩ := Option.bind_eq_some_iff.1 h
        obtain ⟨⟨c2, k2, d2⟩, h2, h⟩ := Option.map_eq_some_iff.1 h
        simp only [Prod.mk.injEq] at h
        rw [← h.2.1] at mk
        rcases List.mem_append.1 mk with mk | mk
        · exact avTs_keysU h1 (hu (.p a cs) (by simp)) k mk
        · exact elemsS_keysU h2 (fun v mv => hu v (by simp [mv])) k mk
      · simp at h
    | _ => simp [elemsS] at h
theorem frzAll_same {st st' : St} {ks : List Nat} (h : ∀ k ∈ ks, st.ob k = st'.ob k) : frzAll st ks = frzAll st' ks := by
  induction ks with
  | nil => rfl
  | cons k r ih => simp only [frzAll, h k (by simp), ih fun j mj => h j (by simp [mj])]
theorem frzAll_mem {ks : List Nat} {p : Nat × Ob} (h : p ∈ frzAll st ks) : p.1 ∈ ks ∧ p.2 = frzOb (st.ob p.1) := by
  induction ks with
  | nil => simp [frzAll] at h
  | cons k r ih =>
    simp only [frzAll, List.mem_cons] at h
    rcases h with rfl | h
    · exact ⟨by simp, rfl⟩
    · exact ⟨by simp [(ih h).1], (ih h).2⟩
theorem opE_obs [NW] {hs : FuncId → Nat} {o : Oper} {sl : Nat → SV} {ob ob' : Nat → Ob} {n n' : Nat} (h : cls tt hs o.op = 0 ∨ (cls tt hs o.op ≤ 3 ∧ (∀ k, U k → ob k = ob' k) ∧ ∀ t x, svU U (St.ev tt ⟨sl, ob, n⟩ t x)) ∨ (cls tt hs o.op ≤ 1 ∧ Wk ⟨sl, ob, n⟩ ⟨sl, ob', n'⟩ U ∧ ∀ t x, svU U (St.ev tt ⟨sl, ob, n⟩ t x))) : opE tt key o ⟨sl, ob, n⟩ = opE tt key o ⟨sl, ob', n'⟩ := by
  have he := fun t x => ev_ob (tt := tt) sl ob ob' n n' t x
  have hle : cls tt hs o.op ≤ 3 := by rcases h with h | h | h <;> omega
  have hwk : cls tt hs o.op = 0 ∨ (Wk ⟨sl, ob, n⟩ ⟨sl, ob', n'⟩ U ∧ ∀ t x, svU U (St.ev tt ⟨sl, ob', n'⟩ t x)) := by
    rcases h with h | h | h
    · exact .inl h
    · exact .inr ⟨fun k hk => .inl (h.2.1 k hk).symm, fun t x => he t x ▸ h.2.2 t x⟩
    · exact .inr ⟨h.2.1, fun t x => he t x ▸ h.2.2 t x⟩
  obtain ⟨dst, op, ty, pos, af, gd⟩ := o
  cases op with
  | build t parts =>
    have hp : ∀ fs z, parts.toList.map (partS tt ⟨sl, ob, n⟩ fs z) = parts.toList.map (partS tt ⟨sl, ob', n'⟩ fs z) := fun fs z => List.map_congr_left fun p hp => by
      unfold partS
      split
      · rfl
      · rw [he]
    simp only [opE, hp]
  | buildSlice t len parts =>
    have hc : 2 ≤ cls tt hs (.buildSlice t len parts) := by simp only [cls]; split <;> omega
    have h' : (∀ k, U k → ob k = ob' k) ∧ ∀ t x, svU U (St.ev tt ⟨sl, ob, n⟩ t x) := by
      rcases h with h | h | h
      · simp only at h; omega
      · exact h.2
      · simp only at h; omega
    obtain ⟨h1, h2⟩ := h'
    simp only [opE, he]
    split
    · rename_i e m _ z _
      have hu : ∀ v ∈ parts.toList.map (fun p => St.ev tt ⟨sl, ob', n'⟩ e p.2), svU U v := fun v mv => by obtain ⟨p, _, rfl⟩ := List.mem_map.1 mv; rw [← he]; exact h2 _ _
      rw [elemsS_same (U := U) (st := ⟨sl, ob, n⟩) (st' := ⟨sl, ob', n'⟩) h1 hu]
      cases hel : elemsS ⟨sl, ob', n'⟩ m (parts.toList.map fun p => St.ev tt ⟨sl, ob', n'⟩ e p.2) with
      | none => rfl
      | some a =>
        have hk := elemsS_keysU (U := U) hel hu
        have := frzAll_same (st := ⟨sl, ob, n⟩) (st' := ⟨sl, ob', n'⟩) (ks := a.2.1) (fun k mk => h1 k (hk k mk))
        simp only [Option.bind_some, this]
    · rfl
  | load t x =>
    obtain ⟨h1, h2⟩ := hwk.resolve_left (by simp [cls])
    simp only [opE, he]
    rw [loadV_same (U := U) (st := ⟨sl, ob, n⟩) (st' := ⟨sl, ob', n'⟩) h1 (h2 0 x)]
  | indexAddr t x y =>
    obtain ⟨h1, h2⟩ := hwk.resolve_left (by simp [cls])
    simp only [opE, he]
    split
    · rw [idxAddr_same (U := U) (st := ⟨sl, ob, n⟩) (st' := ⟨sl, ob', n'⟩) h1 (h2 0 x)]
    · rfl
  | call c =>
    obtain ⟨callee, args, ts⟩ := c
    cases callee with
    | builtin b =>
      have hev : evs tt ⟨sl, ob, n⟩ ts.toList args.toList = evs tt ⟨sl, ob', n'⟩ ts.toList args.toList := evs_same fun x _ t => he t x
      simp only [opE, hev]
      unfold bltV
      split
      · rename_i t _ v he1 he2
        obtain ⟨h1, h2⟩ := hwk.resolve_left (by simp [cls])
        have hu : svU U v := by
          have hm : v ∈ evs tt ⟨sl, ob', n'⟩ ts.toList args.toList := by simp [he2]
          obtain ⟨p, _, rfl⟩ := List.mem_map.1 hm
          exact h2 _ _
        rw [lenV_same (U := U) (st := ⟨sl, ob, n⟩) (st' := ⟨sl, ob', n'⟩) h1 hu]
      · simp [cls] at hle
      · rfl
      · rfl
      · rfl
    | value f => rfl
    | invoke r m => rfl
  | store t x v => simp [cls] at hle
  | makeFunc fn first caps => simp [cls] at hle
  | mapUpdate t x i v => simp [cls] at hle
  | makeMap t r => cases r <;> rfl
  | lookup t x i ok =>
    obtain ⟨h1, h2⟩ := hwk.resolve_left (by simp [cls])
    simp only [opE, he]
    rw [lookV_same (U := U) (st := ⟨sl, ob, n⟩) (st' := ⟨sl, ob', n'⟩) h1 (h2 0 x)]
  | convert s t x =>
    simp only [opE, he]
    by_cases hst : isStr (tt t) = true
    · obtain ⟨h1, h2⟩ := hwk.resolve_left (by simp [cls, hst])
      rw [convO_same (U := U) (st := ⟨sl, ob, n⟩) (st' := ⟨sl, ob', n'⟩) h1 (h2 0 x)]
    · have e : ∀ st : St, convO tt st s t (St.ev tt ⟨sl, ob', n'⟩ 0 x) = convV (tt s) (tt t) (St.ev tt ⟨sl, ob', n'⟩ 0 x) := fun st => by
        unfold convO
        rw [if_neg (by simp [hst])]
      rw [e, e]
  | slice t x lo hi mx =>
    cases mx with
    | some _ => rfl
    | none =>
      by_cases hstr : isStr (tt t) = true
      · have hns : isSlice (tt t) = false := by
          unfold isStr at hstr
          split at hstr
          · rename_i e; rw [e]; rfl
          · simp at hstr
        have hu : ∀ l h v, sliceU ⟨sl, ob, n⟩ key (tt t) l h v = sliceU ⟨sl, ob', n'⟩ key (tt t) l h v := fun l h v => by
          unfold sliceU
          split
          · simp [hns]
          · rfl
          · rfl
        cases lo <;> cases hi <;> simp only [opE, he, Option.map_none, Option.map_some, hu]
      · have hc : 2 < cls tt hs (.slice t x lo hi none) := by simp only [cls]; rw [if_neg hstr]; split <;> omega
        have h' : (∀ k, U k → ob k = ob' k) ∧ ∀ t x, svU U (St.ev tt ⟨sl, ob, n⟩ t x) := by
          rcases h with h | h | h
          · simp only at h; omega
          · exact h.2
          · simp only at h; omega
        obtain ⟨h1, h2⟩ := h'
        have hu : ∀ l h v, svU U v → sliceU ⟨sl, ob, n⟩ key (tt t) l h v = sliceU ⟨sl, ob', n'⟩ key (tt t) l h v := fun l h v hv => by
          unfold sliceU
          split
          · rename_i k
            have hk : U k := hv (.row k) (by simp)
            simp only [h1 k hk]
          · rfl
          · rfl
        simp only [opE, he]
        exact hu _ _ _ (he 0 x ▸ h2 0 x)
  | _ => first | rfl | simp only [opE, he]
theorem pure1_more {x y : Option SV} {r : SV × List (Nat × Ob)} (h : ∀ v, x = some v → y = some v) (hx : pure1 x = some r) : pure1 y = some r := by
  obtain ⟨v, h1, rfl⟩ := Option.map_eq_some_iff.1 hx
  rw [h v h1]
  rfl
theorem opE_more [NW] {hs : FuncId → Nat} {o : Oper} {sl : Nat → SV} {ob ob' : Nat → Ob} {n n' : Nat} {r : SV × List (Nat × Ob)} (hc : cls tt hs o.op ≤ 1) (hob : Mk ⟨sl, ob, n⟩ ⟨sl, ob', n'⟩ U) (hu : ∀ t x, svU U (St.ev tt ⟨sl, ob, n⟩ t x)) (h : opE tt key o ⟨sl, ob', n'⟩ = some r) : opE tt key o ⟨sl, ob, n⟩ = some r := by
  have he := fun t x => ev_ob (tt := tt) sl ob ob' n n' t x
  by_cases h0 : cls tt hs o.op = 0
  · rw [opE_obs (U := U) (n' := n') (ob' := ob') (.inl h0)]; exact h
  obtain ⟨dst, op, ty, pos, af, gd⟩ := o
  cases op with
  | load t x =>
    simp only [opE, he] at h ⊢
    exact pure1_more (fun v hv => loadV_more hob (he 0 x ▸ hu 0 x) hv) h
  | indexAddr t x y =>
    simp only [opE, he] at h ⊢
    split at h
    · exact pure1_more (fun v hv => idxAddr_more hob (he 0 x ▸ hu 0 x) hv) h
    · simp at h
  | lookup t x i ok =>
    simp only [opE, he] at h ⊢
    exact pure1_more (fun v hv => lookV_more hob (he 0 x ▸ hu 0 x) hv) h
  | convert s t x =>
    simp only [opE, he] at h ⊢
    refine pure1_more (fun v hv => ?_) h
    unfold convO at hv ⊢
    split at hv
    · rename_i hb
      rw [if_pos hb]
      exact strOf_more hob (he 0 x ▸ hu 0 x) hv
    · rename_i hb
      rw [if_neg hb]
      exact hv
  | call c =>
    obtain ⟨callee, args, ts⟩ := c
    cases callee with
    | builtin b =>
      have hev : evs tt ⟨sl, ob, n⟩ ts.toList args.toList = evs tt ⟨sl, ob', n'⟩ ts.toList args.toList := evs_same fun x _ t => he t x
      simp only [opE, hev] at h ⊢
      unfold bltV at h ⊢
      split at h
      · rename_i t _ v he1 he2
        have hu' : svU U v := by
          have hm : v ∈ evs tt ⟨sl, ob', n'⟩ ts.toList args.toList := by simp [he2]
          obtain ⟨p, _, rfl⟩ := List.mem_map.1 hm
          rw [← he]; exact hu _ _
        exact pure1_more (fun w hw => lenV_more hob hu' hw) h
      · simp [cls] at hc
      · exact h
      · exact h
      · exact h
    | value f => exact h
    | invoke r m => exact h
  | slice t x lo hi mx => simp only [cls] at hc h0; split at hc <;> rename_i hq <;> simp [hq] at h0 <;> (split at hc <;> omega)
  | buildSlice t len parts => simp only [cls] at hc; split at hc <;> omega
  | store t x v => simp [cls] at hc
  | makeFunc fn first caps => simp [cls] at hc
  | mapUpdate t x i v => simp [cls] at hc
  | makeMap t r => cases r <;> exact h
  | _ => first | exact h | (simp only [opE, he] at h ⊢; exact h)
theorem bindCs_keys : ∀ (cts : List (Bool × CT)) (key : Nat), key ≤ (bindCs key cts).2.2 ∧ ∀ p ∈ (bindCs key cts).2.1, key ≤ p.1 ∧ p.1 < (bindCs key cts).2.2
  | [], key => by simp [bindCs]
  | (true, x) :: r, key => bindCs_keys r key
  | (false, ct) :: r, key => by
    cases ct with
    | sl e m xs =>
      obtain ⟨h1, h2⟩ := bindCs_keys r (key + 1)
      refine ⟨by simp only [bindCs]; omega, fun p hp => ?_⟩
      simp only [bindCs, List.mem_cons] at hp ⊢
      rcases hp with rfl | hp
      · exact ⟨Nat.le_refl _, by simp only; omega⟩
      · have := h2 p hp; omega
    | int k n => exact bindCs_keys r key
    | bool b => exact bindCs_keys r key
    | str s => exact bindCs_keys r key
    | ifc s => exact bindCs_keys r key
    | any => exact bindCs_keys r key
    | nl a b => exact bindCs_keys r key
    | pt s => exact bindCs_keys r key
    | fn f s => exact bindCs_keys r key
    | mp a b s => exact bindCs_keys r key
theorem bindRs_keys [NW] : ∀ (res : List RT) (key : Nat), key ≤ (bindRs key res).2.2 ∧ ∀ p ∈ (bindRs key res).2.1, key ≤ p.1 ∧ p.1 < (bindRs key res).2.2
  | [], key => by simp [bindRs]
  | x :: r, key => by
    obtain ⟨h1, h2⟩ := bindCs_keys x.2 key
    obtain ⟨h3, h4⟩ := bindRs_keys r (bindCs key x.2).2.2
    refine ⟨by simp only [bindRs]; omega, fun p hp => ?_⟩
    simp only [bindRs, List.mem_append] at hp ⊢
    rcases hp with hp | hp
    · have := h2 p hp; omega
    · have := h4 p hp; omega
theorem pure1_nil {v : Option SV} {r : SV × List (Nat × Ob)} (h : pure1 v = some r) : r.2 = [] := by
  obtain ⟨u, _, rfl⟩ := Option.map_eq_some_iff.1 h; rfl
theorem opE_keys [NW] {hs : FuncId → Nat} {o : Oper} {r : SV × List (Nat × Ob)} (hU : ∀ t x, svU U (st.ev tt t x)) (h : opE tt key o st = some r) : (cls tt hs o.op = 0 → r.2 = []) ∧ (cls tt hs o.op ≤ 2 → ∀ p ∈ r.2, key ≤ p.1 ∧ p.1 < key + 16) ∧ (cls tt hs o.op ≤ 3 → ∀ p ∈ r.2, (key ≤ p.1 ∧ p.1 < key + 16) ∨ (U p.1 ∧ p.2 = frzOb (st.ob p.1))) := by
  have nil : r.2 = [] → (cls tt hs o.op = 0 → r.2 = []) ∧ (cls tt hs o.op ≤ 2 → ∀ p ∈ r.2, key ≤ p.1 ∧ p.1 < key + 16) ∧ (cls tt hs o.op ≤ 3 → ∀ p ∈ r.2, (key ≤ p.1 ∧ p.1 < key + 16) ∨ (U p.1 ∧ p.2 = frzOb (st.ob p.1))) := fun e => ⟨fun _ => e, fun _ p hp => by simp [e] at hp, fun _ p hp => by simp [e] at hp⟩
  obtain ⟨dst, op, ty, pos, af, gd⟩ := o
  cases op with
  | move x => simp only [opE, Option.some.injEq] at h; exact nil (by rw [← h])
  | assign x => simp only [opE, Option.some.injEq] at h; exact nil (by rw [← h])
  | pick c x y =>
    simp only [opE] at h
    split at h
    · simp only [Option.some.injEq] at h; exact nil (by rw [← h])
    · simp at h
  | alloc t =>
    simp only [opE] at h
    obtain ⟨z, _, rfl⟩ := Option.map_eq_some_iff.1 h
    exact ⟨fun e => by simp [cls] at e, fun _ p hp => by simp at hp; subst hp; simp, fun _ p hp => by simp at hp; subst hp; simp⟩
  | box t x =>
    simp only [opE] at h
    split at h
    · simp only [Option.some.injEq] at h
      subst h
      exact ⟨fun e => by simp [cls] at e, fun _ p hp => by simp at hp; subst hp; simp, fun _ p hp => by simp at hp; subst hp; simp⟩
    · simp at h
  | build t parts =>
    simp only [opE] at h
    split at h
    · obtain ⟨cs, _, rfl⟩ := Option.map_eq_some_iff.1 h; exact nil rfl
    · simp at h
  | buildSlice t len parts =>
    simp only [opE] at h
    split at h
    · obtain ⟨⟨xs, ks, d⟩, h1, h⟩ := Option.bind_eq_some_iff.1 h
      split at h
      · simp only [Option.some.injEq] at h
        subst h
        rename_i e0 _ _ z hti hcond
        have hu : ∀ v ∈ parts.toList.map (fun p => st.ev tt e0 p.2), svU U v := fun v mv => by obtain ⟨p, _, rfl⟩ := List.mem_map.1 mv; exact hU _ _
        have hk := elemsS_keysU (U := U) h1 hu
        refine ⟨fun e => by simp only [cls] at e; split at e <;> simp at e, fun e p hp => ?_, fun e p hp => ?_⟩
        · by_cases hs : parts.size = 0
          · have : parts = #[] := by simpa using hs
            subst this
            simp [elemsS] at h1
            obtain ⟨_, rfl, _⟩ := h1
            simp [frzAll] at hp; subst hp; simp
          · by_cases hf : flatTI (tt t) = true
            · have hz : z.all avFlat = true := by rw [hti] at hf; exact hf
              have hks : ks = [] := by
                have h3 := hcond.2.2.2
                rw [hz] at h3
                simpa using h3
              subst hks
              simp [frzAll] at hp; subst hp; simp
            · simp [cls, hs, hf] at e
        · rcases List.mem_append.1 hp with hp | hp
          · obtain ⟨p1, p2⟩ := frzAll_mem hp
            exact .inr ⟨hk _ p1, p2⟩
          · simp at hp; subst hp; simp
      · simp at h
    · simp at h
  | load t x => exact nil (pure1_nil h)
  | store t x v => exact ⟨fun e => by simp [cls] at e, fun e => by simp [cls] at e, fun e => by simp [cls] at e⟩
  | makeFunc fn first caps => exact ⟨fun e => by simp [cls] at e, fun e => by simp [cls] at e, fun e => by simp [cls] at e⟩
  | mapUpdate t x i v => exact ⟨fun e => by simp [cls] at e, fun e => by simp [cls] at e, fun e => by simp [cls] at e⟩
  | lookup t x i ok => exact nil (pure1_nil h)
  | makeMap t r =>
    cases r with
    | none =>
      simp only [opE, mkMap] at h
      split at h
      · simp only [Option.some.injEq] at h
        subst h
        exact ⟨fun e => by simp [cls] at e, fun _ p hp => by simp at hp; subst hp; simp, fun _ p hp => by simp at hp; subst hp; simp⟩
      · simp at h
    | some _ => simp [opE] at h
  | nilCheck x =>
    simp only [opE] at h
    split at h <;> simp only [Option.some.injEq, reduceCtorEq] at h <;> exact nil (by rw [← h])
  | binOp op t x y t' => exact nil (pure1_nil h)
  | unOp op t x => exact nil (pure1_nil h)
  | convert s t x => exact nil (pure1_nil h)
  | makeSlice t n c =>
    simp only [opE, makeV] at h
    split at h
    · split at h
      · obtain ⟨ze, _, h⟩ := Option.bind_eq_some_iff.1 h
        split at h
        · simp only [Option.some.injEq] at h
          subst h
          exact ⟨fun e => by simp [cls] at e, fun _ p hp => by simp at hp; subst hp; simp, fun _ p hp => by simp at hp; subst hp; simp⟩
        · simp at h
      · simp at h
    · simp at h
  | slice t x lo hi mx =>
    cases mx with
    | some _ => simp [opE] at h
    | none =>
      by_cases hstr : isStr (tt t) = true
      · have hns : isSlice (tt t) = false := by
          unfold isStr at hstr
          split at hstr
          · rename_i e; rw [e]; rfl
          · simp at hstr
        refine nil ?_
        simp only [opE, sliceU] at h
        split at h
        · simp [hns] at h
        · obtain ⟨v, _, rfl⟩ := Option.map_eq_some_iff.1 h; rfl
        · simp at h
      · have hc : 3 ≤ cls tt hs (.slice t x lo hi none) := by simp only [cls]; rw [if_neg hstr]; split <;> omega
        refine ⟨fun e => by simp only at e; omega, fun e => by simp only at e; omega, fun e p hp => ?_⟩
        have hmv : ∀ d, mvS d (lo.map (st.ev tt 0)) (hi.map (st.ev tt 0)) = false := fun d => by
          cases lo with
          | none => rfl
          | some _ => cases hi with
            | none => simp [cls, hstr] at e
            | some _ => rfl
        simp only [opE, sliceU] at h
        split at h
        · rename_i k hv
          have hk : U k := by
            have := hU 0 x
            rw [hv] at this
            exact this (.row k) (by simp)
          split at h
          · split at h
            · rename_i hob
              split at h
              · rw [hmv, if_neg (by simp)] at h
                obtain ⟨_, _, h⟩ := Option.bind_eq_some_iff.1 h
                obtain ⟨_, _, rfl⟩ := Option.map_eq_some_iff.1 h
                simp at hp
                subst hp
                exact .inr ⟨hk, by rw [hob]; rfl⟩
              · simp at h
            · simp at h
          · simp at h
        · obtain ⟨v, _, rfl⟩ := Option.map_eq_some_iff.1 h
          simp at hp
        · simp at h
  | fieldAddr t x f =>
    simp only [opE] at h
    split at h
    · exact nil (pure1_nil h)
    · simp at h
  | field t x f =>
    simp only [opE] at h
    split at h
    · exact nil (pure1_nil h)
    · simp at h
  | indexAddr t x i =>
    simp only [opE] at h
    split at h
    · exact nil (pure1_nil h)
    · simp at h
  | index t x i => exact nil (pure1_nil h)
  | extract x i => exact nil (pure1_nil h)
  | call c =>
    obtain ⟨callee, args, ts⟩ := c
    cases callee with
    | builtin b =>
      simp only [opE, bltV] at h
      split at h
      · exact nil (pure1_nil h)
      · exact ⟨fun e => by simp [cls] at e, fun e => by simp [cls] at e, fun e => by simp [cls] at e⟩
      · exact nil (pure1_nil h)
      · exact nil (pure1_nil h)
      · simp at h
    | value f => simp [opE] at h
    | invoke r m => simp [opE] at h
  | _ => simp [opE] at h
theorem goCall_cls {hs : FuncId → Nat} {o : Op} {c : FuncId × List TypeId × List Operand} (h : goCall o = some c) : cls tt hs o = if hs c.1 = 0 ∨ hs c.1 = 4 then 1 else 4 := by
  unfold goCall at h
  split at h
  · simp only [Option.some.injEq] at h; rw [← h]; rfl
  · simp at h
theorem dynCall_op {o : Op} {c : Nat × List TypeId × List Operand} (h : dynCall o = some c) : ∃ args ts, o = .call ⟨.value (.tmp c.1), args, ts⟩ ∧ c.2.1 = ts.toList ∧ c.2.2 = args.toList := by
  unfold dynCall at h
  split at h
  · rename_i s args ts
    simp only [Option.some.injEq] at h
    rw [← h]
    exact ⟨args, ts, rfl, rfl, rfl⟩
  · simp at h
theorem dynCall_cls [NW] {hs : FuncId → Nat} {o : Op} {c : Nat × List TypeId × List Operand} (h : dynCall o = some c) : cls tt hs o = 4 := by
  obtain ⟨args, ts, rfl, _⟩ := dynCall_op h
  rfl
theorem opR_keys [NW] (hU : ∀ t x, svU U (st.ev tt t x)) {all : List Oper} {o : Oper} {v : SV} {u : List (Nat × Ob)} (h : opR tt S all key o st v u) : (cls tt S.hd o.op = 0 → u = []) ∧ (cls tt S.hd o.op ≤ 2 → ∀ p ∈ u, key ≤ p.1 ∧ p.1 < key + 16) ∧ (cls tt S.hd o.op ≤ 3 → ∀ p ∈ u, (key ≤ p.1 ∧ p.1 < key + 16) ∨ (U p.1 ∧ p.2 = frzOb (st.ob p.1))) := by
  have nil : u = [] → (cls tt S.hd o.op = 0 → u = []) ∧ (cls tt S.hd o.op ≤ 2 → ∀ p ∈ u, key ≤ p.1 ∧ p.1 < key + 16) ∧ (cls tt S.hd o.op ≤ 3 → ∀ p ∈ u, (key ≤ p.1 ∧ p.1 < key + 16) ∨ (U p.1 ∧ p.2 = frzOb (st.ob p.1))) := fun e => ⟨fun _ => e, fun _ p hp => by simp [e] at hp, fun _ p hp => by simp [e] at hp⟩
  have hRS : opRS tt S key o st v u → (cls tt S.hd o.op = 0 → u = []) ∧ (cls tt S.hd o.op ≤ 2 → ∀ p ∈ u, key ≤ p.1 ∧ p.1 < key + 16) ∧ (cls tt S.hd o.op ≤ 3 → ∀ p ∈ u, (key ≤ p.1 ∧ p.1 < key + 16) ∨ (U p.1 ∧ p.2 = frzOb (st.ob p.1))) := fun h => by
    unfold opRS at h
    split at h
    · rename_i c hc
      by_cases h0 : S.hd c.1 = 0 ∨ S.hd c.1 = 4
      · have h' : ∃ res, (bindRs key res).2.2 ≤ key + 16 ∧ u = (bindRs key res).2.1 := by
          rcases h0 with h0 | h0
          · rw [h0] at h
            obtain ⟨l, res, _, _, _, h3, _, e⟩ := h
            exact ⟨res, h3, e⟩
          · rw [h0] at h
            obtain ⟨l, res, _, _, _, h3, _, e⟩ := h
            exact ⟨res, h3, e⟩
        obtain ⟨res, h3, rfl⟩ := h'
        have hp : ∀ p ∈ (bindRs key res).2.1, key ≤ p.1 ∧ p.1 < key + 16 := fun p hp => by
          have := (bindRs_keys res key).2 p hp
          omega
        exact ⟨fun e => by rw [goCall_cls hc, if_pos h0] at e; simp at e, fun _ => hp, fun _ p m => .inl (hp p m)⟩
      · refine ⟨fun e => by rw [goCall_cls hc, if_neg h0] at e; simp at e, fun e => by rw [goCall_cls hc, if_neg h0] at e; simp at e, fun e => by rw [goCall_cls hc, if_neg h0] at e; simp at e⟩
    · split at h
      · rename_i c hc
        have h4 := dynCall_cls (tt := tt) (hs := S.hd) hc
        exact ⟨fun e => by rw [h4] at e; simp at e, fun e => by rw [h4] at e; simp at e, fun e => by rw [h4] at e; simp at e⟩
      · exact opE_keys hU h
  unfold opR at h
  split at h
  · exact hRS h
  · exact nil h.2
  · unfold gK at h
    split at h
    · split at h
      · exact hRS h
      · exact nil h.2
    · split at h
      · exact nil h.2
      · exact h.elim
theorem frzAll_ob (h : st.ob = st'.ob) : ∀ ks : List Nat, frzAll st ks = frzAll st' ks
  | [] => rfl
  | k :: r => by simp only [frzAll, frzAll_ob h r, h]
theorem svAny (s : SV) : svU (fun _ => True) s := by
  cases s <;> first | trivial | (intro y my; cases y <;> trivial) | (intro y my z mz; cases z <;> trivial)
theorem handOf_ob [NW] (h : st.ob = st'.ob) (v : SV) : handOf st v = handOf st' v := by
  have ha : ∀ cs, avArgs st cs = avArgs st' cs := fun cs => avArgs_same (U := fun _ => True) (fun k _ => .inl (by rw [h])) (fun x _ => by cases x <;> trivial)
  unfold handOf
  split
  · rw [h]
    split
    · rw [ha]
    · rfl
  · rw [h]
  · rfl
theorem callR_ob [NW] (h : st.ob = st'.ob) {f : FuncId} {n : Nat} {vs : List SV} {v : SV} {u : List (Nat × Ob)} : callR S f n key st vs v u ↔ callR S f n key st' vs v u := by
  have hs : ∀ xs, svArgs st xs = svArgs st' xs := fun xs => svArgs_same (U := fun _ => True) (fun k _ => .inl (by rw [h])) (fun x _ => svAny x)
  unfold callR
  split
  · simp only [hs]
  · simp only [hs, handOf_ob h, frzAll_ob h]
  · simp only [hs, frzAll_ob h]
  · simp only [hs]
  · simp only [hs, frzAll_ob h]
theorem opRS_same [NW] {o : Oper} {v : SV} {u : List (Nat × Ob)} (hl : ∀ x ∈ o.op.operands, ∀ t, st.ev tt t x = st'.ev tt t x)
    (hob : cls tt S.hd o.op = 0 ∨ st.ob = st'.ob ∨ (∀ t x, svU U (st.ev tt t x)) ∧ ((cls tt S.hd o.op ≤ 3 ∧ ∀ k, U k → st.ob k = st'.ob k) ∨ (cls tt S.hd o.op ≤ 1 ∧ Wk st st' U))) : opRS tt S key o st v u ↔ opRS tt S key o st' v u := by
  cases hc : goCall o.op with
  | some c =>
    simp only [opRS, hc]
    have hop : ∃ args ts, o.op = .call ⟨.value (.func c.1), args, ts⟩ ∧ c.2.1 = ts.toList ∧ c.2.2 = args.toList := by
      unfold goCall at hc
      split at hc
      · rename_i f args ts he
        simp only [Option.some.injEq] at hc
        rw [← hc]
        exact ⟨args, ts, he, rfl, rfl⟩
      · simp at hc
    obtain ⟨args, ts, ho, e1, e2⟩ := hop
    have hev : evs tt st c.2.1 c.2.2 = evs tt st' c.2.1 c.2.2 := evs_same fun x m t => hl x (by rw [ho]; rw [e2] at m; simp [Op.operands, Call.operands]; exact .inr (by simpa using m)) t
    rw [← hev]
    rcases hob with hc0 | hob | ⟨hu, hob⟩
    · rw [goCall_cls hc] at hc0
      split at hc0 <;> simp at hc0
    · exact callR_ob hob
    · have hc1 : cls tt S.hd o.op ≤ 3 := by rcases hob with h | h <;> omega
      have hwk : Wk st st' U := by
        rcases hob with h | h
        · exact .of h.2
        · exact h.2
      have h0 : S.hd c.1 = 0 ∨ S.hd c.1 = 4 := by
        rw [goCall_cls hc] at hc1
        split at hc1
        · assumption
        · simp at hc1
      have hev0 : ∀ x ∈ evs tt st c.2.1 c.2.2, svU U x := fun x hx => by
        obtain ⟨p, _, rfl⟩ := List.mem_map.1 hx
        exact hu _ _
      rcases h0 with h0 | h0
      · have hsv : svArgs st (evs tt st c.2.1 c.2.2) = svArgs st' (evs tt st c.2.1 c.2.2) := svArgs_same (U := U) hwk hev0
        rw [h0]
        simp only [callR, hsv]
      · have hsv : svArgs st ((evs tt st c.2.1 c.2.2).map nlS) = svArgs st' ((evs tt st c.2.1 c.2.2).map nlS) := svArgs_same (U := U) hwk (fun x hx => by
          obtain ⟨y, my, rfl⟩ := List.mem_map.1 hx
          exact nlS_U (hev0 y my))
        rw [h0]
        simp only [callR, hsv]
  | none =>
    simp only [opRS, hc]
    have : opE tt key o st = opE tt key o st' := by
      obtain ⟨sl, ob, n⟩ := st
      obtain ⟨sl', ob', n'⟩ := st'
      have s1 : opE tt key o ⟨sl', ob', n'⟩ = opE tt key o ⟨sl, ob', n⟩ := opE_slots fun x m t => by
        rw [← hl x m t]; exact ev_ob _ _ _ _ _ _ _
      rw [s1]
      rcases hob with hc | hob | ⟨hu, ⟨hc, hob⟩ | ⟨hc, hob⟩⟩
      · exact opE_obs (U := U) (.inl hc)
      · simp only at hob; subst hob; rfl
      · exact opE_obs (U := U) (.inr (.inl ⟨hc, hob, hu⟩))
      · exact opE_obs (U := U) (.inr (.inr ⟨hc, hob, hu⟩))
    cases hd : dynCall o.op with
    | none => simp only [this]
    | some c =>
      simp only
      obtain ⟨args, ts, ho, e1, e2⟩ := dynCall_op hd
      have hev : evs tt st c.2.1 c.2.2 = evs tt st' c.2.1 c.2.2 := evs_same fun x m t => hl x (by rw [ho]; rw [e2] at m; simp [Op.operands, Call.operands]; exact .inr (by simpa using m)) t
      have hsl : st.sl c.1 = st'.sl c.1 := hl (.tmp c.1) (by rw [ho]; simp [Op.operands, Call.operands]) 0
      have h4 := dynCall_cls (tt := tt) (hs := S.hd) hd
      rcases hob with h0 | h0 | ⟨_, ⟨h0, _⟩ | ⟨h0, _⟩⟩
      · omega
      · rw [hev, hsl]
        constructor
        · rintro ⟨fc, f1, f2, f3⟩; exact ⟨fc, f1, f2, (callR_ob h0).1 f3⟩
        · rintro ⟨fc, f1, f2, f3⟩; exact ⟨fc, f1, f2, (callR_ob h0).2 f3⟩
      · omega
      · omega
/-- a state that differs in a slot that is not looked at, and in rows and boxes that do not matter -/
theorem opR_same [NW] {ops : Array Oper} {o : Oper} {v : SV} {u : List (Nat × Ob)} (hl : ∀ s ∈ o.looksAt ops, st.sl s = st'.sl s)
    (hob : cls tt S.hd o.op = 0 ∨ st.ob = st'.ob ∨ (∀ t x, svU U (st.ev tt t x)) ∧ ((cls tt S.hd o.op ≤ 3 ∧ ∀ k, U k → st.ob k = st'.ob k) ∨ (cls tt S.hd o.op ≤ 1 ∧ Wk st st' U))) : opR tt S ops.toList key o st v u ↔ opR tt S ops.toList key o st' v u := by
  have hl' : ∀ x ∈ o.op.operands, ∀ t, st.ev tt t x = st'.ev tt t x := fun x m t => by
    cases x with
    | tmp s => exact hl s (by
        unfold Oper.looksAt
        refine List.mem_append.2 (.inl (List.mem_filterMap.2 ⟨.tmp s, by simpa using m, rfl⟩)))
    | _ => rfl
  have h1 := opRS_same (S := S) (key := key) (v := v) (u := u) hl' hob
  unfold opR
  cases hg : gslot ops.toList o with
  | none => exact h1
  | some q =>
    obtain ⟨q, want⟩ := q
    cases q with
    | none => rfl
    | some t =>
      have ht : st.sl t = st'.sl t := hl t (by
        unfold gslot at hg
        split at hg
        · simp at hg
        · rename_i g hgd
          simp only [Option.some.injEq, Prod.mk.injEq] at hg
          unfold Oper.looksAt
          refine List.mem_append.2 (.inr ?_)
          rw [hgd]
          have : (ops[g.1]?).bind (·.dst) = some t := by simpa using hg.1
          simp [this])
      simp only [gK, ht, h1]
theorem ev_U [NW] (hU : StU U st) (t : Nat) (x : Operand) : svU U (st.ev tt t x) := by
  cases x with
  | tmp s => exact hU.sl s
  | const v =>
    show svU U (cvT (tt t) v)
    unfold cvT
    split
    · exact svU_c _
    · exact svU_c _
    · split
      · exact svU_c _
      · trivial
    · split
      · intro y m; simp at m; subst m; trivial
      · trivial
    · trivial
  | global _ => trivial
  | func _ => trivial
theorem updAll_out [NW] : ∀ {u : List (Nat × Ob)} {ob : Nat → Ob} {k : Nat}, (∀ p ∈ u, p.1 ≠ k) → updAll ob u k = ob k
  | [], _, _, _ => rfl
  | p :: r, ob, k, h => by
    rw [updAll, updAll_out fun q m => h q (by simp [m])]
    exact upd_ne _ _ fun e => h p (by simp) e.symm
theorem updAll_in [NW] : ∀ {u : List (Nat × Ob)} {ob ob' : Nat → Ob} {k : Nat}, (∃ p ∈ u, p.1 = k) → updAll ob u k = updAll ob' u k
  | [], _, _, _, h => by simp at h
  | p :: r, ob, ob', k, h => by
    rw [updAll, updAll]
    by_cases hr : ∃ q ∈ r, q.1 = k
    · exact updAll_in hr
    · have hn : ∀ q ∈ r, q.1 ≠ k := fun q m e => hr ⟨q, m, e⟩
      rw [updAll_out hn, updAll_out hn]
      obtain ⟨q, mq, e⟩ := h
      rcases List.mem_cons.1 mq with rfl | mq
      · rw [← e, upd_same, upd_same]
      · exact absurd e (hn q mq)
theorem updAll_comm [NW] {u1 u2 : List (Nat × Ob)} {ob : Nat → Ob} (h : ∀ p ∈ u1, ∀ q ∈ u2, p.1 ≠ q.1) : updAll (updAll ob u1) u2 = updAll (updAll ob u2) u1 := by
  funext k
  by_cases h1 : ∃ p ∈ u1, p.1 = k
  · obtain ⟨p, mp, rfl⟩ := h1
    rw [updAll_out fun q mq e => h p mp q mq e.symm]
    exact updAll_in ⟨p, mp, rfl⟩
  · have hn : ∀ q ∈ u1, q.1 ≠ k := fun q m e => h1 ⟨q, m, e⟩
    rw [updAll_out (ob := updAll ob u2) hn]
    by_cases h2 : ∃ p ∈ u2, p.1 = k
    · exact updAll_in h2
    · have hn2 : ∀ q ∈ u2, q.1 ≠ k := fun q m e => h2 ⟨q, m, e⟩
      rw [updAll_out hn2, updAll_out hn2, updAll_out hn]
theorem put_look [NW] (st : St) (d : Option Nat) (v : SV) (s : Nat) (h : ∀ t, d = some t → s ≠ t) : (st.put d v).sl s = st.sl s := by
  cases d with
  | none => rfl
  | some t => exact upd_ne _ _ (h t rfl)
theorem put_ob (st : St) (d : Option Nat) (v : SV) : (st.put d v).ob = st.ob := by cases d <;> rfl
theorem put_n (st : St) (d : Option Nat) (v : SV) : (st.put d v).n = st.n := by cases d <;> rfl
theorem put_comm' (st : St) (d e : Option Nat) (v u : SV) (h : ∀ t, d = some t → e ≠ some t) : ((st.put d v).put e u).sl = ((st.put e u).put d v).sl := by
  cases d with
  | none => rfl
  | some t => cases e with
    | none => rfl
    | some s =>
      have hne : t ≠ s := fun e => h t rfl (e ▸ rfl)
      funext k
      show upd (upd st.sl t v) s u k = upd (upd st.sl s u) t v k
      unfold upd
      by_cases h1 : k = s
      · by_cases h2 : k = t
        · exact absurd (h2.symm.trans h1) hne
        · have hst : ¬ s = t := fun e => hne e.symm
          simp [h1, hst]
      · simp [h1]
/-- a row that moves to a new place -/
def isMv (tt : Nat → Option TI) : Op → Bool
  | .slice t _ (some _) none none => !isStr (tt t)
  | .call ⟨.builtin .append, _, _⟩ => true
  | _ => false
theorem opR_imp [NW] {ops : Array Oper} {o : Oper} {v : SV} {u : List (Nat × Ob)} (hl : ∀ s ∈ o.looksAt ops, st.sl s = st'.sl s) (h1 : opRS tt S key o st' v u → opRS tt S key o st v u) (h : opR tt S ops.toList key o st' v u) : opR tt S ops.toList key o st v u := by
  unfold opR at h ⊢
  cases hg : gslot ops.toList o with
  | none => rw [hg] at h; exact h1 h
  | some q =>
    obtain ⟨q, want⟩ := q
    rw [hg] at h
    cases q with
    | none => exact h
    | some t =>
      have ht : st.sl t = st'.sl t := hl t (by
        unfold gslot at hg
        split at hg
        · simp at hg
        · rename_i g hgd
          simp only [Option.some.injEq, Prod.mk.injEq] at hg
          unfold Oper.looksAt
          refine List.mem_append.2 (.inr ?_)
          rw [hgd]
          have : (ops[g.1]?).bind (·.dst) = some t := by simpa using hg.1
          simp [this])
      simp only [gK, ht] at h ⊢
      split at h
      · rename_i hb
        rw [if_pos hb]
        split at h
        · rename_i hb2; rw [if_pos hb2]; exact h1 h
        · rename_i hb2; rw [if_neg hb2]; exact h
      · rename_i hb
        rw [if_neg hb]
        exact h
theorem looks_op {ops : Array Oper} {o : Oper} (hl : ∀ s ∈ o.looksAt ops, st.sl s = st'.sl s) : ∀ x ∈ o.op.operands, ∀ t, st.ev tt t x = st'.ev tt t x := fun x m t => by
  cases x with
  | tmp s => exact hl s (by
      unfold Oper.looksAt
      refine List.mem_append.2 (.inl (List.mem_filterMap.2 ⟨.tmp s, by simpa using m, rfl⟩)))
  | _ => rfl
theorem opRS_more [NW] {o : Oper} {v : SV} {u : List (Nat × Ob)} (hl : ∀ x ∈ o.op.operands, ∀ t, st.ev tt t x = st'.ev tt t x) (hc1 : cls tt S.hd o.op ≤ 1) (hu : ∀ t x, svU U (st.ev tt t x)) (hob : Mk st st' U) (h : opRS tt S key o st' v u) : opRS tt S key o st v u := by
  cases hc : goCall o.op with
  | some c =>
    simp only [opRS, hc] at h ⊢
    have hop : ∃ args ts, o.op = .call ⟨.value (.func c.1), args, ts⟩ ∧ c.2.1 = ts.toList ∧ c.2.2 = args.toList := by
      unfold goCall at hc
      split at hc
      · rename_i f args ts he
        simp only [Option.some.injEq] at hc
        rw [← hc]
        exact ⟨args, ts, he, rfl, rfl⟩
      · simp at hc
    obtain ⟨args, ts, ho, e1, e2⟩ := hop
    have hev : evs tt st c.2.1 c.2.2 = evs tt st' c.2.1 c.2.2 := evs_same fun x m t => hl x (by rw [ho]; rw [e2] at m; simp [Op.operands, Call.operands]; exact .inr (by simpa using m)) t
    rw [← hev] at h
    have h0 : S.hd c.1 = 0 ∨ S.hd c.1 = 4 := by
      rw [goCall_cls hc] at hc1
      split at hc1
      · assumption
      · simp at hc1
    have hev0 : ∀ x ∈ evs tt st c.2.1 c.2.2, svU U x := fun x hx => by
      obtain ⟨p, _, rfl⟩ := List.mem_map.1 hx
      exact hu _ _
    rcases h0 with h0 | h0
    · rw [h0] at h ⊢
      simp only [callR] at h ⊢
      obtain ⟨al, res, h1, h2⟩ := h
      exact ⟨al, res, svArgs_more hob hev0 h1, h2⟩
    · rw [h0] at h ⊢
      simp only [callR] at h ⊢
      obtain ⟨al, res, h1, h2⟩ := h
      exact ⟨al, res, svArgs_more hob (fun x hx => by
        obtain ⟨y, my, rfl⟩ := List.mem_map.1 hx
        exact nlS_U (hev0 y my)) h1, h2⟩
  | none =>
    simp only [opRS, hc] at h ⊢
    cases hd : dynCall o.op with
    | some c => have h4 := dynCall_cls (tt := tt) (hs := S.hd) hd; omega
    | none =>
      rw [hd] at h
      simp only at h ⊢
      obtain ⟨sl, ob, n⟩ := st
      obtain ⟨sl', ob', n'⟩ := st'
      have s1 : opE tt key o ⟨sl', ob', n'⟩ = opE tt key o ⟨sl, ob', n⟩ := opE_slots fun x m t => by
        rw [← hl x m t]; exact ev_ob _ _ _ _ _ _ _
      rw [s1] at h
      exact opE_more hc1 hob hu h
theorem mv_op {o : Op} (h : isMv tt o = true) : (∃ t x lo, o = .slice t x (some lo) none none ∧ isStr (tt t) = false) ∨ ∃ args ts, o = .call ⟨.builtin .append, args, ts⟩ := by
  unfold isMv at h
  split at h
  · exact .inl ⟨_, _, _, rfl, by simpa using h⟩
  · exact .inr ⟨_, _, rfl⟩
  · simp at h
theorem appDst_U [NW] {s : SV} {a : List (List CT) × List Nat × Nat} (hs : svU U s) (h : appDst st s = some a) : ∀ k ∈ a.2.1, U k := by
  unfold appDst at h
  split at h
  · simp only [Option.some.injEq] at h; rw [← h]; simp
  · split at h
    · split at h
      · simp at h
      · simp only [Option.some.injEq] at h
        rw [← h]
        intro k hk
        simp only [List.mem_cons, List.not_mem_nil, or_false] at hk
        subst hk
        exact hs (.row _) (by simp)
    · simp at h
  · simp at h
theorem appSrc_U [NW] {fl : Bool} {s : SV} {a : List (List CT) × List Nat × Nat} (hs : svU U s) (h : appSrc st fl s = some a) : ∀ k ∈ a.2.1, U k := by
  unfold appSrc at h
  split at h
  · simp only [Option.some.injEq] at h; rw [← h]; simp
  · simp only [Option.some.injEq] at h; rw [← h]; simp
  · split at h
    · split at h
      · simp only [Option.some.injEq] at h; rw [← h]; simp
      · simp only [Option.some.injEq] at h
        rw [← h]
        intro k hk
        simp only [List.mem_cons, List.not_mem_nil, or_false] at hk
        subst hk
        exact hs (.row _) (by simp)
    · simp at h
  · simp at h
theorem appV_same [NW] {t : Option TI} {s x : SV} (hs : svU U s) (hx : svU U x) (hob : ∀ k, U k → st.ob k = st'.ob k) : appV st key t s x = appV st' key t s x := by
  have e1 : appDst st s = appDst st' s := by
    unfold appDst
    split
    · rfl
    · rename_i k
      rw [hob k (hs (.row k) (by simp))]
    · rfl
  have e2 : ∀ fl, appSrc st fl x = appSrc st' fl x := fun fl => by
    unfold appSrc
    split
    · rfl
    · rfl
    · rename_i k
      rw [hob k (hx (.row k) (by simp))]
    · rfl
  have e3 : ∀ e m, dstOk st e m s = dstOk st' e m s := fun e m => by
    unfold dstOk
    split
    · rename_i k
      rw [hob k (hs (.row k) (by simp))]
    · rfl
    · rfl
  have e4 : ∀ m, srcOk st m x = srcOk st' m x := fun m => by
    unfold srcOk
    split
    · rename_i k
      rw [hob k (hx (.row k) (by simp))]
    · rfl
    · rfl
    · rfl
  unfold appV
  split
  · simp only [e1, e2, e3, e4]
  · rfl
theorem blt_app {ts : List TypeId} {vs : List SV} {r : SV × List (Nat × Ob)} (h : bltV tt st key .append ts vs = some r) : ∃ t s x, ts = [t, t] ∧ vs = [s, x] ∧ appV st key (tt t) s x = some r := by
  match ts, vs, h with
  | [t, u], [s, x], h =>
    simp only [bltV] at h
    split at h
    · rename_i e; subst e; exact ⟨t, s, x, rfl, rfl, h⟩
    · simp at h
  | [], _, h => simp [bltV] at h
  | [_], _, h => simp [bltV] at h
  | _ :: _ :: _ :: _, _, h => simp [bltV] at h
  | [_, _], [], h => simp [bltV] at h
  | [_, _], [_], h => simp [bltV] at h
  | [_, _], _ :: _ :: _ :: _, h => simp [bltV] at h
theorem mv_keys [NW] {o : Oper} {v : SV} {u : List (Nat × Ob)} (hm : isMv tt o.op = true) (hU : ∀ t x, svU U (st.ev tt t x)) (h : opRS tt S key o st v u) : (∀ p ∈ u, (key ≤ p.1 ∧ p.1 < key + 16) ∨ (U p.1 ∧ (p.2 = st.ob p.1 ∨ p.2 = .gone))) := by
  obtain ⟨dst, op, ty, pos, af, gd⟩ := o
  obtain ⟨t, x, lo, ho, hs⟩ | ⟨args, ts, ho⟩ := mv_op hm
  rotate_left
  · simp only at ho
    subst ho
    have h' : bltV tt st key .append ts.toList (evs tt st ts.toList args.toList) = some (v, u) := h
    obtain ⟨t, s, x, _, he, h'⟩ := blt_app h'
    have hmem : svU U s ∧ svU U x := by
      have hall : ∀ y ∈ evs tt st ts.toList args.toList, svU U y := fun y my => by
        obtain ⟨p, _, rfl⟩ := List.mem_map.1 my
        exact hU _ _
      exact ⟨hall s (by rw [he]; simp), hall x (by rw [he]; simp)⟩
    unfold appV at h'
    split at h'
    · obtain ⟨a, h1, h'⟩ := Option.bind_eq_some_iff.1 h'
      obtain ⟨b, h2, h'⟩ := Option.bind_eq_some_iff.1 h'
      split at h'
      · simp only [Option.some.injEq, Prod.mk.injEq] at h'
        rw [← h'.2]
        intro p hp
        rcases List.mem_append.1 hp with hp | hp
        · obtain ⟨k, mk, rfl⟩ := List.mem_map.1 hp
          refine .inr ⟨?_, .inr rfl⟩
          rcases List.mem_append.1 mk with mk | mk
          · exact appDst_U hmem.1 h1 k mk
          · exact appSrc_U hmem.2 h2 k mk
        · simp only [List.mem_cons, List.not_mem_nil, or_false] at hp
          subst hp
          exact .inl ⟨Nat.le_refl _, by simp only; omega⟩
      · simp at h'
    · simp at h'
  simp only at ho
  subst ho
  have h' : opE tt key ⟨dst, .slice t x (some lo) none none, ty, pos, af, gd⟩ st = some (v, u) := h
  simp only [opE, sliceU, Option.map_some, Option.map_none] at h'
  intro p hp
  split at h'
  · rename_i k hv
    have hk : U k := by
      have := hU 0 x
      rw [hv] at this
      exact this (.row k) (by simp)
    split at h'
    · split at h'
      · rename_i hob
        split at h'
        · split at h'
          · obtain ⟨l, _, e⟩ := Option.map_eq_some_iff.1 h'
            simp only [Prod.mk.injEq] at e
            rw [← e.2] at hp
            simp only [List.mem_cons, List.not_mem_nil, or_false] at hp
            rcases hp with rfl | rfl
            · exact .inr ⟨hk, .inr rfl⟩
            · exact .inl ⟨Nat.le_refl _, by simp only; omega⟩
          · rename_i hmv
            obtain ⟨_, _, h'⟩ := Option.bind_eq_some_iff.1 h'
            obtain ⟨_, _, e⟩ := Option.map_eq_some_iff.1 h'
            simp only [Prod.mk.injEq] at e
            rw [← e.2] at hp
            simp only [List.mem_cons, List.not_mem_nil, or_false] at hp
            subst hp
            refine .inr ⟨hk, .inl ?_⟩
            simp only [mvS] at hmv
            split at hmv
            · rename_i hd; rw [hob, hd]
            · simp at hmv
        · simp at h'
      · simp at h'
    · simp at h'
  · obtain ⟨_, _, e⟩ := Option.map_eq_some_iff.1 h'
    simp only [Prod.mk.injEq] at e
    rw [← e.2] at hp
    simp at hp
  · simp at h'
theorem mv_same [NW] {o : Oper} {v : SV} {u : List (Nat × Ob)} (hm : isMv tt o.op = true) (hl : ∀ x ∈ o.op.operands, ∀ t, st.ev tt t x = st'.ev tt t x) (hU : ∀ t x, svU U (st'.ev tt t x)) (hob : ∀ k, U k → st.ob k = st'.ob k) (h : opRS tt S key o st' v u) : opRS tt S key o st v u := by
  obtain ⟨dst, op, ty, pos, af, gd⟩ := o
  obtain ⟨t, x, lo, ho, hs⟩ | ⟨args, ts, ho⟩ := mv_op hm
  rotate_left
  · simp only at ho
    subst ho
    have h' : bltV tt st' key .append ts.toList (evs tt st' ts.toList args.toList) = some (v, u) := h
    show bltV tt st key .append ts.toList (evs tt st ts.toList args.toList) = some (v, u)
    have hev : evs tt st ts.toList args.toList = evs tt st' ts.toList args.toList := evs_same fun x m t => hl x (by simpa [Op.operands, Call.operands] using m) t
    have hall : ∀ y ∈ evs tt st' ts.toList args.toList, svU U y := fun y my => by
      obtain ⟨p, _, rfl⟩ := List.mem_map.1 my
      exact hU _ _
    obtain ⟨t, s, x, et, he, h'⟩ := blt_app h'
    rw [hev, he, et]
    rw [he] at hall
    show (if t = t then appV st key (tt t) s x else none) = _
    rw [if_pos rfl, appV_same (hall s (by simp)) (hall x (by simp)) hob, h']
  simp only at ho
  subst ho
  have h' : opE tt key ⟨dst, .slice t x (some lo) none none, ty, pos, af, gd⟩ st' = some (v, u) := h
  show opE tt key ⟨dst, .slice t x (some lo) none none, ty, pos, af, gd⟩ st = some (v, u)
  have e1 := hl x (by simp [Op.operands]) 0
  have e2 := hl lo (by simp [Op.operands]) 0
  simp only [opE, Option.map_some, Option.map_none, e1, e2] at h' ⊢
  rw [← h']
  have hx := hU 0 x
  unfold sliceU
  split
  · rename_i k hv
    rw [hv] at hx
    have hk : U k := hx (.row k) (by simp)
    simp only [hob k hk]
  · rfl
  · rfl
theorem gone_skip [NW] {ops : List Oper} {o : Oper} {v : SV} {u : List (Nat × Ob)} {C : Prop} (h : opR tt S ops key o st v u) (h1 : opRS tt S key o st v u → C) (h2 : u = [] → C) : C := by
  unfold opR at h
  split at h
  · exact h1 h
  · exact h2 h.2
  · unfold gK at h
    split at h
    · split at h
      · exact h1 h
      · exact h2 h.2
    · split at h
      · exact h2 h.2
      · exact h.elim
def clsOk (tt : Nat → Option TI) (hs : FuncId → Nat) (x y : Op) : Bool := cls tt hs x == 0 || cls tt hs y == 0 || (Nat.ble (cls tt hs x) 2 && Nat.ble (cls tt hs y) 2) || (Nat.ble (cls tt hs x) 1 && Nat.ble (cls tt hs y) 3) || (Nat.ble (cls tt hs x) 3 && Nat.ble (cls tt hs y) 1) || (isMv tt x && Nat.ble (cls tt hs y) 1)
theorem comm [NW] {ops : Array Oper} {oi oj : Oper} {ki kj : Nat} {vi vj : SV} {ui uj : List (Nat × Ob)} (hap : oi.apart ops oj = true) (hc : clsOk tt S.hd oi.op oj.op = true) (hU : StU U st) (hki : ∀ k, ki ≤ k → k < ki + 16 → ¬ U k) (hkj : ∀ k, kj ≤ k → k < kj + 16 → ¬ U k) (hdis : ki + 16 ≤ kj ∨ kj + 16 ≤ ki)
    (h : opR tt S ops.toList ki oi st vi ui) (h' : opR tt S ops.toList kj oj ((st.put oi.dst vi).app ui) vj uj) :
    opR tt S ops.toList kj oj st vj uj ∧ opR tt S ops.toList ki oi ((st.put oj.dst vj).app uj) vi ui ∧ ((((st.put oi.dst vi).app ui).put oj.dst vj).app uj) = ((((st.put oj.dst vj).app uj).put oi.dst vi).app ui) := by
  obtain ⟨a1, a2, a3⟩ := Oper.apart_spec hap
  have hev : ∀ t x, svU U (st.ev tt t x) := fun t x => ev_U hU t x
  obtain ⟨i1, i2, i3⟩ := opR_keys (U := U) hev h
  have eqs : (∀ p ∈ ui, ∀ q ∈ uj, p.1 ≠ q.1) → ((((st.put oi.dst vi).app ui).put oj.dst vj).app uj) = ((((st.put oj.dst vj).app uj).put oi.dst vi).app ui) := fun hne => by
    have hsl : ((((st.put oi.dst vi).app ui).put oj.dst vj).app uj).sl = ((((st.put oj.dst vj).app uj).put oi.dst vi).app ui).sl := by
      have e1 : ∀ (s : St) (u : List (Nat × Ob)) (d : Option Nat) (v : SV), ((s.app u).put d v).sl = (s.put d v).sl := fun s u d v => by cases d <;> rfl
      show (((st.put oi.dst vi).app ui).put oj.dst vj).sl = (((st.put oj.dst vj).app uj).put oi.dst vi).sl
      rw [e1, e1]
      exact put_comm' st _ _ _ _ fun t ht => a2 t ht
    have hobs : ((((st.put oi.dst vi).app ui).put oj.dst vj).app uj).ob = ((((st.put oj.dst vj).app uj).put oi.dst vi).app ui).ob := by
      show updAll (((st.put oi.dst vi).app ui).put oj.dst vj).ob uj = updAll (((st.put oj.dst vj).app uj).put oi.dst vi).ob ui
      rw [put_ob, put_ob]
      show updAll (updAll (st.put oi.dst vi).ob ui) uj = updAll (updAll (st.put oj.dst vj).ob uj) ui
      rw [put_ob, put_ob]
      exact updAll_comm hne
    have hn : ((((st.put oi.dst vi).app ui).put oj.dst vj).app uj).n = ((((st.put oj.dst vj).app uj).put oi.dst vi).app ui).n := by
      show (((st.put oi.dst vi).app ui).put oj.dst vj).n = (((st.put oj.dst vj).app uj).put oi.dst vi).n
      rw [put_n, put_n]
      show (st.put oi.dst vi).n = (st.put oj.dst vj).n
      rw [put_n, put_n]
    generalize ((((st.put oi.dst vi).app ui).put oj.dst vj).app uj) = s1 at hsl hobs hn ⊢
    generalize ((((st.put oj.dst vj).app uj).put oi.dst vi).app ui) = s2 at hsl hobs hn ⊢
    cases s1; cases s2
    simp only at hsl hobs hn
    subst hsl hobs hn
    rfl
  by_cases hmv : isMv tt oi.op = true ∧ cls tt S.hd oj.op ≤ 1
  · obtain ⟨hm, hj⟩ := hmv
    have hui : ∀ p ∈ ui, (ki ≤ p.1 ∧ p.1 < ki + 16) ∨ (U p.1 ∧ (p.2 = st.ob p.1 ∨ p.2 = .gone)) := gone_skip h (fun h => mv_keys hm hev h) fun e p hp => by rw [e] at hp; simp at hp
    have hmk : Mk st ((st.put oi.dst vi).app ui) U := fun k hk => by
      show updAll (st.put oi.dst vi).ob ui k = st.ob k ∨ updAll (st.put oi.dst vi).ob ui k = .gone
      rw [put_ob]
      have gen : ∀ (u : List (Nat × Ob)) (ob : Nat → Ob), (∀ p ∈ u, (ki ≤ p.1 ∧ p.1 < ki + 16) ∨ (U p.1 ∧ (p.2 = st.ob p.1 ∨ p.2 = .gone))) → (ob k = st.ob k ∨ ob k = .gone) → (updAll ob u k = st.ob k ∨ updAll ob u k = .gone) := by
        intro u
        induction u with
        | nil => intro ob _ h; exact h
        | cons p u ih =>
          intro ob hp h
          refine ih _ (fun x mx => hp x (by simp [mx])) ?_
          by_cases hpk : k = p.1
          · rcases hp p (by simp) with h1 | h1
            · exact absurd (hpk ▸ hk) (hki p.1 h1.1 h1.2)
            · rw [hpk, upd_same]; exact h1.2
          · rw [upd_ne _ _ hpk]; exact h
      exact gen ui st.ob hui (.inl rfl)
    have hlj : ∀ s ∈ oj.looksAt ops, st.sl s = ((st.put oi.dst vi).app ui).sl s := fun s ms => (put_look st oi.dst vi s fun t ht e => a1 t ht (e ▸ ms)).symm
    have hA : opR tt S ops.toList kj oj st vj uj := opR_imp hlj (opRS_more (looks_op hlj) hj hev hmk) h'
    obtain ⟨_, j2, _⟩ := opR_keys (U := U) hev hA
    have hlk : ∀ s ∈ oi.looksAt ops, ((st.put oj.dst vj).app uj).sl s = st.sl s := fun s ms => put_look st oj.dst vj s fun t ht e => a3 t ht (e ▸ ms)
    have hag : ∀ k, U k → ((st.put oj.dst vj).app uj).ob k = st.ob k := fun k hk => by
      show updAll (st.put oj.dst vj).ob uj k = st.ob k
      rw [put_ob]
      exact updAll_out fun p mp e => hkj p.1 (j2 (by omega) p mp).1 (j2 (by omega) p mp).2 (e ▸ hk)
    refine ⟨hA, opR_imp hlk (mv_same hm (looks_op hlk) hev hag) h, eqs fun p mp q mq e => ?_⟩
    have h2 := j2 (by omega) q mq
    rcases hui p mp with h1 | h1
    · omega
    · exact hkj q.1 h2.1 h2.2 (e ▸ h1.1)
  have hcl : cls tt S.hd oi.op = 0 ∨ cls tt S.hd oj.op = 0 ∨ (cls tt S.hd oi.op ≤ 2 ∧ cls tt S.hd oj.op ≤ 2) ∨ (cls tt S.hd oi.op ≤ 1 ∧ cls tt S.hd oj.op ≤ 3) ∨ (cls tt S.hd oi.op ≤ 3 ∧ cls tt S.hd oj.op ≤ 1) := by
    unfold clsOk at hc
    simp only [Bool.or_eq_true, beq_iff_eq, Bool.and_eq_true] at hc
    rcases hc with ((((hc | hc) | hc) | hc) | hc) | hc
    · exact .inl hc
    · exact .inr (.inl hc)
    · exact .inr (.inr (.inl ⟨Nat.le_of_ble_eq_true hc.1, Nat.le_of_ble_eq_true hc.2⟩))
    · exact .inr (.inr (.inr (.inl ⟨Nat.le_of_ble_eq_true hc.1, Nat.le_of_ble_eq_true hc.2⟩)))
    · exact .inr (.inr (.inr (.inr ⟨Nat.le_of_ble_eq_true hc.1, Nat.le_of_ble_eq_true hc.2⟩)))
    · exact absurd ⟨hc.1, Nat.le_of_ble_eq_true hc.2⟩ hmv
  have agree : ∀ {u : List (Nat × Ob)} {q : Nat}, (∀ p ∈ u, q ≤ p.1 ∧ p.1 < q + 16) → (∀ k, q ≤ k → k < q + 16 → ¬ U k) → ∀ k, U k → st.ob k = updAll st.ob u k := fun hu hq k hk => (updAll_out fun p mp e => hq p.1 (hu p mp).1 (hu p mp).2 (e ▸ hk)).symm
  have weak : ∀ {u : List (Nat × Ob)} {q : Nat}, (∀ p ∈ u, (q ≤ p.1 ∧ p.1 < q + 16) ∨ (U p.1 ∧ p.2 = frzOb (st.ob p.1))) → (∀ k, q ≤ k → k < q + 16 → ¬ U k) → ∀ k, U k → updAll st.ob u k = st.ob k ∨ updAll st.ob u k = frzOb (st.ob k) := fun {u q} hu hq k hk => by
    have gen : ∀ (u : List (Nat × Ob)) (ob : Nat → Ob), (∀ p ∈ u, (q ≤ p.1 ∧ p.1 < q + 16) ∨ (U p.1 ∧ p.2 = frzOb (st.ob p.1))) → (ob k = st.ob k ∨ ob k = frzOb (st.ob k)) → (updAll ob u k = st.ob k ∨ updAll ob u k = frzOb (st.ob k)) := by
      intro u
      induction u with
      | nil => intro ob _ h; exact h
      | cons p u ih =>
        intro ob hp h
        refine ih _ (fun x mx => hp x (by simp [mx])) ?_
        by_cases hpk : k = p.1
        · rcases hp p (by simp) with h1 | h1
          · exact absurd (hpk ▸ hk) (hq p.1 h1.1 h1.2)
          · right; rw [hpk, upd_same]; exact h1.2
        · rw [upd_ne _ _ hpk]; exact h
    exact gen u st.ob hu (.inl rfl)
  have hA : opR tt S ops.toList kj oj st vj uj := by
    refine (opR_same (U := U) (st := st) (st' := (st.put oi.dst vi).app ui) (fun s ms => (put_look st oi.dst vi s fun t ht e => a1 t ht (e ▸ ms)).symm) ?_).2 h'
    show cls tt S.hd oj.op = 0 ∨ st.ob = updAll (st.put oi.dst vi).ob ui ∨ _ ∧ ((cls tt S.hd oj.op ≤ 3 ∧ ∀ k, U k → st.ob k = updAll (st.put oi.dst vi).ob ui k) ∨ (cls tt S.hd oj.op ≤ 1 ∧ ∀ k, U k → updAll (st.put oi.dst vi).ob ui k = st.ob k ∨ updAll (st.put oi.dst vi).ob ui k = frzOb (st.ob k)))
    rw [put_ob]
    rcases hcl with hcl | hcl | ⟨c1, c2⟩ | ⟨c1, c2⟩ | ⟨c1, c2⟩
    · right; left; rw [i1 hcl]; rfl
    · left; exact hcl
    · right; right; exact ⟨hev, .inl ⟨by omega, agree (i2 c1) hki⟩⟩
    · right; right; exact ⟨hev, .inl ⟨c2, agree (i2 (by omega)) hki⟩⟩
    · right; right; exact ⟨hev, .inr ⟨c2, weak (i3 c1) hki⟩⟩
  obtain ⟨j1', j2', j3'⟩ := opR_keys (U := U) hev hA
  refine ⟨hA, ?_, ?_⟩
  · refine (opR_same (U := U) (st := st) (st' := (st.put oj.dst vj).app uj) (fun s ms => (put_look st oj.dst vj s fun t ht e => a3 t ht (e ▸ ms)).symm) ?_).1 h
    show cls tt S.hd oi.op = 0 ∨ st.ob = updAll (st.put oj.dst vj).ob uj ∨ _ ∧ ((cls tt S.hd oi.op ≤ 3 ∧ ∀ k, U k → st.ob k = updAll (st.put oj.dst vj).ob uj k) ∨ (cls tt S.hd oi.op ≤ 1 ∧ ∀ k, U k → updAll (st.put oj.dst vj).ob uj k = st.ob k ∨ updAll (st.put oj.dst vj).ob uj k = frzOb (st.ob k)))
    rw [put_ob]
    rcases hcl with hcl | hcl | ⟨c1, c2⟩ | ⟨c1, c2⟩ | ⟨c1, c2⟩
    · left; exact hcl
    · right; left; rw [j1' hcl]; rfl
    · right; right; exact ⟨hev, .inl ⟨by omega, agree (j2' c2) hkj⟩⟩
    · right; right; exact ⟨hev, .inr ⟨c1, weak (j3' c2) hkj⟩⟩
    · right; right; exact ⟨hev, .inl ⟨c1, agree (j2' (by omega)) hkj⟩⟩
  · rcases hcl with hcl | hcl | ⟨c1, c2⟩ | ⟨c1, c2⟩ | ⟨c1, c2⟩
    · exact eqs fun p mp => by rw [i1 hcl] at mp; simp at mp
    · exact eqs fun p mp q mq => by rw [j1' hcl] at mq; simp at mq
    · refine eqs fun p mp q mq e => ?_
      have := i2 c1 p mp
      have := j2' c2 q mq
      omega
    · refine eqs fun p mp q mq e => ?_
      have h1 := i2 (by omega) p mp
      rcases j3' c2 q mq with h2 | h2
      · omega
      · exact hki p.1 h1.1 h1.2 (e ▸ h2.1)
    · refine eqs fun p mp q mq e => ?_
      have h1 := j2' (by omega) q mq
      rcases i3 c1 p mp with h2 | h2
      · omega
      · exact hkj q.1 h1.1 h1.2 (e ▸ h2.1)
/- a load and a call into which something is handed: what is handed in stands at the key 0, the load looks elsewhere -/
def isLd : Op → Bool
  | .load _ _ => true
  | _ => false
def isHd (hs : FuncId → Nat) (o : Op) : Bool := match goCall o with
  | some c => hs c.1 == 1
  | none => false
def isSlO : Op → Bool
  | .slice _ _ _ _ none => true
  | _ => false
def clsB (tt : Nat → Option TI) (hs : FuncId → Nat) (b : Bool) (x y : Op) : Bool := clsOk tt hs x y || (b && ((isLd x && isHd hs y) || (isHd hs x && isLd y) || isSlO x || isSlO y))
theorem goCall_args {o : Op} {c : FuncId × List TypeId × List Operand} (h : goCall o = some c) : ∃ args ts, o = .call ⟨.value (.func c.1), args, ts⟩ ∧ c.2.2 = args.toList := by
  unfold goCall at h
  split at h
  · rename_i f args ts
    simp only [Option.some.injEq] at h
    rw [← h]
    exact ⟨args, ts, rfl, rfl⟩
  · simp at h
theorem stk_same {o : Op} (h : ∀ x ∈ o.operands, ∀ t, st.ev tt t x = st'.ev tt t x) : stk tt S o st = stk tt S o st' := by
  unfold stk
  split
  · rename_i t x
    rw [h x (by simp [Op.operands])]
  · rename_i t x _ _ _
    rw [h x (by simp [Op.operands])]
  · split
    · rename_i c hc
      obtain ⟨args, ts, ho, e⟩ := goCall_args hc
      unfold hdC
      split
      · cases hh : c.2.2.head? with
        | none => rfl
        | some x =>
          have mx : x ∈ args.toList := by rw [← e]; exact List.mem_of_mem_head? hh
          simp only
          rw [h x (by rw [ho]; simp [Op.operands, Call.operands]; exact .inr (by simpa using mx))]
      · rfl
    · rfl
theorem stk_swap [NW] {ops : Array Oper} {oi oj : Oper} {vi vj : SV} {ui uj : List (Nat × Ob)} (hap : oi.apart ops oj = true) : stk tt S oj.op st = stk tt S oj.op ((st.put oi.dst vi).app ui) ∧ stk tt S oi.op ((st.put oj.dst vj).app uj) = stk tt S oi.op st := by
  obtain ⟨a1, a2, a3⟩ := Oper.apart_spec hap
  exact ⟨stk_same (looks_op fun s ms => (put_look st oi.dst vi s fun t ht e => a1 t ht (e ▸ ms)).symm), stk_same (looks_op fun s ms => put_look st oj.dst vj s fun t ht e => a3 t ht (e ▸ ms))⟩
/-- what a hand call changes: the key 0, where a box stands; rows that are frozen; new keys -/
theorem hand_keys [NW] {o : Oper} {v : SV} {u : List (Nat × Ob)} (ho : isHd S.hd o.op = true) (hs : stk tt S o.op st = true) (h : opRS tt S key o st v u) : ∀ p ∈ u, p.1 = 0 ∨ (key ≤ p.1 ∧ p.1 < key + 16) ∨ p.2 = frzOb (st.ob p.1) := by
  unfold isHd at ho
  split at ho
  rotate_left
  · simp at ho
  rename_i c hc
  have h1 : S.hd c.1 = 1 := by simpa using ho
  unfold opRS at h
  rw [hc] at h
  simp only [h1, callR] at h
  obtain ⟨v0, r, k, hh, l, res, h', hv, hk, hl, hs', hne, hn, rfl, rfl⟩ := h
  have h2 : hdC tt 1 c.2.2.head? st = true := by
    have e : stk tt S o.op st = hdC tt (S.hd c.1) c.2.2.head? st := by
      unfold stk
      split
      · rename_i hq; rw [hq] at hc; simp [goCall] at hc
      · rename_i hq; rw [hq] at hc; simp [goCall] at hc
      · rw [hc]
    rw [← h1, ← e]; exact hs
  have hv0 : ∃ off, v0 = .bp 0 off := by
    unfold hdC at h2
    simp only at h2
    cases hx : c.2.2 with
    | nil => rw [hx] at h2; simp at h2
    | cons x xs =>
      rw [hx] at h2 hv
      simp only [List.head?_cons] at h2
      have e0 : ∀ ts : List TypeId, ∃ t q, evs tt st ts (x :: xs) = st.ev tt t x :: q := fun ts => by cases ts <;> exact ⟨_, _, rfl⟩
      obtain ⟨t, q, e0⟩ := e0 c.2.1
      rw [e0] at hv
      simp only [List.cons.injEq] at hv
      have hb : hdB (st.ev tt 0 x) = true := h2
      have ht : ∀ t', hdB (st.ev tt t' x) = true → ∃ off, st.ev tt t x = .bp 0 off := fun t' hb => by
        cases x with
        | tmp s =>
          have hb' : hdB (st.sl s) = true := hb
          unfold hdB at hb'
          split at hb'
          · rename_i k' off e; exact ⟨off, by show st.sl s = _; rw [e, of_decide_eq_true hb']⟩
          · simp at hb'
        | const u =>
          exfalso
          have hb' : hdB (cvT (tt t') u) = true := hb
          unfold cvT at hb'
          split at hb' <;> first | (simp [hdB] at hb'; done) | (split at hb' <;> simp [hdB] at hb')
        | func f => simp [St.ev, hdB] at hb
        | global g => simp [St.ev, hdB] at hb
      obtain ⟨off, e⟩ := ht 0 hb
      exact ⟨off, by rw [← hv.1, e]⟩
  obtain ⟨off, rfl⟩ := hv0
  have hkk : k = 0 := by
    unfold handOf at hk
    split at hk
    · rename_i k' e
      simp only [SV.bp.injEq] at e
      obtain ⟨rfl, rfl⟩ := e
      split at hk
      · rename_i t cs hb
        split at hk
        · obtain ⟨_, _, e⟩ := Option.map_eq_some_iff.1 hk
          simp only [Prod.mk.injEq] at e
          exact e.1.symm
        · simp at hk
      · simp at hk
    · rename_i e; simp at e
    · simp at hk
  subst hkk
  intro p mp
  rcases List.mem_append.1 mp with mp | mp
  · exact .inr (.inr (frzAll_mem mp).2)
  · rcases List.mem_cons.1 mp with rfl | mp
    · exact .inl rfl
    · have := (bindRs_keys res key).2 p mp
      exact .inr (.inl (by omega))
/-- a load that looks elsewhere reads the same -/
theorem load_same [NW] {o : Oper} {v : SV} {u : List (Nat × Ob)} (ho : isLd o.op = true) (hl : ∀ x ∈ o.op.operands, ∀ t, st.ev tt t x = st'.ev tt t x) (hs : stk tt S o.op st = true) (hU : ∀ t x, svU U (st.ev tt t x)) (hob : ∀ k, U k → k ≠ 0 → st'.ob k = st.ob k ∨ st'.ob k = frzOb (st.ob k)) : opRS tt S key o st v u ↔ opRS tt S key o st' v u := by
  obtain ⟨dst, op, ty, pos, af, gd⟩ := o
  unfold isLd at ho
  simp only at ho
  split at ho
  rotate_left
  · simp at ho
  rename_i t x
  have e1 := hl x (by simp [Op.operands]) 0
  have hx := hU 0 x
  have hs' : ldB (st.ev tt 0 x) = true := hs
  have key : loadV st (tt t) (st.ev tt 0 x) = loadV st' (tt t) (st'.ev tt 0 x) := by
    rw [← e1]
    unfold loadV
    split
    · rename_i k off hv
      rw [hv] at hx hs'
      have hk0 : k ≠ 0 := fun e => by subst e; simp [ldB] at hs'
      rcases hob k hx hk0 with h | h
      · rw [h]
      · rw [h]
        cases st.ob k <;> rfl
    · rename_i k m i off hv
      rw [hv] at hx hs'
      have hk0 : k ≠ 0 := fun e => by subst e; simp [ldB] at hs'
      rcases hob k hx hk0 with h | h
      · rw [h]
      · rw [h]
        cases st.ob k <;> rfl
    · rfl
    · rfl
    · rfl
  show opE tt _ _ st = some (v, u) ↔ opE tt _ _ st' = some (v, u)
  simp only [opE, key]
theorem ld_nil [NW] {ops : List Oper} {o : Oper} {v : SV} {u : List (Nat × Ob)} (ho : isLd o.op = true) (h : opR tt S ops key o st v u) : u = [] := by
  refine gone_skip h (fun h => ?_) id
  obtain ⟨dst, op, ty, pos, af, gd⟩ := o
  unfold isLd at ho
  simp only at ho
  split at ho
  · have h' : opE tt key ⟨dst, .load _ _, ty, pos, af, gd⟩ st = some (v, u) := h
    exact pure1_nil h'
  · simp at ho
theorem opR_iff {ops : Array Oper} {o : Oper} {v : SV} {u : List (Nat × Ob)} (hl : ∀ s ∈ o.looksAt ops, st.sl s = st'.sl s) (h1 : opRS tt S key o st v u ↔ opRS tt S key o st' v u) [NW] : opR tt S ops.toList key o st v u ↔ opR tt S ops.toList key o st' v u := ⟨opR_imp (fun s ms => (hl s ms).symm) h1.1, opR_imp hl h1.2⟩
theorem sl_pure [NW] {o : Oper} {v : SV} {u : List (Nat × Ob)} (ho : isSlO o.op = true) (hs : stk tt S o.op st = true) (h : opRS tt S key o st v u) : u = [] ∧ ∀ {st' : St}, (∀ x ∈ o.op.operands, ∀ t, st.ev tt t x = st'.ev tt t x) → opRS tt S key o st' v u := by
  obtain ⟨dst, op, ty, pos, af, gd⟩ := o
  unfold isSlO at ho
  simp only at ho
  split at ho
  rotate_left
  · simp at ho
  rename_i t x lo hi
  have hs' : slB (st.ev tt 0 x) = true := hs
  have h' : opE tt key ⟨dst, .slice t x lo hi none, ty, pos, af, gd⟩ st = some (v, u) := h
  unfold slB at hs'
  split at hs'
  rotate_left
  · simp at hs'
  rename_i y hy
  constructor
  · simp only [opE] at h'
    rw [hy] at h'
    simp only [sliceU] at h'
    obtain ⟨_, _, e⟩ := Option.map_eq_some_iff.1 h'
    simp only [Prod.mk.injEq] at e
    exact e.2.symm
  · intro st' hl
    show opE tt key ⟨dst, .slice t x lo hi none, ty, pos, af, gd⟩ st' = some (v, u)
    have e1 := hl x (by simp [Op.operands]) 0
    have e2 : lo.map (st.ev tt 0) = lo.map (st'.ev tt 0) := by
      cases lo with
      | none => rfl
      | some l => exact congrArg some (hl l (by simp [Op.operands]) 0)
    have e3 : hi.map (st.ev tt 0) = hi.map (st'.ev tt 0) := by
      cases hi with
      | none => rfl
      | some l => exact congrArg some (hl l (by simp [Op.operands]) 0)
    rw [← h']
    simp only [opE, ← e1, ← e2, ← e3, hy, sliceU]
theorem commB [NW] {b : Bool} {ops : Array Oper} {oi oj : Oper} {ki kj : Nat} {vi vj : SV} {ui uj : List (Nat × Ob)} (hap : oi.apart ops oj = true) (hc : clsB tt S.hd b oi.op oj.op = true) (hU : StU U st) (hki : ∀ k, ki ≤ k → k < ki + 16 → ¬ U k) (hkj : ∀ k, kj ≤ k → k < kj + 16 → ¬ U k) (hdis : ki + 16 ≤ kj ∨ kj + 16 ≤ ki)
    (hsi : b = true → stk tt S oi.op st = true) (hsj : b = true → stk tt S oj.op ((st.put oi.dst vi).app ui) = true) (h : opR tt S ops.toList ki oi st vi ui) (h' : opR tt S ops.toList kj oj ((st.put oi.dst vi).app ui) vj uj) :
    opR tt S ops.toList kj oj st vj uj ∧ opR tt S ops.toList ki oi ((st.put oj.dst vj).app uj) vi ui ∧ ((((st.put oi.dst vi).app ui).put oj.dst vj).app uj) = ((((st.put oj.dst vj).app uj).put oi.dst vi).app ui) := by
  by_cases hok : clsOk tt S.hd oi.op oj.op = true
  · exact comm hap hok hU hki hkj hdis h h'
  have hb : b = true ∧ (((isLd oi.op = true ∧ isHd S.hd oj.op = true) ∨ (isHd S.hd oi.op = true ∧ isLd oj.op = true)) ∨ isSlO oi.op = true ∨ isSlO oj.op = true) := by
    unfold clsB at hc
    rw [Bool.or_eq_true] at hc
    have := hc.resolve_left hok
    simp only [Bool.and_eq_true, Bool.or_eq_true] at this
    obtain ⟨q1, q2⟩ := this
    exact ⟨q1, by rcases q2 with (q | q) | q; exact .inl q; exact .inr (.inl q); exact .inr (.inr q)⟩
  obtain ⟨hb, hc⟩ := hb
  obtain ⟨a1, a2, a3⟩ := Oper.apart_spec hap
  have hev : ∀ t x, svU U (st.ev tt t x) := fun t x => ev_U hU t x
  have hlj : ∀ s ∈ oj.looksAt ops, st.sl s = ((st.put oi.dst vi).app ui).sl s := fun s ms => (put_look st oi.dst vi s fun t ht e => a1 t ht (e ▸ ms)).symm
  have hli : ∀ s ∈ oi.looksAt ops, st.sl s = ((st.put oj.dst vj).app uj).sl s := fun s ms => (put_look st oj.dst vj s fun t ht e => a3 t ht (e ▸ ms)).symm
  have hslots : (((st.put oi.dst vi).put oj.dst vj)).sl = (((st.put oj.dst vj).put oi.dst vi)).sl := put_comm' st _ _ _ _ fun t ht => a2 t ht
  have e1 : ∀ (s : St) (u : List (Nat × Ob)) (d : Option Nat) (v : SV), ((s.app u).put d v) = ((s.put d v).app u) := fun s u d v => by cases d <;> rfl
  have eqs : ui = [] ∨ uj = [] → ((((st.put oi.dst vi).app ui).put oj.dst vj).app uj) = ((((st.put oj.dst vj).app uj).put oi.dst vi).app ui) := fun hn => by
    rw [e1, e1]
    have hs : ((st.put oi.dst vi).put oj.dst vj) = ((st.put oj.dst vj).put oi.dst vi) := by
      have h2 : ((st.put oi.dst vi).put oj.dst vj).ob = ((st.put oj.dst vj).put oi.dst vi).ob := by simp only [put_ob]
      have h3 : ((st.put oi.dst vi).put oj.dst vj).n = ((st.put oj.dst vj).put oi.dst vi).n := by simp only [put_n]
      generalize ((st.put oi.dst vi).put oj.dst vj) = s1 at hslots h2 h3
      generalize ((st.put oj.dst vj).put oi.dst vi) = s2 at hslots h2 h3
      cases s1; cases s2
      simp only at hslots h2 h3
      subst hslots h2 h3
      rfl
    rw [hs]
    rcases hn with rfl | rfl <;> rfl
  rcases hc with hc | hsl | hsl
  rotate_left
  · -- the first is a slice that is only read
    have hs := hsi hb
    have hn : ui = [] := gone_skip h (fun h => (sl_pure hsl hs h).1) id
    subst hn
    have hA : opR tt S ops.toList kj oj st vj uj := (opR_same (U := U) hlj (.inr (.inl (by show st.ob = (st.put oi.dst vi).ob; rw [put_ob])))).2 h'
    refine ⟨hA, opR_imp (fun s ms => (hli s ms).symm) (fun h => (sl_pure hsl hs h).2 (looks_op hli)) h, eqs (.inl rfl)⟩
  · -- the second is one
    have hs := (stk_swap (tt := tt) (S := S) (st := st) (vi := vi) (ui := ui) (vj := vj) (uj := uj) hap).1.trans (hsj hb)
    have hn : uj = [] := gone_skip h' (fun h => (sl_pure hsl (hsj hb) h).1) id
    subst hn
    have hA : opR tt S ops.toList kj oj st vj [] := opR_imp hlj (fun h => (sl_pure hsl (hsj hb) h).2 (fun x m t => (looks_op hlj x m t).symm)) h'
    refine ⟨hA, ?_, eqs (.inr rfl)⟩
    exact (opR_same (U := U) hli (.inr (.inl (by show st.ob = (st.put oj.dst vj).ob; rw [put_ob])))).1 h
  have box0 : ∀ {u : List (Nat × Ob)} {q : Nat}, (∀ p ∈ u, p.1 = 0 ∨ (q ≤ p.1 ∧ p.1 < q + 16) ∨ p.2 = frzOb (st.ob p.1)) → (∀ k, q ≤ k → k < q + 16 → ¬ U k) → ∀ k, U k → k ≠ 0 → updAll st.ob u k = st.ob k ∨ updAll st.ob u k = frzOb (st.ob k) := fun {u q} hu hq k hk hk0 => by
    have gen : ∀ (u : List (Nat × Ob)) (ob : Nat → Ob), (∀ p ∈ u, p.1 = 0 ∨ (q ≤ p.1 ∧ p.1 < q + 16) ∨ p.2 = frzOb (st.ob p.1)) → (ob k = st.ob k ∨ ob k = frzOb (st.ob k)) → (updAll ob u k = st.ob k ∨ updAll ob u k = frzOb (st.ob k)) := by
      intro u
      induction u with
      | nil => intro ob _ h; exact h
      | cons p u ih =>
        intro ob hp h
        refine ih _ (fun x mx => hp x (by simp [mx])) ?_
        by_cases hpk : k = p.1
        · rcases hp p (by simp) with h1 | h1 | h1
          · exact absurd (hpk.trans h1) hk0
          · exact absurd (hpk ▸ hk) (hq p.1 h1.1 h1.2)
          · right; rw [hpk, upd_same]; exact h1
        · rw [upd_ne _ _ hpk]; exact h
    exact gen u st.ob hu (.inl rfl)
  rcases hc with ⟨l1, l2⟩ | ⟨l1, l2⟩
  · have hui := ld_nil l1 h
    have hob1 : st.ob = ((st.put oi.dst vi).app ui).ob := by
      subst hui
      show st.ob = (st.put oi.dst vi).ob
      rw [put_ob]
    have hA := (opR_same (U := U) hlj (.inr (.inl hob1))).2 h'
    have hs := (stk_swap (tt := tt) (S := S) (st := st) (vi := vi) (ui := ui) (vj := vj) (uj := uj) hap).1.trans (hsj hb)
    refine ⟨hA, ?_, eqs (.inl hui)⟩
    refine gone_skip hA (fun hx => ?_) (fun e => ?_)
    · refine (opR_iff hli (load_same (U := U) l1 (looks_op hli) (hsi hb) hev fun k hk hk0 => ?_)).1 h
      show updAll (st.put oj.dst vj).ob uj k = _ ∨ updAll (st.put oj.dst vj).ob uj k = _
      rw [put_ob]
      exact box0 (hand_keys l2 hs hx) hkj k hk hk0
    · refine (opR_same (U := U) hli (.inr (.inl ?_))).1 h
      subst e
      show st.ob = (st.put oj.dst vj).ob
      rw [put_ob]
  · have huj := ld_nil l2 h'
    have hs := (stk_swap (tt := tt) (S := S) (st := st) (vi := vi) (ui := ui) (vj := vj) (uj := uj) hap).1.trans (hsj hb)
    have hA : opR tt S ops.toList kj oj st vj uj := by
      refine gone_skip h (fun hx => ?_) (fun e => ?_)
      · refine (opR_iff hlj (load_same (U := U) l2 (looks_op hlj) hs hev fun k hk hk0 => ?_)).2 h'
        show updAll (st.put oi.dst vi).ob ui k = _ ∨ updAll (st.put oi.dst vi).ob ui k = _
        rw [put_ob]
        exact box0 (hand_keys l1 (hsi hb) hx) hki k hk hk0
      · refine (opR_same (U := U) hlj (.inr (.inl ?_))).2 h'
        subst e
        show st.ob = (st.put oi.dst vi).ob
        rw [put_ob]
    refine ⟨hA, (opR_same (U := U) hli (.inr (.inl ?_))).1 h, eqs (.inr huj)⟩
    subst huj
    show st.ob = (st.put oj.dst vj).ob
    rw [put_ob]
end
end
section
open Go.RowKit
section
variable {P : Program} {J : World → Prop} {JF : Nat → Prop} {W : Base} {U : Nat → Prop} {key : Nat} {st st' : St} {w w' : World} {a : Act} {tt : Nat → Option TI} {hds : FuncId → Nat} {Q : Exit → Act → World → Prop}
/-- a state that some frame and world bear out -/
def Real [NW] (W : Base) (N : Nat) (U : Nat → Prop) (st : St) : Prop := ∃ a w, Inv W U st a w ∧ a.tmps.size = N
theorem opR_real [NW] (htt : MOk P J JF W tt) {N : Nat} {all : List Oper} {o : Oper} {v : SV} {u : List (Nat × Ob)} (h : opR tt (SC P J JF hds) all key o st v u) (hR : Real W N U st) (hkey : ∀ k, key ≤ k → k < key + 16 → ¬ U k) (hd : ∀ t, o.dst = some t → t < N ∧ (W.hv = none ∨ t ≠ 0)) :
    Real W N (Uk U key) ((st.put o.dst v).app u) := by
  obtain ⟨a, w, hI, hN⟩ := hR
  have hd' : ∀ t, o.dst = some t → t < a.tmps.size ∧ (W.hv = none ∨ t ≠ 0) := fun t ht => hN ▸ hd t ht
  have und : v = .und ∧ u = [] → Real W N (Uk U key) ((st.put o.dst v).app u) := fun ⟨e1, e2⟩ => by
    subst e1 e2
    exact ⟨_, w, und_inv hI _ hd', by rw [put_tmps]; exact hN⟩
  have run : opRS tt (SC P J JF hds) key o st v u → Real W N (Uk U key) ((st.put o.dst v).app u) := fun h => by
    obtain ⟨⟨g, hH, hS⟩, hU, hdef, hh⟩ := hI
    have evals : ∀ (ts : List TypeId) (args : List Operand), All2 (SVR g w) (evs tt st ts args) (args.map a.eval) ∧ ∀ x ∈ evs tt st ts args, svU U x := fun ts args => by
      have he : args.map a.eval = (zipT ts args).map fun p => a.eval p.2 := by
        have := congrArg (List.map a.eval) (zipT_snd ts args)
        rw [← this, List.map_map]; rfl
      refine ⟨?_, fun x mx => ?_⟩
      · rw [he]
        exact All2.of_map _ _ fun p _ => (ev_ok htt.tt hS hU p.1 p.2).1
      · obtain ⟨p, _, rfl⟩ := List.mem_map.1 mx
        exact (ev_ok htt.tt hS hU p.1 p.2).2
    cases hc : goCall o.op with
    | some c =>
      simp only [opRS, hc] at h
      obtain ⟨_, hcall⟩ := callR_sound htt h hH hU hkey (evals c.2.1 c.2.2).1 (evals c.2.1 c.2.2).2
      obtain ⟨e, w', fr, ⟨rv, _, g', t1, t2, t3, t4, t5, t6⟩, _⟩ := hcall []
      exact ⟨_, _, put_inv hS hU hdef hh hd' t1 t2 t3 t4 t5 t6, by rw [put_tmps]; exact hN⟩
    | none =>
      simp only [opRS, hc] at h
      cases hd2 : dynCall o.op with
      | some c =>
        rw [hd2] at h
        simp only at h
        obtain ⟨fc, h1, _, h⟩ := h
        obtain ⟨cs, _, hcs⟩ := clo_vals h1 (hS c.1)
        obtain ⟨_, hcall⟩ := callR_sound htt h hH hU hkey ((evals c.2.1 c.2.2).1.append hcs) (fun x mx => by
          rcases List.mem_append.1 mx with m | m
          · exact (evals c.2.1 c.2.2).2 x m
          · obtain ⟨c, _, rfl⟩ := List.mem_map.1 m
            exact svU_c _)
        obtain ⟨e, w', fr, ⟨rv, _, g', t1, t2, t3, t4, t5, t6⟩, _⟩ := hcall []
        exact ⟨_, _, put_inv hS hU hdef hh hd' t1 t2 t3 t4 t5 t6, by rw [put_tmps]; exact hN⟩
      | none =>
        rw [hd2] at h
        simp only at h
        obtain ⟨g', cv, w', _, t1, t2, t3, t4, t5, t6⟩ := opE_sound (P := P) (W := W) (a := a) htt.tt o h hH hS hU (hkey key (Nat.le_refl _) (by omega))
        exact ⟨_, _, put_inv hS hU hdef hh hd' t1 t2 t3 t4 t5 t6, by rw [put_tmps]; exact hN⟩
  unfold opR at h
  split at h
  · exact run h
  · exact und h
  · unfold gK at h
    split at h
    · split at h
      · exact run h
      · exact und h
    · split at h
      · exact und h
      · exact h.elim
theorem opsI_cons {S : Ctx} {b : Bool} {all : List Oper} {base i : Nat} {r : List Nat} {K : St → Prop} {o : Oper} (ho : all[i]? = some o) : opsI tt S b all base (i :: r) K st = ifB b (stk tt S o.op st) (opG tt S all (base + 16 * i) o (opsI tt S b all base r K) st) := by simp only [opsI, ho]
theorem opsI_of [NW] {S : Ctx} {all : List Oper} {base : Nat} {K : St → Prop} : ∀ (r : List Oper) (i : Nat) (st : St), all.drop i = r → opsS tt S all (base + 16 * i) r K st → opsI tt S false all base (List.range' i r.length) K st
  | [], _, _, _, h => h
  | o :: r, i, st, hr, h => by
    have hi : all[i]? = some o := by
      have := congrArg (fun l => l[0]?) hr
      simpa using this
    have hr' : all.drop (i + 1) = r := by
      have := congrArg List.tail hr
      simpa using this
    rw [List.length_cons, List.range'_succ, opsI_cons hi]
    obtain ⟨v, u, h1, h2⟩ := opG_iff.1 h
    refine opG_iff.2 ⟨v, u, h1, opsI_of r (i + 1) _ hr' ?_⟩
    rw [show base + 16 * (i + 1) = base + 16 * i + 16 by omega]
    exact h2
theorem ifB_iff {b c : Bool} {P : Prop} : ifB b c P ↔ (b = true → c = true) ∧ P := by
  cases b <;> simp [ifB]
/-- an operation that may change places with those before it is taken first -/
theorem front [NW] (htt : MOk P J JF W tt) {b : Bool} {ops : Array Oper} {N base i : Nat} {o : Oper} (ho : ops.toList[i]? = some o) (hN : ∀ o ∈ ops.toList, ∀ t, o.dst = some t → t < N ∧ (W.hv = none ∨ t ≠ 0)) {K : St → Prop} {R2 : List Nat} : ∀ (R1 : List Nat) (U : Nat → Prop) (st : St), (R1 ++ i :: R2).Nodup →
    (∀ j ∈ R1, ∃ oj, ops.toList[j]? = some oj ∧ oj.apart ops o = true ∧ clsB tt hds b oj.op o.op = true) → (∀ j ∈ R1 ++ i :: R2, ∀ k, base + 16 * j ≤ k → k < base + 16 * j + 16 → ¬ U k) → Real W N U st →
    opsI tt (SC P J JF hds) b ops.toList base (R1 ++ i :: R2) K st → (b = true → stk tt (SC P J JF hds) o.op st = true) ∧ opG tt (SC P J JF hds) ops.toList (base + 16 * i) o (opsI tt (SC P J JF hds) b ops.toList base (R1 ++ R2) K) st := by
  intro R1
  induction R1 with
  | nil =>
    intro U st _ _ _ _ h
    rw [List.nil_append, opsI_cons ho] at h
    exact ifB_iff.1 h
  | cons j R1 ih =>
    intro U st hnd hcomp hk hR h
    obtain ⟨oj, hj, hap, hcl⟩ := hcomp j (by simp)
    rw [List.cons_append, opsI_cons hj] at h
    obtain ⟨sj, h⟩ := ifB_iff.1 h
    obtain ⟨vj, uj, h1, h2⟩ := opG_iff.1 h
    have hkj := hk j (by simp)
    have hki := hk i (by simp)
    rw [List.cons_append, List.nodup_cons] at hnd
    have hij : i ≠ j := fun e => hnd.1 (by simp [e])
    have hR1 := opR_real htt h1 hR hkj (hN oj (List.mem_of_getElem? hj))
    obtain ⟨si, h3⟩ := ih (Uk U (base + 16 * j)) _ hnd.2 (fun q mq => hcomp q (by simp [mq])) (fun q mq k a b hU => by
      rcases hU with hU | ⟨c, d⟩
      · exact hk q (by simp; simp at mq; exact .inr mq) k a b hU
      · have : q = j := by omega
        subst this
        exact hnd.1 mq) hR1 h2
    obtain ⟨vi, ui, h4, h5⟩ := opG_iff.1 h3
    obtain ⟨_, _, hIn, _⟩ := hR
    obtain ⟨c1, c2, c3⟩ := commB (tt := tt) (S := SC P J JF hds) (b := b) hap hcl hIn.wf hkj hki (by omega) sj si h1 h4
    have e1 := (stk_swap (tt := tt) (S := SC P J JF hds) (st := st) (vi := vj) (ui := uj) (vj := vi) (uj := ui) hap).1
    have e2 := (stk_swap (tt := tt) (S := SC P J JF hds) (st := st) (vi := vj) (ui := uj) (vj := vi) (uj := ui) hap).2
    refine ⟨fun hb => e1.trans (si hb), opG_iff.2 ⟨vi, ui, c1, ?_⟩⟩
    rw [List.cons_append, opsI_cons hj]
    exact ifB_iff.2 ⟨fun hb => e2.trans (sj hb), opG_iff.2 ⟨vj, uj, c2, c3 ▸ h5⟩⟩
/-- the operations ahead of one, by the edges -/
def anc (ops : Array Oper) : Nat → Nat → List Nat
  | 0, _ => []
  | n + 1, j => match ops[j]? with
    | some o => (o.after.toList.filter (Region.binds .any)).flatMap fun e => e.on :: anc ops n e.on
    | none => []
/-- the first may be run ahead of the second -/
def pairB (tt : Nat → Option TI) (hds : FuncId → Nat) (b : Bool) (ops : Array Oper) (i j : Nat) : Bool := !Nat.beq i j && match ops[i]?, ops[j]? with
  | some oi, some oj => (oi.after.toList.all fun e => !Region.binds .any e || !Nat.beq e.on j) && ((anc ops ops.size j).contains i || (oi.apart ops oj && clsB tt hds b oi.op oj.op))
  | _, _ => true
def pairsB (tt : Nat → Option TI) (hds : FuncId → Nat) (b : Bool) (ops : Array Oper) : List Nat → Bool
  | [] => true
  | i :: r => r.all (pairB tt hds b ops i) && pairsB tt hds b ops r
def elB (ops : Array Oper) (j : Nat) : Bool := match ops[j]? with
  | some oj => oj.after.toList.all fun e => !Region.binds .any e || (Nat.blt e.on ops.size && !Nat.beq e.on j)
  | none => true
def elsB (ops : Array Oper) : Bool := (List.range ops.size).all (elB ops)
def drawOk (tt : Nat → Option TI) (hds : FuncId → Nat) (ops : Array Oper) : Bool := pairsB tt hds false ops (List.range ops.size) && elsB ops
def drawOkL (tt : Nat → Option TI) (hds : FuncId → Nat) (b : Bool) (ops : Array Oper) (l : List Nat) : Bool := pairsB tt hds b ops l && elsB ops && Nat.ble l.length ops.size && l.all (Nat.blt · ops.size) && (List.range ops.size).all l.contains
theorem elsB_all {ops : Array Oper} (h : elsB ops = true) (j : Nat) : elB ops j = true := by
  rcases Nat.lt_or_ge j ops.size with hj | hj
  · exact List.all_eq_true.1 h j (by simpa using hj)
  · unfold elB
    rw [Array.getElem?_eq_none hj]
theorem pairsB_pw {b : Bool} {ops : Array Oper} : ∀ {l : List Nat}, pairsB tt hds b ops l = true → l.Pairwise fun i j => pairB tt hds b ops i j = true
  | [], _ => List.Pairwise.nil
  | i :: r, h => by
    simp only [pairsB, Bool.and_eq_true, List.all_eq_true] at h
    exact List.Pairwise.cons h.1 (pairsB_pw h.2)
theorem beq_ne {i j : Nat} (h : (!Nat.beq i j) = true) : i ≠ j := fun e => by subst e; simp at h
theorem pairB_spec {b : Bool} {ops : Array Oper} {i j : Nat} {oi oj : Oper} (h : pairB tt hds b ops i j = true) (hi : ops[i]? = some oi) (hj : ops[j]? = some oj) : (∀ e ∈ oi.after, Region.binds .any e = true → e.on ≠ j) ∧ (i ∈ anc ops ops.size j ∨ (oi.apart ops oj = true ∧ clsB tt hds b oi.op oj.op = true)) := by
  simp only [pairB, hi, hj, Bool.and_eq_true, List.all_eq_true, Bool.or_eq_true] at h
  refine ⟨fun e me hb => ?_, h.2.2.imp (fun h => by simpa using h) fun h => h⟩
  have h1 := h.2.1 e (by simpa using me)
  rw [hb] at h1
  exact beq_ne (h1.resolve_left (by simp))
theorem anc_listed {ops : Array Oper} {listed : Array Bool} (hcl : ∀ i o, ops[i]? = some o → listed.getD i false = true → ∀ e ∈ o.after, Region.binds .any e = true → listed.getD e.on false = true) :
    ∀ (n j : Nat) (o : Oper), ops[j]? = some o → (∀ e ∈ o.after, Region.binds .any e = true → listed.getD e.on false = true) → ∀ i ∈ anc ops n j, listed.getD i false = true
  | 0, j, o, _, _, i, mi => by simp [anc] at mi
  | n + 1, j, o, ho, he, i, mi => by
    simp only [anc, ho, List.mem_flatMap, List.mem_filter] at mi
    obtain ⟨e, ⟨me, hb⟩, mi⟩ := mi
    have hl := he e (by simpa using me) hb
    rcases List.mem_cons.1 mi with rfl | mi
    · exact hl
    · cases ho' : ops[e.on]? with
      | none => cases n <;> simp [anc, ho'] at mi
      | some o' => exact anc_listed hcl n e.on o' ho' (fun e' me' hb' => hcl e.on o' ho' hl e' me' hb') i mi
theorem any_sound [NW] (htt : MOk P J JF W tt) {b : Bool} {ops : Array Oper} {N base : Nat} (hN : ∀ o ∈ ops.toList, ∀ t, o.dst = some t → t < N ∧ (W.hv = none ∨ t ≠ 0)) (hE : ∀ j, elB ops j = true) {K : St → Prop}
    (hQ : ∀ U' st' a' w', Inv W U' st' a' w' → (∀ k, base + 16 * ops.size ≤ k → ¬ U' k) → a'.tmps.size = N → K st' → Q .normal a' w') :
    ∀ (fuel : Nat) (R : List Nat) (listed : Array Bool) (U : Nat → Prop) (st : St) (a : Act) (w : World), R.length ≤ fuel → R.Pairwise (fun i j => pairB tt hds b ops i j = true) → listed.size = ops.size → (∀ i, i ∈ R ↔ (i < ops.size ∧ listed.getD i true = false)) →
      (∀ i o, ops[i]? = some o → listed.getD i false = true → ∀ e ∈ o.after, Region.binds .any e = true → listed.getD e.on false = true) →
      opsI tt (SC P J JF hds) b ops.toList base R K st → Inv W U st a w → (∀ j ∈ R, ∀ k, base + 16 * j ≤ k → k < base + 16 * j + 16 → ¬ U k) → (∀ k, base + 16 * ops.size ≤ k → ¬ U k) → a.tmps.size = N → wpAny P .any ops Q fuel listed a w := by
  have hE' : ∀ j oj, ops[j]? = some oj → ∀ e ∈ oj.after, Region.binds .any e = true → e.on < ops.size ∧ e.on ≠ j := fun j oj hj e me hb => by
    have h1 := hE j
    simp only [elB, hj, List.all_eq_true, Bool.or_eq_true, Bool.and_eq_true] at h1
    have h2 := h1 e (by simpa using me)
    rw [hb] at h2
    have h3 := h2.resolve_left (by simp)
    exact ⟨Nat.le_of_ble_eq_true h3.1, beq_ne h3.2⟩
  intro fuel
  induction fuel with
  | zero =>
    intro R listed U st a w hlen _ hsz hmem _ h hI _ hU hs
    have hR : R = [] := List.eq_nil_of_length_eq_zero (by omega)
    subst hR
    refine ⟨?_, hQ U st a w hI hU hs h⟩
    rw [List.eq_nil_iff_forall_not_mem]
    intro i mi
    obtain ⟨h1, o, h2, _⟩ := mem_ready.1 mi
    exact absurd ((hmem i).2 ⟨(Array.getElem?_eq_some_iff.1 h2).1, h1⟩) (by simp)
  | succ fuel ih =>
    intro R listed U st a w hlen hso hsz hmem hcl h hI hk hU hs
    refine ⟨fun hr => ?_, fun i mi => ?_⟩
    · cases R with
      | nil => exact hQ U st a w hI hU hs h
      | cons r0 R =>
        exfalso
        obtain ⟨m1, m2⟩ := (hmem r0).1 (by simp)
        have : r0 ∈ Region.ready .any ops listed := mem_ready.2 ⟨m2, ops[r0], by simp [m1], fun e me hb => by
          have hlt := hE' r0 ops[r0] (by simp [m1]) e me hb
          by_cases hl : listed.getD e.on true = false
          · have mR := (hmem e.on).2 ⟨hlt.1, hl⟩
            rcases List.mem_cons.1 mR with e1 | mR
            · exact absurd e1 hlt.2
            · exact absurd rfl ((pairB_spec ((List.pairwise_cons.1 hso).1 _ mR) (oi := ops[r0]) (oj := ops[e.on]'hlt.1) (by simp [m1]) (by simp [hlt.1])).1 e me hb)
          · have hlt2 : e.on < listed.size := by omega
            simp only [Array.getD_eq_getD_getElem?, hlt2, getElem?_pos, Option.getD_some, Bool.not_eq_false] at hl ⊢
            exact hl⟩
        rw [hr] at this
        simp at this
    · obtain ⟨i1, o, i2, i3⟩ := mem_ready.1 mi
      have hin : i < ops.size := (Array.getElem?_eq_some_iff.1 i2).1
      have miR : i ∈ R := (hmem i).2 ⟨hin, i1⟩
      obtain ⟨R1, R2, rfl⟩ := List.append_of_mem miR
      have hnd : (R1 ++ i :: R2).Nodup := hso.imp fun h => by
        simp only [pairB, Bool.and_eq_true] at h
        exact beq_ne h.1
      have ho : ops.toList[i]? = some o := by simpa using i2
      have hanc := anc_listed hcl ops.size i o i2 i3
      have hcomp : ∀ j ∈ R1, ∃ oj, ops.toList[j]? = some oj ∧ oj.apart ops o = true ∧ clsB tt hds b oj.op o.op = true := fun j mj => by
        obtain ⟨j1, j2⟩ := (hmem j).1 (by simp [mj])
        have hji := (List.pairwise_append.1 hso).2.2 j mj i (by simp)
        have hj : ops[j]? = some ops[j] := by simp [j1]
        refine ⟨ops[j], by simp [j1], (pairB_spec hji hj i2).2.resolve_left fun ma => ?_⟩
        have := hanc j ma
        have hlt : j < listed.size := by omega
        simp only [Array.getD_eq_getD_getElem?, hlt, getElem?_pos, Option.getD_some] at this j2
        rw [this] at j2; simp at j2
      have hfr := (front htt ho hN R1 U st hnd hcomp hk ⟨a, w, hI, hs⟩ h).2
      refine wpOp_mono ?_ (opG_sound htt i2 hfr hI (hk i (by simp)) (fun t ht => by rw [hs]; exact hN o (List.mem_of_getElem? ho) t ht))
      rintro a' w' ⟨st', hI', hs', hK'⟩
      have hset : ∀ q, (listed.setIfInBounds i true).getD q true = if q = i then true else listed.getD q true := fun q => by
        by_cases e : q = i
        · subst e; simp [Array.getD_eq_getD_getElem?, Array.getElem?_setIfInBounds, hsz, hin]
        · simp [Array.getD_eq_getD_getElem?, Array.getElem?_setIfInBounds_ne (fun e' : i = q => e e'.symm), e]
      have hset' : ∀ q, (listed.setIfInBounds i true).getD q false = if q = i then true else listed.getD q false := fun q => by
        by_cases e : q = i
        · subst e; simp [Array.getD_eq_getD_getElem?, Array.getElem?_setIfInBounds, hsz, hin]
        · simp [Array.getD_eq_getD_getElem?, Array.getElem?_setIfInBounds_ne (fun e' : i = q => e e'.symm), e]
      have hnotin : i ∉ R1 ++ R2 := by
        rw [List.nodup_append] at hnd
        intro m
        rcases List.mem_append.1 m with m | m
        · exact hnd.2.2 i m i (by simp) rfl
        · exact (List.nodup_cons.1 hnd.2.1).1 m
      refine ih (R1 ++ R2) _ (Uk U (base + 16 * i)) st' a' w' (by simp at hlen ⊢; omega) (hso.sublist (List.Sublist.append (List.Sublist.refl _) (List.sublist_cons_self i R2))) (by simp [hsz]) (fun q => ?_) (fun q oq hq hl e me hb => ?_) hK' hI' (fun q mq k c d hU' => ?_) (fun k hk' hU' => ?_) (by omega)
      · rw [hset q]
        by_cases e : q = i
        · subst e; simp only [if_true, Bool.true_eq_false, and_false, iff_false]; exact hnotin
        · rw [if_neg e, ← hmem q]; simp [e]
      · rw [hset'] at hl ⊢
        by_cases e1 : e.on = i
        · simp [e1]
        · rw [if_neg e1]
          by_cases e2 : q = i
          · subst e2
            rw [i2] at hq
            simp only [Option.some.injEq] at hq
            subst hq
            exact i3 e me hb
          · rw [if_neg e2] at hl
            exact hcl q oq hq hl e me hb
      · have mq' : q ∈ R1 ++ i :: R2 := by simp at mq ⊢; rcases mq with mq | mq <;> simp [mq]
        rcases hU' with hU' | ⟨c', d'⟩
        · exact hk q mq' k c d hU'
        · have : q = i := by omega
          subst this
          exact hnotin mq
      · rcases hU' with hU' | ⟨c', d'⟩
        · exact hU k hk' hU'
        · omega
end
end
section
open Go.RowKit
theorem kidx_ok : ∀ {ρ : List Nat} {k i j : Nat}, kidx ρ k i = some j → i ≤ j ∧ ρ[j - i]? = some k
  | [], _, _, _, h => by simp [kidx] at h
  | x :: r, k, i, j, h => by
    simp only [kidx] at h
    split at h
    · rename_i e
      simp only [Option.some.injEq] at h
      subst h e
      exact ⟨Nat.le_refl _, by simp⟩
    · obtain ⟨h1, h2⟩ := kidx_ok h
      refine ⟨by omega, ?_⟩
      rw [show j - i = (j - (i + 1)) + 1 by omega]
      simpa using h2
theorem kidx_zero [NW] {ρ : List Nat} {k j : Nat} (h : kidx ρ k 0 = some j) : ρ[j]? = some k := by simpa using (kidx_ok h).2
theorem nodup_inj {α : Type} : ∀ {l : List α}, l.Nodup → ∀ {i j : Nat} (hi : i < l.length) (hj : j < l.length), l[i] = l[j] → i = j
  | [], _, _, _, hi, _, _ => by simp at hi
  | x :: l, h, 0, 0, _, _, _ => rfl
  | x :: l, h, 0, j + 1, _, hj, e => by
    rw [List.nodup_cons] at h
    exact absurd (by simp at e; rw [e]; exact List.getElem_mem _) h.1
  | x :: l, h, i + 1, 0, hi, _, e => by
    rw [List.nodup_cons] at h
    exact absurd (by simp at e; rw [← e]; exact List.getElem_mem _) h.1
  | x :: l, h, i + 1, j + 1, hi, hj, e => by
    rw [List.nodup_cons] at h
    have := nodup_inj h.2 (i := i) (j := j) (by simpa using hi) (by simpa using hj) (by simpa using e)
    omega
section
variable {P : Program} {J : World → Prop} {JF : Nat → Prop} {W : Base} {U : Nat → Prop} {st st' : St} {w w' : World} {a : Act} {tt : Nat → Option TI} {S : Ctx}
theorem rAV_ok [NW] {g g' : Gh} {ρ : List Nat} (hv : ∀ j k, ρ[j]? = some k → g'.val j = g.val k) (ho : OLess g' g) {x : AV} {v : Value} (h : AVR g w x v) : AVR g' w (rAV ρ x) v := by
  cases x with
  | c x => obtain ⟨L, h1, h2⟩ := h; exact ⟨L, h1, fun b m o => h2 b m (ho.own b o)⟩
  | n x => exact NR.move h (fun _ _ _ => rfl) (ho.grow _)
  | row k =>
    simp only [rAV]
    split
    · rename_i j hj
      exact ⟨by rw [hv j k (kidx_zero hj)]; exact h.1, h.2⟩
    · exact h.2
  | nil e m => exact h
  | dead => exact h
theorem All2.map_left {α β γ : Type} {R : α → γ → Prop} {R' : β → γ → Prop} (f : α → β) (h : ∀ a c, R a c → R' (f a) c) : ∀ {l : List α} {r : List γ}, All2 R l r → All2 R' (l.map f) r
  | [], [], _ => trivial
  | _ :: _, _ :: _, hh => ⟨h _ _ hh.1, hh.2.map_left f h⟩
  | [], _ :: _, h => h.elim
  | _ :: _, [], h => h.elim
theorem rAV_U [NW] (ρ : List Nat) (x : AV) : avU (fun j => j < ρ.length) (rAV ρ x) := by
  cases x with
  | row k =>
    simp only [rAV]
    split
    · rename_i j hj
      exact (List.getElem?_eq_some_iff.1 (kidx_zero hj)).1
    · trivial
  | _ => trivial
theorem ren_inv [NW] (hI : Inv W U st a w) {ρ : List Nat} (hρ : ρ.Nodup) : Inv W (fun j => j < ρ.length) (st.ren ρ) a w := by
  obtain ⟨⟨g, hH, hS⟩, hU, hdef, hh⟩ := hI
  let g' : Gh := ⟨fun j => match ρ[j]? with | some k => g.val k | none => undef, fun j => match ρ[j]? with | some k => g.O k | none => [], fun j => match ρ[j]? with | some k => g.D k | none => [], g.Z⟩
  have gs : ∀ j k, ρ[j]? = some k → g'.val j = g.val k ∧ g'.O j = g.O k ∧ g'.D j = g.D k := fun j k h => by simp [g', h]
  have gn : ∀ j, ρ[j]? = none → g'.O j = [] ∧ g'.D j = [] := fun j h => by simp [g', h]
  have ho : ∀ b, g'.own b → g.own b := fun b hb => by
    rcases hb with ⟨j, mj⟩ | hz
    · cases h : ρ[j]? with
      | none => rw [(gn j h).1] at mj; simp at mj
      | some k => rw [(gs j k h).2.1] at mj; exact .inl ⟨k, mj⟩
    · exact .inr hz
  have hless : OLess g' g := .of ho fun j b mb => by
    cases h : ρ[j]? with
    | none => rw [(gn j h).2] at mb; simp at mb
    | some k => rw [(gs j k h).2.2] at mb; exact ⟨k, mb⟩
  have hAV : ∀ x v, AVR g w x v → AVR g' w (rAV ρ x) v := fun x v h => rAV_ok (fun j k hjk => (gs j k hjk).1) hless h
  have hAVs : ∀ xs vs, All2 (AVR g w) xs vs → All2 (AVR g' w) (xs.map (rAV ρ)) vs := fun xs vs h => h.map_left _ hAV
  have hPV : ∀ ag cs v, PVR g w ag cs v → PVR g' w ag (cs.map (rAV ρ)) v := fun ag cs v h => by
    cases ag with
    | true => obtain ⟨vs, h1, h2⟩ := h; exact ⟨vs, h1, hAVs _ _ h2⟩
    | false => obtain ⟨x, rfl, h2⟩ := h; exact ⟨_, rfl, hAV _ _ h2⟩
  refine ⟨⟨g', ⟨hH.below, fun j => ?_, fun j => ?_, fun j i hji b mb => ?_, fun j b mb => ?_, hH.gz, hH.zx, hH.nw⟩, fun t => ?_⟩, ⟨fun t => ?_, fun j => ?_, fun j hj => ?_⟩, hdef, hh⟩
  · show ObR g' w j (match ρ[j]? with | some k => rOb ρ (st.ob k) | none => .gone)
    cases h : ρ[j]? with
    | none => exact gn j h
    | some k =>
      obtain ⟨e1, e2, e3⟩ := gs j k h
      have hob := hH.obs k
      show ObR g' w j (rOb ρ (st.ob k))
      cases hok : st.ob k with
      | gone => rw [hok] at hob; exact ⟨e2.trans hob.1, e3.trans hob.2⟩
      | box t cs =>
        rw [hok] at hob
        obtain ⟨b, vs, h1, h2, h3, h4, h5⟩ := hob
        exact ⟨b, vs, e1.trans h1, e2.trans h2, e3.trans h3, h4, hAVs _ _ h5⟩
      | map kk vk kv =>
        rw [hok] at hob
        obtain ⟨b, es, c, h1, h2, h3, h4⟩ := hob
        exact ⟨b, es, c, e1.trans h1, e2.trans h2, e3.trans h3, h4⟩
      | row e m xs d =>
        rw [hok] at hob
        obtain ⟨hm, cs, L, h1, h2, h4⟩ := hob
        refine ⟨hm, cs, L, by rw [e1]; exact h1, h2, ?_⟩
        rw [e1, e2, e3]
        rcases h4 with h4 | ⟨hd, h3, h4, h5⟩ | ⟨hd, h3, h4, h5⟩
        · exact .inl h4
        · exact .inr (.inl ⟨hd, h3, h4, fun b mb o => h5 b mb (ho b o)⟩)
        · exact .inr (.inr ⟨hd, h3, h4, fun b mb o => h5 b mb (ho b o)⟩)
  · cases h : ρ[j]? with
    | none => rw [(gn j h).1, (gn j h).2]; simp
    | some k => rw [(gs j k h).2.1, (gs j k h).2.2]; exact hH.nodup k
  · cases h : ρ[j]? with
    | none => rw [(gn j h).1, (gn j h).2] at mb; simp at mb
    | some k =>
      rw [(gs j k h).2.1, (gs j k h).2.2] at mb
      cases h' : ρ[i]? with
      | none => rw [(gn i h').1, (gn i h').2]; simp
      | some q =>
        rw [(gs i q h').2.1, (gs i q h').2.2]
        refine hH.apart k q (fun e => hji ?_) b mb
        subst e
        obtain ⟨l1, e1⟩ := List.getElem?_eq_some_iff.1 h
        obtain ⟨l2, e2⟩ := List.getElem?_eq_some_iff.1 h'
        exact nodup_inj hρ l1 l2 (e1.trans e2.symm)
  · cases h : ρ[j]? with
    | none => rw [(gn j h).1, (gn j h).2] at mb; simp at mb
    | some k =>
      rw [(gs j k h).2.1, (gs j k h).2.2] at mb
      refine ⟨(hH.plain k b mb).1, (hH.plain k b mb).2.of ?_⟩
      show mapB (match ρ[j]? with | some k => rOb ρ (st.ob k) | none => .gone) = _
      rw [h]
      show mapB (rOb ρ (st.ob k)) = _
      cases st.ob k <;> rfl
  · have hs := hS t
    show SVR g' w (rSV ρ (st.sl t)) _
    cases hsl : st.sl t with
    | any => trivial
    | und => rw [hsl] at hs; exact hs
    | p ag cs => rw [hsl] at hs; exact hPV _ _ _ hs
    | tup xs =>
      rw [hsl] at hs
      obtain ⟨vs, h1, h2⟩ := hs
      exact ⟨vs, h1, h2.map_left (fun x : Bool × List AV => (x.1, x.2.map (rAV ρ))) fun x v h => hPV x.1 x.2 v h⟩
    | bp k off =>
      rw [hsl] at hs
      simp only [rSV]
      split
      · rename_i j hj
        obtain ⟨b, h1, h2⟩ := hs
        exact ⟨b, ((gs j k (kidx_zero hj)).1).trans h1, h2⟩
      · trivial
    | rp k m i off =>
      rw [hsl] at hs
      simp only [rSV]
      split
      · rename_i j hj
        obtain ⟨b, o, n, c, h1, h2⟩ := hs
        exact ⟨b, o, n, c, ((gs j k (kidx_zero hj)).1).trans h1, h2⟩
      · trivial
    | ep e off =>
      rw [hsl] at hs
      obtain ⟨b, lo, cs, L, h1, h2, h3, h4, h5⟩ := hs
      exact ⟨b, lo, cs, L, h1, h2, h3, fun x m o => h4 x m (ho x o), h5⟩
    | fn f => rw [hsl] at hs; exact hs
  · show svU _ (rSV ρ (st.sl t))
    cases st.sl t with
    | p ag cs => intro y my; obtain ⟨x, _, rfl⟩ := List.mem_map.1 my; exact rAV_U ρ x
    | tup xs =>
      intro y my
      obtain ⟨x, _, rfl⟩ := List.mem_map.1 my
      intro z mz
      obtain ⟨q, _, rfl⟩ := List.mem_map.1 mz
      exact rAV_U ρ q
    | bp k off =>
      simp only [rSV]
      split
      · rename_i j hj; exact (List.getElem?_eq_some_iff.1 (kidx_zero hj)).1
      · trivial
    | rp k m i off =>
      simp only [rSV]
      split
      · rename_i j hj; exact (List.getElem?_eq_some_iff.1 (kidx_zero hj)).1
      · trivial
    | _ => trivial
  · show obU _ (match ρ[j]? with | some k => rOb ρ (st.ob k) | none => .gone)
    split
    · rename_i k _
      cases st.ob k with
      | box t cs => intro y my; obtain ⟨x, _, rfl⟩ := List.mem_map.1 my; exact rAV_U ρ x
      | _ => trivial
    · trivial
  · show (match ρ[j]? with | some k => rOb ρ (st.ob k) | none => .gone) = .gone
    have : ρ[j]? = none := List.getElem?_eq_none (by omega)
    rw [this]
/-- a row is taken for less than it is -/
theorem low_one [NW] {g : Gh} {ob : Nat → Ob} (hI : HI W g ob w) {k e m d d' : Nat} {xs : List (List CT)} (hk : ob k = .row e m xs d) (hd : d' < d) : ∃ g1 : Gh, HI W g1 (upd ob k (.row e m xs d')) w ∧ g1.val = g.val ∧ OLess g1 g := by
  by_cases h0 : d' = 0
  · obtain ⟨g1, h1, h2, h3, _⟩ := frz_one hI k
    rw [hk] at h1
    exact ⟨g1, by rw [h0]; exact h1, h2, h3⟩
  · have ho := hI.obs k
    rw [hk] at ho
    obtain ⟨hm, cs, L, o1, o2, o3⟩ := ho
    have h2 : d = 2 ∧ g.O k = (g.val k).ownBlock.toList ∧ g.D k = L := by
      rcases o3 with o3 | ⟨q, _⟩ | ⟨q, _⟩
      · exact o3
      · omega
      · omega
    obtain ⟨rfl, q1, q2⟩ := h2
    obtain rfl : d' = 1 := by omega
    let g1 : Gh := ⟨g.val, g.O, upd g.D k [], g.Z⟩
    have hown : ∀ b, g1.own b ↔ g.own b := fun b => Iff.rfl
    have hless : OLess g1 g := .of (fun b hb => hb) fun j b mb => by
      by_cases hj : j = k
      · subst hj; simp [g1, upd] at mb
      · exact ⟨j, by simpa [g1, upd, hj] using mb⟩
    have hsub : ∀ j b, b ∈ g1.O j ++ g1.D j → b ∈ g.O j ++ g.D j := fun j b mb => by
      by_cases hj : j = k
      · subst hj; simp [g1, upd] at mb; simp [mb]
      · simpa [g1, upd, hj] using mb
    refine ⟨g1, ⟨hI.below, fun j => ?_, fun j => ?_, fun i j hij b mb mj => hI.apart i j hij b (hsub i b mb) (hsub j b mj), fun j b mb => ⟨(hI.plain j b (hsub j b mb)).1, (hI.plain j b (hsub j b mb)).2.of (by
      by_cases hj : j = k
      · subst hj; rw [upd_same, hk]; rfl
      · rw [upd_ne _ _ hj])⟩, hI.gz, hI.zx, hI.nw⟩, rfl, hless⟩
    · by_cases hj : j = k
      · subst hj
        rw [upd_same]
        refine ⟨hm, cs, L, o1, o2, .inr (.inl ⟨rfl, q1, by simp [g1, upd], fun b mb hb => ?_⟩)⟩
        have mk : b ∈ g.D j := by rw [q2]; exact mb
        rcases hb with ⟨i, mi⟩ | hz
        · by_cases hij : i = j
          · subst hij
            have := hI.nodup i
            rw [List.nodup_append] at this
            exact this.2.2 b mi b mk rfl
          · exact hI.apart i j hij b (by simp; exact .inl mi) (by simp [mk])
        · exact hI.nz (k := j) (b := b) (by simp [mk]) hz
      · rw [upd_ne _ _ hj]
        have hoj := hI.obs j
        cases hh : ob j with
        | gone => rw [hh] at hoj; exact ⟨hoj.1, by simpa [g1, upd, hj] using hoj.2⟩
        | box t ds =>
          rw [hh] at hoj
          obtain ⟨b, vs, h1, h2, h3, h4, h5⟩ := hoj
          exact ⟨b, vs, h1, h2, by simpa [g1, upd, hj] using h3, h4, h5.mono fun x u _ hx => AVR.less hx rfl hless⟩
        | map kk vk kv =>
          rw [hh] at hoj
          obtain ⟨b, es, c, h1, h2, h3, h4⟩ := hoj
          exact ⟨b, es, c, h1, h2, by simpa [g1, upd, hj] using h3, h4⟩
        | row e' m' xs' d2 =>
          rw [hh] at hoj
          obtain ⟨hm', cs', L', p1, p2, p3⟩ := hoj
          refine ⟨hm', cs', L', p1, p2, ?_⟩
          have e2 : g1.D j = g.D j := by simp [g1, upd, hj]
          rw [e2]
          exact p3
    · by_cases hj : j = k
      · subst hj
        have := hI.nodup j
        rw [List.nodup_append] at this
        simpa [g1, upd] using this.1
      · have := hI.nodup j
        simpa [g1, upd, hj] using this
theorem mat_inv [NW] (m : Bool × Nat × Nat) (hI : Inv W U st a w) (hk : ∀ k, st.n ≤ k → ¬ U k) : ∃ U', Inv W U' (st.mat m) a w ∧ ∀ k, (st.mat m).n ≤ k → ¬ U' k := by
  have same : ∃ U', Inv W U' st a w ∧ ∀ k, st.n ≤ k → ¬ U' k := ⟨U, hI, hk⟩
  have hk0 : ¬ U st.n := hk st.n (Nat.le_refl _)
  have hU'n : ∀ k, st.n + 1 ≤ k → ¬ (U k ∨ k = st.n) := fun k hk' h => by
    rcases h with h | h
    · exact hk k (by omega) h
    · omega
  -- the new row's part
  have new : ∀ (e q : Nat), 0 < q → ∀ g, HI W g st.ob w → ∃ g', HI W g' (upd st.ob st.n (.row e q [] 2)) w ∧ (∀ x u, svU U x → SVR g w x u → SVR g' w x u) ∧ g'.val st.n = .slice none 0 0 ∧ (∀ x u, avU U x → AVR g w x u → AVR g' w x u) := fun e q hq g hH => by
    obtain ⟨t1, t2⟩ := hH.turn (key := st.n) (U := U) (w' := w) (v := .slice none 0 0) (O := []) (D := []) (o := .row e q [] 2) hI.wf.ob hk0 [] (by simp) hH.below (Nat.le_refl _) (fun _ _ _ => rfl) (by simp) (by simp) (by simp) (by simp)
      (fun _ => ⟨hq, [], [], by simpa [Gh.turn, upd] using ownsV_nil _ _ _ _, ⟨rfl, rfl⟩, .inl ⟨rfl, by simp [Gh.turn, upd, Value.ownBlock], by simp [Gh.turn]⟩⟩)
    refine ⟨_, t1, t2, by simp [Gh.turn, upd], fun x u hx hu => hu.move hx (fun k hk' => upd_ne _ _ fun e => hk0 (e ▸ hk')) (fun _ _ _ => rfl) (turn_grow (by simp) (by simp))⟩
  have up : ∀ k, U k → (U k ∨ k = st.n) := fun _ h => .inl h
  obtain ⟨⟨g, hH, hS⟩, hU, hdef, hh⟩ := hI
  -- a row, as a tree
  have tree : ∀ k e q xs d, st.ob k = .row e q xs d → ∃ g1 : Gh, HI W g1 (upd st.ob k (.row e q xs 0)) w ∧ g1.val = g.val ∧ OLess g1 g ∧ U k ∧ ∀ v, AVR g w (.row k) v → AVR g1 w (.c (.sl e q xs)) v := fun k e q xs d hob => by
    obtain ⟨g1, i1, i2, i3, _⟩ := frz_one hH k
    rw [hob] at i1
    obtain ⟨L, t1, t2⟩ := frz_tree i1 (upd_same st.ob k (.row e q xs 0))
    exact ⟨g1, i1, i2, i3, Classical.byContradiction fun hn => by have := hU.gone _ hn; rw [hob] at this; simp at this, fun v hv => ⟨L, by rw [hv.1, ← i2]; exact t1, t2⟩⟩
  have sets : ∀ {gg : Gh} {cs : List AV} {vs : List Value} {j : Nat} {y : AV} {v : Value}, All2 (AVR gg w) cs vs → vs[j]? = some v → AVR gg w y v → All2 (AVR gg w) (cs.set j y) vs := fun {gg cs vs j y v} h1 h2 h3 => by
    have := h1.set (i := j) h3
    obtain ⟨hl, he⟩ := List.getElem?_eq_some_iff.1 h2
    rw [← he, List.set_getElem_self hl] at this
    exact this
  have pset : ∀ {gg : Gh} {ag : Bool} {cs : List AV} {v : Value} {j : Nat} {x y : AV}, PVR gg w ag cs v → cs[j]? = some x → (∀ u, AVR gg w x u → AVR gg w y u) → PVR gg w ag (cs.set j y) v := fun {gg ag cs v j x y} h1 h2 h3 => by
    cases ag with
    | true =>
      obtain ⟨vs, rfl, h4⟩ := h1
      obtain ⟨u, u1, u2⟩ := h4.at h2
      exact ⟨vs, rfl, sets h4 u1 (h3 u u2)⟩
    | false =>
      obtain ⟨z, rfl, h4⟩ := h1
      cases j with
      | zero => simp at h2; subst h2; exact ⟨y, rfl, h3 v h4⟩
      | succ j => simp at h2
  have uset : ∀ {V : Nat → Prop} {cs : List AV} {j : Nat} {y : AV}, avsU V cs → avU V y → avsU V (cs.set j y) := fun {V cs j y} h1 h2 z mz => by
    rcases List.mem_or_eq_of_mem_set mz with mz | mz
    · exact h1 z mz
    · subst mz; exact h2
  unfold St.mat
  split
  · split
    · rename_i ag cs hsl
      have hcu : avsU U cs := by have := hU.sl m.2.1; rw [hsl] at this; exact this
      have hs := hS m.2.1
      rw [hsl] at hs
      split
      · rename_i e q hcs
        split
        · rename_i hq
          obtain ⟨g', t1, t2, t3, t4⟩ := new e q hq g hH
          refine ⟨fun k => U k ∨ k = st.n, ⟨⟨g', t1, fun t => ?_⟩, ⟨fun t => ?_, fun k => ?_, fun k hk' => ?_⟩, hdef, hh⟩, hU'n⟩
          · show SVR g' w (upd st.sl m.2.1 (.p ag (cs.set m.2.2 (.row st.n))) t) _
            by_cases ht : t = m.2.1
            · subst ht
              rw [upd_same]
              have h1 : PVR g' w ag cs (a.tmps.getD m.2.1 undef) := t2 (.p ag cs) _ hcu hs
              refine pset h1 hcs fun u hu => ?_
              have hu' : u = .slice none 0 0 := hu
              rw [hu']
              exact ⟨t3.symm, rfl⟩
            · rw [upd_ne _ _ ht]; exact t2 _ _ (hU.sl t) (hS t)
          · show svU _ (upd st.sl m.2.1 (.p ag (cs.set m.2.2 (.row st.n))) t)
            by_cases ht : t = m.2.1
            · subst ht; rw [upd_same]; exact uset (hcu.mono up) (.inr rfl)
            · rw [upd_ne _ _ ht]; exact (hU.sl t).mono up
          · show obU _ (upd st.ob st.n _ k)
            by_cases hk' : k = st.n
            · subst hk'; rw [upd_same]; trivial
            · rw [upd_ne _ _ hk']; exact (hU.ob k).mono up
          · show upd st.ob st.n _ k = _
            rw [upd_ne _ _ fun e => hk' (.inr e)]; exact hU.gone k fun h => hk' (.inl h)
        · exact same
      · rename_i k hcs
        split
        · rename_i e q xs d hob
          obtain ⟨g1, i1, i2, i3, hUk, i4⟩ := tree k e q xs d hob
          refine ⟨U, ⟨⟨g1, i1, fun t => ?_⟩, ⟨fun t => ?_, fun j => ?_, fun j hj => ?_⟩, hdef, hh⟩, hk⟩
          · show SVR g1 w (upd st.sl m.2.1 (.p ag (cs.set m.2.2 (.c (.sl e q xs)))) t) _
            by_cases ht : t = m.2.1
            · subst ht
              rw [upd_same]
              have h1 : PVR g1 w ag cs (a.tmps.getD m.2.1 undef) := (show SVR g w (.p ag cs) _ from hs).less i2 i3
              exact pset h1 hcs fun u hu => i4 u ⟨hu.1.trans (by rw [i2]), hu.2⟩
            · rw [upd_ne _ _ ht]; exact (hS t).less i2 i3
          · show svU _ (upd st.sl m.2.1 (.p ag (cs.set m.2.2 (.c (.sl e q xs)))) t)
            by_cases ht : t = m.2.1
            · subst ht; rw [upd_same]; exact uset hcu trivial
            · rw [upd_ne _ _ ht]; exact hU.sl t
          · show obU U (upd st.ob k (.row e q xs 0) j)
            by_cases h1 : j = k
            · subst h1; rw [upd_same]; trivial
            · rw [upd_ne _ _ h1]; exact hU.ob j
          · show upd st.ob k (.row e q xs 0) j = _
            rw [upd_ne _ _ (show j ≠ k from fun e' => hj (e' ▸ hUk))]; exact hU.gone j hj
        · exact same
      · exact same
    · exact same
  · split
    · rename_i ty cs hob
      split
      · rename_i e q hcs
        split
        · rename_i hq
          obtain ⟨g', t1, t2, t3, t4⟩ := new e q hq g hH
          have hUk : U m.2.1 := Classical.byContradiction fun hn => by have := hU.gone _ hn; rw [hob] at this; simp at this
          have hne : m.2.1 ≠ st.n := fun e => hk0 (e ▸ hUk)
          have hcu : avsU U cs := by have := hU.ob m.2.1; rw [hob] at this; exact this
          have hbox := t1.obs m.2.1
          rw [upd_ne _ _ hne, hob] at hbox
          obtain ⟨b, vs, b1, b2, b3, b4, b5⟩ := hbox
          obtain ⟨u, u1, u2⟩ := b5.at hcs
          have u2' : u = .slice none 0 0 := u2
          have hvs : vs.set m.2.2 u = vs := by
            obtain ⟨hl, he⟩ := List.getElem?_eq_some_iff.1 u1
            rw [← he]; exact List.set_getElem_self hl
          have hbox' : ObR g' w m.2.1 (.box ty (cs.set m.2.2 (.row st.n))) := by
            refine ⟨b, vs, b1, b2, b3, b4, ?_⟩
            have := b5.set (i := m.2.2) (a := AV.row st.n) (b := u) ⟨by rw [u2', t3], by rw [u2']; rfl⟩
            rw [hvs] at this
            exact this
          have hob' : ∀ k, (upd (upd st.ob m.2.1 (.box ty (cs.set m.2.2 (.row st.n)))) st.n (.row e q [] 2)) k = if k = m.2.1 then .box ty (cs.set m.2.2 (.row st.n)) else (upd st.ob st.n (.row e q [] 2)) k := fun k => by
            by_cases h1 : k = st.n
            · have h2 : ¬ k = m.2.1 := fun e' => hne (e'.symm.trans h1)
              have h3 : ¬ st.n = m.2.1 := fun e' => hne e'.symm
              simp [upd, h1, h3]
            · by_cases h2 : k = m.2.1
              · simp [upd, h2, hne]
              · simp [upd, h1, h2]
          refine ⟨fun k => U k ∨ k = st.n, ⟨⟨g', ⟨t1.below, fun k => ?_, t1.nodup, t1.apart, fun k b mb => ⟨(t1.plain k b mb).1, (t1.plain k b mb).2.of (by
              show mapB ((upd (upd st.ob m.2.1 (.box ty (cs.set m.2.2 (.row st.n)))) st.n (.row e q [] 2)) k) = _
              rw [hob' k]
              split
              · rename_i h1; subst h1; rw [upd_ne _ _ hne, hob]; rfl
              · rfl)⟩, t1.gz, t1.zx, t1.nw⟩, fun t => t2 _ _ (hU.sl t) (hS t)⟩, ⟨fun t => (hU.sl t).mono up, fun k => ?_, fun k hk' => ?_⟩, hdef, hh⟩, hU'n⟩
          · show ObR g' w k ((upd (upd st.ob m.2.1 (.box ty (cs.set m.2.2 (.row st.n)))) st.n (.row e q [] 2)) k)
            rw [hob' k]
            split
            · rename_i h1; subst h1; exact hbox'
            · exact t1.obs k
          · show obU _ ((upd (upd st.ob m.2.1 (.box ty (cs.set m.2.2 (.row st.n)))) st.n (.row e q [] 2)) k)
            rw [hob' k]
            split
            · intro y my
              rcases List.mem_or_eq_of_mem_set my with my | my
              · exact (hcu y my).mono up
              · subst my; exact .inr rfl
            · by_cases h1 : k = st.n
              · subst h1; rw [upd_same]; trivial
              · rw [upd_ne _ _ h1]; exact (hU.ob k).mono up
          · show (upd (upd st.ob m.2.1 (.box ty (cs.set m.2.2 (.row st.n)))) st.n (.row e q [] 2)) k = _
            rw [hob' k, if_neg (show ¬ k = m.2.1 from fun e' => hk' (.inl (e' ▸ hUk))), upd_ne _ _ (show k ≠ st.n from fun e' => hk' (.inr e'))]
            exact hU.gone k fun h => hk' (.inl h)
        · exact same
      · rename_i k hcs
        split
        · rename_i e q xs d hob2
          obtain ⟨g1, i1, i2, i3, hUk, i4⟩ := tree k e q xs d hob2
          have hUm : U m.2.1 := Classical.byContradiction fun hn => by have := hU.gone _ hn; rw [hob] at this; simp at this
          have hne : k ≠ m.2.1 := fun e' => by rw [e', hob] at hob2; simp at hob2
          have hcu : avsU U cs := by have := hU.ob m.2.1; rw [hob] at this; exact this
          have hbox := i1.obs m.2.1
          rw [upd_ne _ _ (fun e' => hne e'.symm), hob] at hbox
          obtain ⟨b, vs, b1, b2, b3, b4, b5⟩ := hbox
          obtain ⟨u, u1, u2⟩ := b5.at hcs
          have hbox' : ObR g1 w m.2.1 (.box ty (cs.set m.2.2 (.c (.sl e q xs)))) := ⟨b, vs, b1, b2, b3, b4, sets b5 u1 (i4 u ⟨u2.1.trans (by rw [i2]), u2.2⟩)⟩
          refine ⟨U, ⟨⟨g1, ⟨i1.below, fun j => ?_, i1.nodup, i1.apart, fun j b mb => ⟨(i1.plain j b mb).1, (i1.plain j b mb).2.of (by
              show mapB (upd (upd st.ob k (.row e q xs 0)) m.2.1 (.box ty (cs.set m.2.2 (.c (.sl e q xs)))) j) = _
              by_cases h1 : j = m.2.1
              · subst h1; rw [upd_same, upd_ne _ _ (fun e' => hne e'.symm), hob]; rfl
              · rw [upd_ne _ _ h1])⟩, i1.gz, i1.zx, i1.nw⟩, fun t => (hS t).less i2 i3⟩, ⟨hU.sl, fun j => ?_, fun j hj => ?_⟩, hdef, hh⟩, hk⟩
          · show ObR g1 w j (upd (upd st.ob k (.row e q xs 0)) m.2.1 (.box ty (cs.set m.2.2 (.c (.sl e q xs)))) j)
            by_cases h1 : j = m.2.1
            · subst h1; rw [upd_same]; exact hbox'
            · rw [upd_ne _ _ h1]; exact i1.obs j
          · show obU U (upd (upd st.ob k (.row e q xs 0)) m.2.1 (.box ty (cs.set m.2.2 (.c (.sl e q xs)))) j)
            by_cases h1 : j = m.2.1
            · subst h1; rw [upd_same]; exact uset hcu trivial
            · rw [upd_ne _ _ h1]
              by_cases h2 : j = k
              · subst h2; rw [upd_same]; trivial
              · rw [upd_ne _ _ h2]; exact hU.ob j
          · show upd (upd st.ob k (.row e q xs 0)) m.2.1 (.box ty (cs.set m.2.2 (.c (.sl e q xs)))) j = _
            rw [upd_ne _ _ (show j ≠ m.2.1 from fun e' => hj (e' ▸ hUm)), upd_ne _ _ (show j ≠ k from fun e' => hj (e' ▸ hUk))]; exact hU.gone j hj
        · exact same
      · exact same
    · rename_i e q xs d hob
      split
      · rename_i hlt
        have hUk : U m.2.1 := Classical.byContradiction fun hn => by have := hU.gone _ hn; rw [hob] at this; simp at this
        obtain ⟨g1, t1, t2, t3⟩ := low_one hH hob hlt
        refine ⟨U, ⟨⟨g1, t1, fun t => (hS t).less t2 t3⟩, ⟨hU.sl, fun k => ?_, fun k hk' => ?_⟩, hdef, hh⟩, hk⟩
        · show obU U (upd st.ob m.2.1 (.row e q xs m.2.2) k)
          by_cases h1 : k = m.2.1
          · subst h1; rw [upd_same]; trivial
          · rw [upd_ne _ _ h1]; exact hU.ob k
        · show upd st.ob m.2.1 (.row e q xs m.2.2) k = _
          rw [upd_ne _ _ (show k ≠ m.2.1 from fun e' => hk' (e' ▸ hUk))]; exact hU.gone k hk'
      · exact same
    · exact same
theorem matN_inv [NW] (m : Bool × Nat × Nat) (hI : Inv W U st a w) (hk : ∀ k, st.n ≤ k → ¬ U k) : ∃ U', Inv W U' (st.matN m) a w ∧ ∀ k, (st.matN m).n ≤ k → ¬ U' k := by
  have same : ∃ U', Inv W U' st a w ∧ ∀ k, st.n ≤ k → ¬ U' k := ⟨U, hI, hk⟩
  obtain ⟨⟨g, hH, hS⟩, hU, hdef, hh⟩ := hI
  unfold St.matN
  split
  · rename_i ag cs hsl
    have hcu : avsU U cs := by have := hU.sl m.2.1; rw [hsl] at this; exact this
    have hs := hS m.2.1
    rw [hsl] at hs
    split
    · rename_i k hcs
      split
      · rename_i e q xs d hob
        split
        · rename_i hd
          subst hd
          obtain ⟨g1, i1, i2, i3, i5⟩ := frz_one hH k
          rw [hob] at i1
          obtain ⟨hm, cs0, L, o1, o2, o3, o5⟩ := hH.deep hob
          have i4 : ∀ v, AVR g w (.row k) v → AVR g1 w (.n (.sl e q xs)) v := fun v hv => by
            rcases o5 with ⟨_, q1, q2⟩ | ⟨q1, _⟩ | ⟨q1, _⟩
            · have hN := hH.nodup k
              have hP := hH.plain k
              have hF := i5 ⟨_, _, _, _, hob⟩
              rw [q1, q2] at hN hP hF
              rw [hob] at hP
              refine ⟨e, q, xs, cs0, L, rfl, hm, by rw [hv.1]; exact o1, o2, by rw [hv.1]; exact hN, fun b mb => ?_⟩
              rw [hv.1] at mb
              exact ⟨hF b mb, hH.nw b (hP b mb).1, (hP b mb).2⟩
            · omega
            · omega
          have hUk : U k := Classical.byContradiction fun hn => by have := hU.gone _ hn; rw [hob] at this; simp at this
          refine ⟨U, ⟨⟨g1, i1, fun t => ?_⟩, ⟨fun t => ?_, fun j => ?_, fun j hj => ?_⟩, hdef, hh⟩, hk⟩
          · show SVR g1 w (upd st.sl m.2.1 (.p ag (cs.set (m.2.2 - 4096) (.n (.sl e q xs)))) t) _
            by_cases ht : t = m.2.1
            · subst ht
              rw [upd_same]
              have h0 : PVR g w ag cs (a.tmps.getD m.2.1 undef) := hs
              have h1 : PVR g1 w ag cs (a.tmps.getD m.2.1 undef) := (show SVR g w (.p ag cs) _ from hs).less i2 i3
              cases ag with
              | true =>
                obtain ⟨vs, e1, h4⟩ := h0
                obtain ⟨vs', e1', h4'⟩ := h1
                have ev : vs = vs' := by rw [e1] at e1'; simpa using e1'
                subst ev
                obtain ⟨u, u1, u2⟩ := h4.at hcs
                refine ⟨vs, e1, ?_⟩
                have := h4'.set (i := m.2.2 - 4096) (i4 u u2)
                obtain ⟨hl, he⟩ := List.getElem?_eq_some_iff.1 u1
                rw [← he, List.set_getElem_self hl] at this
                exact this
              | false =>
                obtain ⟨z, rfl, h4⟩ := h0
                cases hj : m.2.2 - 4096 with
                | zero => rw [hj] at hcs; simp at hcs; subst hcs; exact ⟨_, rfl, i4 _ h4⟩
                | succ j => rw [hj] at hcs; simp at hcs
            · rw [upd_ne _ _ ht]; exact (hS t).less i2 i3
          · show svU U (upd st.sl m.2.1 (.p ag (cs.set (m.2.2 - 4096) (.n (.sl e q xs)))) t)
            by_cases ht : t = m.2.1
            · subst ht; rw [upd_same]
              intro z mz
              rcases List.mem_or_eq_of_mem_set mz with mz | mz
              · exact hcu z mz
              · subst mz; trivial
            · rw [upd_ne _ _ ht]; exact hU.sl t
          · show obU U (upd st.ob k (.row e q xs 0) j)
            by_cases h1 : j = k
            · subst h1; rw [upd_same]; trivial
            · rw [upd_ne _ _ h1]; exact hU.ob j
          · show upd st.ob k (.row e q xs 0) j = _
            rw [upd_ne _ _ (show j ≠ k from fun e' => hj (e' ▸ hUk))]; exact hU.gone j hj
        · exact same
      · exact same
    · exact same
  · exact same
theorem mats_inv [NW] : ∀ (ms : List (Bool × Nat × Nat)) {U : Nat → Prop} {st : St}, Inv W U st a w → (∀ k, st.n ≤ k → ¬ U k) → ∃ U', Inv W U' (st.mats ms) a w
  | [], U, st, hI, _ => ⟨U, hI⟩
  | m :: r, U, st, hI, hk => by
    simp only [St.mats]
    split
    · obtain ⟨U', h1, h2⟩ := matN_inv m hI hk
      exact mats_inv r h1 h2
    · obtain ⟨U', h1, h2⟩ := mat_inv m hI hk
      exact mats_inv r h1 h2
theorem least {p : Nat → Prop} (h : ∃ n, p n) : ∃ n, p n ∧ ∀ m, m < n → ¬ p m := by
  obtain ⟨n, hn⟩ := h
  induction n using Nat.strongRecOn with
  | _ n ih =>
    by_cases hm : ∃ m, m < n ∧ p m
    · obtain ⟨m, h1, h2⟩ := hm; exact ih m h1 h2
    · exact ⟨n, hn, fun m h1 h2 => hm ⟨m, h1, h2⟩⟩
theorem wp_loop_n [NW] {c : Code} {Q : Exit → Act → World → Prop} (J : Nat → Act → World → Prop) (n : Nat) (h₀ : J n a w) (round : ∀ n a w, J n a w → c.wp P (Exit.then (fun a' w' => ∃ m, m < n ∧ J m a' w') Q) a w) : (Code.loop c).wp P Q a w := by
  classical
  let μ : Act → World → Nat := fun a w => if h : ∃ n, J n a w then Classical.choose (least h) else 0
  have hμ : ∀ a w (h : ∃ n, J n a w), J (μ a w) a w ∧ ∀ m, m < μ a w → ¬ J m a w := fun a w h => by
    simp only [μ, dif_pos h]
    exact Classical.choose_spec (least h)
  refine wp_loop (fun a w => ∃ n, J n a w) μ ⟨n, h₀⟩ fun a w h => ?_
  refine wp_mono (round (μ a w) a w (hμ a w h).1) fun e a' w' he => ?_
  cases e with
  | normal =>
    obtain ⟨m, h1, h2⟩ := he
    refine ⟨⟨m, h2⟩, ?_⟩
    have h3 := hμ a' w' ⟨m, h2⟩
    rcases Nat.lt_or_ge m (μ a' w') with h4 | h4
    · exact absurd h2 (h3.2 m h4)
    · omega
  | _ => exact he
mutual
theorem RC.deep {w : World} : ∀ {x : CT} {v : Value} {L : List Nat}, RC w x v L → ctD x
  | .int _ _, _, _, _ => trivial
  | .bool _, _, _, _ => trivial
  | .str _, _, _, h => h.2.2
  | .sl _ _ _, _, _, ⟨A, cap, cs, L0, L1, h1, h2, h3, h4, h5, h6, h7⟩ => ⟨by unfold maxLen at h3; omega, h7.deep⟩
  | .pt _, _, _, ⟨_, _, _, _, _, _, _, h⟩ => h.deep
  | .fn _ _, _, _, ⟨_, _, h⟩ => h.deep
  | .mp _ _ _, _, _, _ => trivial
  | .ifc _, _, _, _ => trivial
  | .any, _, _, _ => trivial
  | .nl _ _, _, _, _ => trivial
theorem RCs.deep {w : World} : ∀ {x : List CT} {v : List Value} {L : List Nat}, RCs w x v L → ctsD x
  | [], _, _, _ => trivial
  | _ :: _, _, _, ⟨v, cs, L1, L2, h1, h2, h3, h4⟩ => ⟨h3.deep, h4.deep⟩
theorem REs.deep {w : World} {m : Nat} : ∀ {x : List (List CT)} {v : List Value} {L : List Nat}, REs w m x v L → essD x
  | [], _, _, _ => trivial
  | _ :: _, _, _, ⟨c1, c2, L1, L2, h1, h2, h3, h4⟩ => ⟨h3.1.deep, h4.deep⟩
end
theorem AVR.deep [NW] {g : Gh} {w : World} : ∀ {x : AV} {v : Value}, AVR g w x v → avD x
  | .c _, _, ⟨_, h, _⟩ => h.deep
  | .n _, _, h => by obtain ⟨_, h1, _⟩ := NR.toC h; exact h1.deep
  | .row _, _, _ => trivial
  | .nil _ _, _, _ => trivial
  | .dead, _, _ => trivial
theorem AVRs.deep [NW] {g : Gh} {w : World} : ∀ {x : List AV} {v : List Value}, All2 (AVR g w) x v → avsD x
  | [], [], _ => trivial
  | _ :: _, _ :: _, h => ⟨h.1.deep, AVRs.deep h.2⟩
  | [], _ :: _, h => h.elim
  | _ :: _, [], h => h.elim
theorem Inv.deep [NW] (hI : Inv W U st a w) : WF st := by
  obtain ⟨⟨g, hH, hS⟩, hU, hdef, hh⟩ := hI
  refine ⟨fun t b cs ht => ?_, fun k t cs hk => ?_, fun k e m xs d hk => ?_⟩
  · have h := hS t
    rw [ht] at h
    cases b with
    | true => obtain ⟨vs, _, h2⟩ := h; exact AVRs.deep h2
    | false => obtain ⟨x, rfl, h2⟩ := h; exact ⟨h2.deep, trivial⟩
  · have h := hH.obs k
    rw [hk] at h
    obtain ⟨b, vs, _, _, _, _, h2⟩ := h
    exact AVRs.deep h2
  · have h := hH.obs k
    rw [hk] at h
    obtain ⟨_, cs, L, h1, h2, _⟩ := h
    refine ⟨?_, h2.deep⟩
    rcases h1.2 with ⟨_, h3⟩ | ⟨_, _, cap, _, _, _, _, h3, h4, _⟩
    · omega
    · unfold maxLen at h4; omega
def toExit : Ex → Exit
  | .normal => .normal
  | .exit id => .exit id
  | .ret => .ret
/-- the code's form: slots in range, open orders that do not matter -/
def codeOk (od : OD) (tt : Nat → Option TI) (hs : FuncId → Nat) (k0 : Bool) (N : Nat) : Code → Bool
  | .skip => true
  | .region id ops d => (ops.toList.all fun o => match o.dst with | some t => Nat.blt t N && (!k0 || Nat.blt 0 t) | none => true) && (match od id with | none => !d || drawOk tt hs ops | some l => d && drawOkL tt hs l.2 ops l.1)
  | .seq x y => codeOk od tt hs k0 N x && codeOk od tt hs k0 N y
  | .cond _ x y => codeOk od tt hs k0 N x && codeOk od tt hs k0 N y
  | .block _ x => codeOk od tt hs k0 N x
  | .loop x => codeOk od tt hs k0 N x
  | .exit _ => true
  | .ret => true
  | _ => false
theorem swp_sound [NW] {od : OD} (htt : MOk P J JF W tt) (hmix : P.follows .mixedOrders = true) {hds : FuncId → Nat} {k0 : Bool} (hk0 : W.hv = none ∨ k0 = true) {N : Nat} : ∀ (c : Code), codeOk od tt hds k0 N c = true → ∀ (Qs : Ex → St → Prop) (Q : Exit → Act → World → Prop),
    (∀ ex U' st' a' w', Inv W U' st' a' w' → (∀ k, st'.n ≤ k → ¬ U' k) → a'.tmps.size = N → Qs ex st' → Q (toExit ex) a' w') →
    ∀ U st a w, Inv W U st a w → (∀ k, st.n ≤ k → ¬ U k) → a.tmps.size = N → swp tt (SC P J JF hds) od c Qs st → c.wp P Q a w
  | .skip, _, Qs, Q, hQ, U, st, a, w, hI, hk, hs, h => wp_skip (hQ .normal U st a w hI hk hs h)
  | .exit id, _, Qs, Q, hQ, U, st, a, w, hI, hk, hs, h => wp_exit (hQ (.exit id) U st a w hI hk hs h)
  | .ret, _, Qs, Q, hQ, U, st, a, w, hI, hk, hs, h => wp_ret (hQ .ret U st a w hI hk hs h)
  | .region id ops d, hok, Qs, Q, hQ, U, st, a, w, hI, hk, hs, h => by
    simp only [codeOk, Bool.and_eq_true, List.all_eq_true] at hok
    have hN : ∀ o ∈ ops.toList, ∀ t, o.dst = some t → t < N ∧ (W.hv = none ∨ t ≠ 0) := fun o mo t ht => by
      have := hok.1 o mo
      rw [ht] at this
      simp only [Bool.and_eq_true, Bool.or_eq_true] at this
      refine ⟨Nat.le_of_ble_eq_true this.1, hk0.imp (fun h => h) fun h => ?_⟩
      rcases this.2 with h2 | h2
      · rw [h] at h2; simp at h2
      · have h3 : 0 < t := Nat.le_of_ble_eq_true h2
        exact Nat.ne_of_gt h3
    have hend : ∀ U' st' a' w', Inv W U' st' a' w' → (∀ k, st.n + 16 * ops.toList.length ≤ k → ¬ U' k) → a'.tmps.size = N → endK (st.n + 16 * ops.toList.length) (Qs .normal) st' → Q .normal a' w' := fun U' st' a' w' h1 h2 h3 h4 =>
      hQ .normal U' { st' with n := st.n + 16 * ops.toList.length } a' w' ⟨h1.ex, ⟨h1.wf.sl, h1.wf.ob, h1.wf.gone⟩, h1.defers, h1.hand⟩ h2 h3 h4
    have hdraw : Inv W U st a { w with drawn := w.drawn + 1 } := by
      obtain ⟨⟨g, hH, hS⟩, hU, hdef, hh⟩ := hI
      have hw : ∀ b, b < w.heap.size → ¬ g.own b → ({ w with drawn := w.drawn + 1 } : World).heap[b]? = w.heap[b]? := fun _ _ _ => rfl
      refine ⟨⟨g, hH.step (U := U) (fun _ => False) ⟨hH.below.os, hH.below.tape, hH.below.output, hH.below.size, hH.below.block⟩ rfl (fun _ _ _ => rfl) (fun _ _ => ⟨rfl, rfl, rfl, rfl⟩) hU.ob (fun _ _ => rfl) (OGrow.refl _ _) (fun _ h => h.elim), fun t => ?_⟩, hU, hdef, hh⟩
      exact (hS t).move (hU.sl t) (fun _ _ => rfl) hw (OGrow.refl _ _) (Nat.le_refl _)
    have open_ : ∀ (b : Bool) (R : List Nat), pairsB tt hds b ops R = true → (∀ j, elB ops j = true) → R.length ≤ ops.size → (∀ i, i ∈ R ↔ i < ops.size) → opsI tt (SC P J JF hds) b ops.toList st.n R (endK (st.n + 16 * ops.toList.length) (Qs .normal)) st → (Code.region id ops true).wp P Q a w := fun b R h1 h2 h3 h4 h5 => by
      refine wp_region_any hmix ?_
      refine any_sound (base := st.n) htt hN h2 (fun U' st' a' w' h1 h2 h3 h4 => hend U' st' a' w' h1 (by simpa using h2) h3 h4) ops.size R (Array.replicate ops.size false) U st a _ h3 (pairsB_pw h1) (by simp) (fun i => ?_) (fun i o ho hl => ?_) h5 hdraw (fun j _ k hk' _ => hk k (by omega)) (fun k hk' => hk k (by omega)) hs
      · rw [h4]
        constructor
        · intro hi; exact ⟨hi, by simp [Array.getD_eq_getD_getElem?, hi]⟩
        · exact fun hi => hi.1
      · exfalso
        have hi : i < ops.size := (Array.getElem?_eq_some_iff.1 ho).1
        simp [Array.getD_eq_getD_getElem?, hi] at hl
    cases ho : od id with
    | none =>
      have hok2 := hok.2
      simp only [ho] at hok2
      simp only [swp, ho, regO] at h
      have h' : opsS tt (SC P J JF hds) ops.toList st.n ops.toList (endK (st.n + 16 * ops.toList.length) (Qs .normal)) st := h
      cases d with
      | false =>
        refine wp_region ?_
        have := ops_sound (Q := Q) htt hN ops.toList 0 st.n U st a w (by simp) h' hI hk hs hend
        rw [List.range_eq_range']
        simpa using this
      | true =>
        have hdr : drawOk tt hds ops = true := by simpa using hok2
        simp only [drawOk, Bool.and_eq_true] at hdr
        have h2 := opsI_of (tt := tt) (S := SC P J JF hds) (all := ops.toList) (base := st.n) (K := endK (st.n + 16 * ops.toList.length) (Qs .normal)) ops.toList 0 st (by simp) (by simpa using h')
        rw [← List.range_eq_range'] at h2
        exact open_ false (List.range ops.size) hdr.1 (elsB_all hdr.2) (by simp) (by simp) (by simpa using h2)
    | some l =>
      have hok2 := hok.2
      simp only [ho, Bool.and_eq_true] at hok2
      simp only [swp, ho, regO] at h
      obtain ⟨rfl, hdr⟩ := hok2
      simp only [drawOkL, Bool.and_eq_true] at hdr
      exact open_ l.2 l.1 hdr.1.1.1.1 (elsB_all hdr.1.1.1.2) (Nat.le_of_ble_eq_true hdr.1.1.2) (fun i => ⟨fun mi => Nat.le_of_ble_eq_true (List.all_eq_true.1 hdr.1.2 i mi), fun hi => by simpa using List.all_eq_true.1 hdr.2 i (by simpa using hi)⟩) h
  | .seq x y, hok, Qs, Q, hQ, U, st, a, w, hI, hk, hs, h => by
    simp only [codeOk, Bool.and_eq_true] at hok
    refine wp_seq (swp_sound htt hmix hk0 x hok.1 (thenK (swp tt (SC P J JF hds) od y Qs) Qs) _ ?_ U st a w hI hk hs h)
    intro ex U' st' a' w' h1 h2 h3 h4
    cases ex with
    | normal => exact swp_sound htt hmix hk0 y hok.2 Qs Q hQ U' st' a' w' h1 h2 h3 h4
    | exit id => exact hQ (.exit id) U' st' a' w' h1 h2 h3 h4
    | ret => exact hQ .ret U' st' a' w' h1 h2 h3 h4
  | .cond c x y, hok, Qs, Q, hQ, U, st, a, w, hI, hk, hs, h => by
    simp only [codeOk, Bool.and_eq_true] at hok
    simp only [swp, condK] at h
    split at h
    · rename_i hb
      obtain ⟨b, hb'⟩ : ∃ b, st.ev tt 0 c = .p false [.c (.bool b)] := by
        unfold isBool at hb
        split at hb
        · rename_i b he; exact ⟨b, he⟩
        · simp at hb
      obtain ⟨g, hH, hS⟩ := hI.ex
      have hv := (ev_ok (P := P) htt.tt hS hI.wf 0 c).1
      rw [hb'] at hv
      have hv' := bool_of hv
      refine wp_cond hv' ?_
      cases b with
      | true => rw [if_pos (by rw [hb']; rfl)] at h; exact swp_sound htt hmix hk0 x hok.1 Qs Q hQ U st a w hI hk hs h
      | false => rw [if_neg (by rw [hb']; simp [getBool])] at h; exact swp_sound htt hmix hk0 y hok.2 Qs Q hQ U st a w hI hk hs h
    · exact h.elim
  | .block id x, hok, Qs, Q, hQ, U, st, a, w, hI, hk, hs, h => by
    refine wp_block (swp_sound htt hmix hk0 x hok (blockK id Qs) _ ?_ U st a w hI hk hs h)
    intro ex U' st' a' w' h1 h2 h3 h4
    cases ex with
    | normal => exact hQ .normal U' st' a' w' h1 h2 h3 h4
    | exit j =>
      show Exit.inBlock id Q (.exit j) a' w'
      simp only [blockK] at h4
      simp only [Exit.inBlock]
      split
      · rename_i e; rw [if_pos e] at h4; exact hQ .normal U' st' a' w' h1 h2 h3 h4
      · rename_i e; rw [if_neg e] at h4; exact hQ (.exit j) U' st' a' w' h1 h2 h3 h4
    | ret => exact hQ .ret U' st' a' w' h1 h2 h3 h4
  | .loop x, hok, Qs, Q, hQ, U, st, a, w, hI, hk, hs, h => by
    obtain ⟨n, hn⟩ := h
    refine wp_loop_n (fun n a w => ∃ U st, Inv W U st a w ∧ (∀ k, st.n ≤ k → ¬ U k) ∧ a.tmps.size = N ∧ loopN (swp tt (SC P J JF hds) od x) Qs n st) n ⟨U, st, hI, hk, hs, hn⟩ ?_
    rintro n a w ⟨U, st, hI, hk, hs, hn⟩
    cases n with
    | zero => exact hn.elim
    | succ n =>
      obtain ⟨ms, ρ, hρ, hb⟩ := hn
      obtain ⟨U2, hI2⟩ := mats_inv ms hI hk
      refine swp_sound htt hmix hk0 x hok (thenK (loopN (swp tt (SC P J JF hds) od x) Qs n) Qs) _ ?_ _ ((st.mats ms).ren ρ) a w (ren_inv hI2 hρ) (fun k hk' hU => by simp only [St.ren] at hk'; omega) hs (hb (ren_inv hI2 hρ).deep)
      intro ex U' st' a' w' h1 h2 h3 h4
      cases ex with
      | normal => exact ⟨n, by omega, U', st', h1, h2, h3, h4⟩
      | exit id => exact hQ (.exit id) U' st' a' w' h1 h2 h3 h4
      | ret => exact hQ .ret U' st' a' w' h1 h2 h3 h4
  | .rangeFunc _ _ _ _, hok, _, _, _, _, _, _, _, _, _, _, _ => by simp [codeOk] at hok
  | .scope _, hok, _, _, _, _, _, _, _, _, _, _, _ => by simp [codeOk] at hok
  | .label _, hok, _, _, _, _, _, _, _, _, _, _, _ => by simp [codeOk] at hok
  | .goto _, hok, _, _, _, _, _, _, _, _, _, _, _ => by simp [codeOk] at hok
  | .refuse _, hok, _, _, _, _, _, _, _, _, _, _, _ => by simp [codeOk] at hok
end
end
section
open Go.RowKit
section
variable {P : Program} {J : World → Prop} {JF : Nat → Prop} {W : Base} {U : Nat → Prop} {st : St} {w w' : World} {a : Act} {tt : Nat → Option TI} {g : Gh}
/-- the blocks that are written to behind the call: those of calls below, and those of the rows that are given -/
def nK (g : Gh) (K : Nat → Prop) (b : Nat) : Prop := g.Z b ∨ ∃ k, K k ∧ b ∈ g.O k
theorem own_base {k e m n B : Nat} {cs : List Value} (h : w.ownsV 0 e m (g.val k) n cs) (hB : ∀ b ∈ (g.val k).ownBlock.toList, B ≤ b) : w.ownsV B e m (g.val k) n cs := by
  refine ⟨h.1, ?_⟩
  rcases h.2 with h0 | ⟨q, o, cap, cur, hv, hg, r⟩
  · exact .inl h0
  · exact .inr ⟨q, o, cap, cur, hv, hB q (by simp [hv, Value.ownBlock]), r⟩
variable {K : Nat → Prop}
theorem resAV_ok [NW] (hI : HI W g st.ob w) (hK : ∀ k, K k → mapB (st.ob k) = false ∧ ∀ e m xs d, st.ob k = .row e m xs d → d = 2) {x : AV} {ct : Bool × CT} {ks : List Nat} {v : Value} (h : resAV st x = some (ct, ks)) (hks : ∀ k ∈ ks, K k ∧ ∀ b ∈ g.O k ++ g.D k, W.heap.size ≤ b) (hx : AVR g w x v) : OC w W.heap.size (nK g K) ct v (g.F ks) := by
  have hsub : ∀ b, nK g K b → g.own b := fun b hb => by
    rcases hb with hz | ⟨k, _, mk⟩
    · exact .inr hz
    · exact .inl ⟨k, mk⟩
  cases x with
  | c y =>
    obtain ⟨L, h1, h2⟩ := hx
    cases y <;> simp only [resAV, Option.some.injEq, Prod.mk.injEq] at h <;> obtain ⟨rfl, rfl⟩ := h
    · exact ⟨⟨h1.1, rfl⟩, by simp [Gh.F]⟩
    · exact ⟨⟨h1.1, rfl⟩, by simp [Gh.F]⟩
    · exact ⟨⟨h1.1, rfl, h1.2.2⟩, by simp [Gh.F]⟩
    · exact ⟨by simp [Gh.F], L, h1, fun b mb hb => h2 b mb (hsub b hb)⟩
    · exact ⟨by simp [Gh.F], L, h1, fun b mb hb => h2 b mb (hsub b hb)⟩
    · exact ⟨by simp [Gh.F], L, h1, fun b mb hb => h2 b mb (hsub b hb)⟩
    · exact ⟨by simp [Gh.F], L, h1, fun b mb hb => h2 b mb (hsub b hb)⟩
    · exact ⟨⟨rfl, h1.2⟩, by simp [Gh.F]⟩
    · exact ⟨by simp [Gh.F], L, h1, fun b mb hb => h2 b mb (hsub b hb)⟩
    · exact ⟨by simp [Gh.F], L, h1, fun b mb hb => h2 b mb (hsub b hb)⟩
  | row k =>
    simp only [resAV] at h
    split at h
    · rename_i e m xs d hk
      obtain ⟨hm, cs, L, o1, o2, o3, o5⟩ := hI.deep hk
      split at h
      · rename_i hd
        simp only [Option.some.injEq, Prod.mk.injEq] at h
        obtain ⟨rfl, rfl⟩ := h
        have hKk := hks k (by simp)
        rcases o5 with ⟨_, q1, q2⟩ | ⟨q, _⟩ | ⟨q, _⟩
        · refine ⟨hm, cs, L, by rw [hx.1]; exact own_base o1 fun b mb => hKk.2 b (by simp [q1, mb]), o2, by simp [Gh.F, q1, q2, hx.1], fun b mb => .inr ⟨k, hKk.1, by rw [q1]; rw [hx.1] at mb; exact mb⟩⟩
        · omega
        · omega
      · rename_i hd
        simp only [Option.some.injEq, Prod.mk.injEq] at h
        obtain ⟨rfl, rfl⟩ := h
        have hnK : ¬ K k := fun h => hd ((hK k h).2 e m xs d hk)
        obtain ⟨A, cap, L0, s1, s2, s3, s4, s5⟩ := Sl.row o1
        refine ⟨by simp [Gh.F], L0 ++ L, ⟨A, cap, cs, L0, L, by rw [hx.1, s1], s2, s3, rfl, hm, s4, o2⟩, fun b mb hb => ?_⟩
        rcases List.mem_append.1 mb with m1 | m1
        · have m2 := s5.subset m1
          rcases o5 with ⟨q, _⟩ | ⟨_, q1, q2⟩ | ⟨_, _, _, q⟩
          · exact hd q
          · have mk : b ∈ g.O k ++ g.D k := by simp [q1, m2]
            rcases hb with hz | ⟨j, hj, mj⟩
            · exact hI.nz mk hz
            · exact hI.apart k j (fun e => hnK (e ▸ hj)) b mk (by simp [mj])
          · exact q b m2 (hsub b hb)
        · exact o3 b m1 (hsub b hb)
    · rename_i kk vk kv hk
      simp only [Option.some.injEq, Prod.mk.injEq] at h
      obtain ⟨rfl, rfl⟩ := h
      have ho := hI.obs k
      rw [hk] at ho
      obtain ⟨b, es, c, q1, q2, q3, q4, q5, q6⟩ := ho
      have hnK : ¬ K k := fun h => by have := (hK k h).1; rw [hk] at this; simp [mapB] at this
      refine ⟨by simp [Gh.F], [b], ⟨b, es, c, by rw [hx.1, q1], q4, q5, q6, rfl⟩, fun x mx hb => ?_⟩
      simp at mx; subst mx
      have mk : x ∈ g.O k ++ g.D k := by simp [q2]
      rcases hb with hz | ⟨j, hj, mj⟩
      · exact hI.nz mk hz
      · exact hI.apart k j (fun e => hnK (e ▸ hj)) x mk (by simp [mj])
    · simp at h
  | nil e m =>
    simp only [resAV] at h
    split at h
    · rename_i hm
      simp only [Option.some.injEq, Prod.mk.injEq] at h
      obtain ⟨rfl, rfl⟩ := h
      have hx' : v = .slice none 0 0 := hx
      subst hx'
      exact ⟨hm, [], [], ownsV_nil _ _ _ _, ⟨rfl, rfl⟩, by simp [Gh.F, Value.ownBlock], by simp [Value.ownBlock]⟩
    · simp at h
  | n y =>
    obtain ⟨L, h1, h2⟩ := NR.toC hx
    simp only [resAV, Option.some.injEq, Prod.mk.injEq] at h
    obtain ⟨rfl, rfl⟩ := h
    exact ⟨by simp [Gh.F], L, h1, fun b mb hb => h2 b mb (hsub b hb)⟩
  | dead =>
    simp only [resAV, Option.some.injEq, Prod.mk.injEq] at h
    obtain ⟨rfl, rfl⟩ := h
    exact ⟨by simp [Gh.F], [], ⟨rfl, hx⟩, by simp⟩
theorem resAVs_ok [NW] (hI : HI W g st.ob w) (hK : ∀ k, K k → mapB (st.ob k) = false ∧ ∀ e m xs d, st.ob k = .row e m xs d → d = 2) : ∀ {xs : List AV} {cts : List (Bool × CT)} {ks : List Nat} {vs : List Value}, resAVs st xs = some (cts, ks) → (∀ k ∈ ks, K k ∧ ∀ b ∈ g.O k ++ g.D k, W.heap.size ≤ b) → All2 (AVR g w) xs vs → OCs w W.heap.size (nK g K) cts vs (g.F ks)
  | [], _, _, [], h, _, _ => by
    simp only [resAVs, Option.some.injEq, Prod.mk.injEq] at h
    obtain ⟨rfl, rfl⟩ := h
    exact ⟨rfl, by simp [Gh.F]⟩
  | [], _, _, _ :: _, _, _, h => h.elim
  | _ :: _, _, _, [], _, _, h => h.elim
  | x :: r, cts, ks, v :: vs, h, hks, hr => by
    simp only [resAVs] at h
    obtain ⟨⟨c1, k1⟩, h1, h⟩ := Option.bind_eq_some_iff.1 h
    obtain ⟨⟨c2, k2⟩, h2, h⟩ := Option.map_eq_some_iff.1 h
    simp only [Prod.mk.injEq] at h
    obtain ⟨rfl, rfl⟩ := h
    exact ⟨v, vs, g.F k1, g.F k2, rfl, by simp [Gh.F], resAV_ok hI hK h1 (fun k mk => hks k (by simp [mk])) hr.1, resAVs_ok hI hK h2 (fun k mk => hks k (by simp [mk])) hr.2⟩
theorem resPV_ok [NW] (hI : HI W g st.ob w) (hK : ∀ k, K k → mapB (st.ob k) = false ∧ ∀ e m xs d, st.ob k = .row e m xs d → d = 2) {ag : Bool} {cs : List AV} {cts : List (Bool × CT)} {ks : List Nat} {v : Value} (h : resAVs st cs = some (cts, ks)) (hks : ∀ k ∈ ks, K k ∧ ∀ b ∈ g.O k ++ g.D k, W.heap.size ≤ b) (hx : PVR g w ag cs v) : OP w W.heap.size (nK g K) (ag, cts) v (g.F ks) := by
  cases ag with
  | true => obtain ⟨vs, rfl, h2⟩ := hx; exact .inl ⟨rfl, vs, rfl, resAVs_ok hI hK h hks h2⟩
  | false =>
    obtain ⟨x, rfl, h2⟩ := hx
    simp only [resAVs] at h
    obtain ⟨⟨c1, k1⟩, h1, h⟩ := Option.bind_eq_some_iff.1 h
    simp at h
    obtain ⟨rfl, rfl⟩ := h
    exact .inr ⟨rfl, c1, rfl, resAV_ok hI hK h1 hks h2⟩
theorem OC.one {B : Nat} {n : Nat → Prop} {x : Bool × CT} {v : Value} {F : List Nat} (h : OC w B n x v F) : v.oneCell' = true := by
  obtain ⟨b, x⟩ := x
  cases b with
  | true => obtain ⟨_, L, h1, _⟩ := h; exact h1.one
  | false =>
    cases x with
    | sl e q xs =>
      obtain ⟨_, cs, L, o1, _⟩ := h
      obtain ⟨A, cap, hv⟩ := own_val o1
      rw [hv]; rfl
    | int k i => exact h.1.one
    | bool b => exact h.1.one
    | str s => exact h.1.one
    | ifc s => exact h.1.one
    | any => exact h.1.one
    | _ => exact h.elim
/- what is given is said to be lent -/
theorem wkC_ok [NW] {B : Nat} {n : Nat → Prop} : ∀ {r res : List (Bool × CT)} {vs : List Value} {F : List Nat}, OCs w B n r vs F → wkC r res → F.Nodup → ∃ F', F'.Sublist F ∧ ∀ m : Nat → Prop, (∀ b ∈ F', n b → m b) → (∀ b, m b → n b) → (∀ b ∈ F, m b → b ∈ F') → OCs w B m res vs F'
  | [], [], vs, F, h, _, _ => ⟨[], by simp, fun m _ _ _ => ⟨h.1, rfl⟩⟩
  | [], _ :: _, _, _, _, h, _ => h.elim
  | _ :: _, [], _, _, _, h, _ => h.elim
  | x :: r, y :: res, _, _, ⟨v, vs, F1, F2, rfl, rfl, h1, h2⟩, hw0, hnd => by
    rw [List.nodup_append] at hnd
    have hw0 : wk1 x y (wkC r res) := hw0
    unfold wk1 at hw0
    by_cases hany : isAny y.2 = true
    · rw [if_pos hany] at hw0
      obtain ⟨F2', s2, h2'⟩ := wkC_ok h2 hw0 hnd.2.1
      refine ⟨F2', s2.trans (List.sublist_append_right _ _), fun m m1 m2 m3 => ⟨v, vs, [], F2', rfl, rfl, ?_, h2' m m1 m2 fun b mb hb => m3 b (by simp [mb]) hb⟩⟩
      have h1' := h1.one
      obtain ⟨b2, y⟩ := y
      cases y <;> simp [isAny] at hany
      cases b2 with
      | true => exact ⟨rfl, [], ⟨rfl, h1'⟩, by simp⟩
      | false => exact ⟨⟨rfl, h1'⟩, rfl⟩
    rw [if_neg hany] at hw0
    obtain ⟨e1, e2, hw⟩ := hw0
    obtain ⟨F2', s2, h2'⟩ := wkC_ok h2 hw hnd.2.1
    have key : ∃ F1', F1'.Sublist F1 ∧ ∀ m : Nat → Prop, (∀ b ∈ F1', n b → m b) → (∀ b, m b → n b) → (∀ b ∈ F1, m b → b ∈ F1') → OC w B m y v F1' := by
      obtain ⟨b1, x⟩ := x
      obtain ⟨b2, y⟩ := y
      simp only at e1 e2
      subst e1
      cases b1 with
      | true =>
        have : b2 = true := by rcases e2 with e | e <;> simp_all
        subst this
        obtain ⟨rfl, L, q1, q2⟩ := h1
        exact ⟨[], by simp, fun m _ m2 _ => ⟨rfl, L, q1, fun b mb hb => q2 b mb (m2 b hb)⟩⟩
      | false =>
        cases b2 with
        | false =>
          refine ⟨F1, List.Sublist.refl _, fun m m1 _ _ => ?_⟩
          cases x with
          | sl e q xs =>
            obtain ⟨hm, cs, L, o1, o2, o3, o4⟩ := h1
            exact ⟨hm, cs, L, o1, o2, o3, fun b mb => m1 b (by simp [o3, mb]) (o4 b mb)⟩
          | int k i => exact h1
          | bool b => exact h1
          | str s => exact h1
          | ifc s => exact h1
          | any => exact h1
          | _ => exact h1.elim
        | true =>
          refine ⟨[], by simp, fun m _ _ m3 => ⟨rfl, ?_⟩⟩
          cases x with
          | sl e q xs =>
            obtain ⟨hm, cs, L, o1, o2, o3, o4⟩ := h1
            obtain ⟨A, cap, L0, s1, s2, s3, s4, s5⟩ := Sl.row o1
            refine ⟨L0 ++ L, ⟨A, cap, cs, L0, L, s1, s2, s3, rfl, hm, s4, o2⟩, fun b mb hb => ?_⟩
            have : b ∈ F1 := by
              rw [o3]
              rcases List.mem_append.1 mb with m1 | m1
              · exact List.mem_append.2 (.inl (s5.subset m1))
              · exact List.mem_append.2 (.inr m1)
            have := m3 b this hb
            simp at this
          | int k i => exact ⟨[], h1.1, by simp⟩
          | bool b => exact ⟨[], h1.1, by simp⟩
          | str s => exact ⟨[], h1.1, by simp⟩
          | ifc s => exact ⟨[], h1.1, by simp⟩
          | any => exact ⟨[], h1.1, by simp⟩
          | _ => exact h1.elim
    obtain ⟨F1', s1, h1'⟩ := key
    refine ⟨F1' ++ F2', List.Sublist.append s1 s2, fun m m1 m2 m3 => ⟨v, vs, F1', F2', rfl, rfl, h1' m (fun b mb => m1 b (by simp [mb])) m2 (fun b mb hb => ?_), h2' m (fun b mb => m1 b (by simp [mb])) m2 (fun b mb hb => ?_)⟩⟩
    · rcases List.mem_append.1 (m3 b (by simp [mb]) hb) with h | h
      · exact h
      · exact absurd rfl (hnd.2.2 b mb b (s2.subset h))
    · rcases List.mem_append.1 (m3 b (by simp [mb]) hb) with h | h
      · exact absurd rfl (hnd.2.2 b (s1.subset h) b mb)
      · exact h
theorem wkP_ok [NW] {B : Nat} {n : Nat → Prop} {x y : RT} {v : Value} {F : List Nat} (h : OP w B n x v F) (e1 : x.1 = y.1) (hw : wkC x.2 y.2) (hnd : F.Nodup) : ∃ F', F'.Sublist F ∧ ∀ m : Nat → Prop, (∀ b ∈ F', n b → m b) → (∀ b, m b → n b) → (∀ b ∈ F, m b → b ∈ F') → OP w B m y v F' := by
  rcases h with ⟨h1, vs, rfl, h2⟩ | ⟨h1, ct, h2, h3⟩
  · obtain ⟨F', s, h⟩ := wkC_ok h2 hw hnd
    exact ⟨F', s, fun m a b c => .inl ⟨e1 ▸ h1, vs, rfl, h m a b c⟩⟩
  · obtain ⟨F', s, h⟩ := wkC_ok (r := x.2) (vs := [v]) (F := F) (by rw [h2]; exact ⟨v, [], F, [], rfl, by simp, h3, rfl, rfl⟩) hw hnd
    refine ⟨F', s, fun m p1 p2 p3 => .inr ⟨e1 ▸ h1, ?_⟩⟩
    have h4 := h m p1 p2 p3
    generalize y.2 = l at h4 hw
    cases l with
    | nil => rw [h2] at hw; exact hw.elim
    | cons c l =>
      cases l with
      | nil =>
        obtain ⟨v', vs', F1, F2, q1, rfl, q3, q4⟩ := h4
        simp only [List.cons.injEq] at q1
        obtain ⟨rfl, rfl⟩ := q1
        obtain ⟨_, rfl⟩ := q4
        exact ⟨c, rfl, by simpa using q3⟩
      | cons _ _ =>
        rw [h2] at hw
        have hw : wk1 _ _ False := hw
        unfold wk1 at hw
        split at hw
        · exact hw.elim
        · exact hw.2.2.elim
theorem wkR_ok [NW] {B : Nat} {n : Nat → Prop} : ∀ {r res : List RT} {vs : List Value} {F : List Nat}, OPs w B n r vs F → wkR r res → F.Nodup → ∃ F', F'.Sublist F ∧ ∀ m : Nat → Prop, (∀ b ∈ F', n b → m b) → (∀ b, m b → n b) → (∀ b ∈ F, m b → b ∈ F') → OPs w B m res vs F'
  | [], [], vs, F, h, _, _ => ⟨[], by simp, fun m _ _ _ => ⟨h.1, rfl⟩⟩
  | [], _ :: _, _, _, _, h, _ => h.elim
  | _ :: _, [], _, _, _, h, _ => h.elim
  | x :: r, y :: res, _, _, ⟨v, vs, F1, F2, rfl, rfl, h1, h2⟩, ⟨e1, e2, hw⟩, hnd => by
    rw [List.nodup_append] at hnd
    obtain ⟨F2', s2, h2'⟩ := wkR_ok h2 hw hnd.2.1
    obtain ⟨F1', s1, h1'⟩ := wkP_ok h1 e1 e2 hnd.1
    refine ⟨F1' ++ F2', List.Sublist.append s1 s2, fun m m1 m2 m3 => ⟨v, vs, F1', F2', rfl, rfl, h1' m (fun b mb => m1 b (by simp [mb])) m2 (fun b mb hb => ?_), h2' m (fun b mb => m1 b (by simp [mb])) m2 (fun b mb hb => ?_)⟩⟩
    · rcases List.mem_append.1 (m3 b (by simp [mb]) hb) with h | h
      · exact h
      · exact absurd rfl (hnd.2.2 b mb b (s2.subset h))
    · rcases List.mem_append.1 (m3 b (by simp [mb]) hb) with h | h
      · exact absurd rfl (hnd.2.2 b (s1.subset h) b mb)
      · exact h
def resRun (tmps : Array Value) : ResultVar → Sem Value
  | .tmp t => pure (tmps.getD t undef)
  | .cell b t => do loadVar t (← asAddr (tmps.getD b undef))
theorem results_eq (fn : Func) (tmps : Array Value) : results fn tmps = (do let vs ← fn.results.mapM (resRun tmps); pure (if h : vs.size = 1 then vs[0] else .tuple vs)) := by
  unfold results
  congr 1
theorem resOf_ok [NW] (htt : ∀ t i, tt t = some i → TOk P t i) (hI : HI W g st.ob w) (hS : ∀ t, SVR g w (st.sl t) (a.tmps.getD t undef)) (hU : StU U st) (hK : ∀ k, K k → mapB (st.ob k) = false ∧ ∀ e m xs d, st.ob k = .row e m xs d → d = 2) : ∀ {rs : List ResultVar} {res : List RT} {ks : List Nat}, resOf tt st rs = some (res, ks) → (∀ k ∈ ks, K k ∧ ∀ b ∈ g.O k ++ g.D k, W.heap.size ≤ b) →
    ∃ vs : List Value, (rs.mapM (resRun a.tmps)).run P w = .ok vs w ∧ OPs w W.heap.size (nK g K) res vs (g.F ks)
  | [], res, ks, h, _ => by
    simp only [resOf, Option.some.injEq, Prod.mk.injEq] at h
    obtain ⟨rfl, rfl⟩ := h
    exact ⟨[], by simp, rfl, by simp [Gh.F]⟩
  | .tmp t :: r, res, ks, h, hks => by
    simp only [resOf] at h
    split at h
    · rename_i ag cs hsl
      obtain ⟨⟨c1, k1⟩, h1, h⟩ := Option.bind_eq_some_iff.1 h
      obtain ⟨⟨c2, k2⟩, h2, h⟩ := Option.map_eq_some_iff.1 h
      simp only [Prod.mk.injEq] at h
      obtain ⟨rfl, rfl⟩ := h
      obtain ⟨vs, i1, i2⟩ := resOf_ok htt hI hS hU hK h2 (fun k mk => hks k (by simp [mk]))
      have hs := hS t
      rw [hsl] at hs
      refine ⟨a.tmps.getD t undef :: vs, ?_, _, vs, g.F k1, g.F k2, rfl, by simp [Gh.F], resPV_ok hI hK h1 (fun k mk => hks k (by simp [mk])) hs, i2⟩
      simp only [List.mapM_cons, resRun, Sem.run_bind, Sem.run_pure, Result.andThen_ok, i1]
    · simp at h
  | .cell t ty :: r, res, ks, h, hks => by
    simp only [resOf] at h
    split at h
    · rename_i ag cs hsl
      obtain ⟨⟨c1, k1⟩, h1, h⟩ := Option.bind_eq_some_iff.1 h
      obtain ⟨⟨c2, k2⟩, h2, h⟩ := Option.map_eq_some_iff.1 h
      simp only [Prod.mk.injEq] at h
      obtain ⟨rfl, rfl⟩ := h
      obtain ⟨vs, i1, i2⟩ := resOf_ok htt hI hS hU hK h2 (fun k mk => hks k (by simp [mk]))
      obtain ⟨cv, l1, l2, _⟩ := load_ok (P := P) (U := U) htt hI hU hsl (hS t)
      have hl : (do loadVar ty (← asAddr (a.tmps.getD t undef)) : Sem Value).run P w = .ok cv w := by
        have : ∃ b, a.tmps.getD t undef = .pointer (some b) := by
          have hs := hS t
          cases hsl' : st.sl t with
          | bp k off => rw [hsl'] at hs; obtain ⟨b, _, hv⟩ := hs; exact ⟨_, hv⟩
          | rp k m i off => rw [hsl'] at hs; obtain ⟨b, _, _, _, _, hv⟩ := hs; exact ⟨_, hv⟩
          | ep e off => rw [hsl'] at hs; obtain ⟨b, _, _, _, hv, _⟩ := hs; exact ⟨_, hv⟩
          | p ag2 cs2 =>
            rw [hsl'] at hs hsl
            cases ag2 with
            | true => simp [loadV] at hsl
            | false =>
              cases cs2 with
              | nil => simp [loadV] at hsl
              | cons y q =>
                cases q with
                | cons _ _ => cases y <;> first | (simp [loadV] at hsl; done) | (rename_i z; cases z <;> simp [loadV] at hsl)
                | nil => cases y with
                  | c z => cases z with
                    | pt e => obtain ⟨b, _, _, hv, _⟩ := pt_of hs; exact ⟨_, hv⟩
                    | _ => simp [loadV] at hsl
                  | _ => simp [loadV] at hsl
          | _ => rw [hsl'] at hsl; simp [loadV] at hsl
        obtain ⟨b, hb⟩ := this
        rw [hb] at l1 ⊢
        simpa [Instr.loadAt, Instr.sureAddr, asAddr] using l1
      refine ⟨cv :: vs, ?_, _, vs, g.F k1, g.F k2, rfl, by simp [Gh.F], resPV_ok hI hK h1 (fun k mk => hks k (by simp [mk])) l2, i2⟩
      have hl' : (resRun a.tmps (.cell t ty)).run P w = .ok cv w := hl
      simp only [List.mapM_cons, Sem.run_bind, hl', i1, Sem.run_pure, Result.andThen_ok]
    · simp at h
theorem ks_row : ∀ {xs : List AV} {cts : List (Bool × CT)} {ks : List Nat}, resAVs st xs = some (cts, ks) → ∀ k ∈ ks, ∃ e m xs, st.ob k = .row e m xs 2
  | [], _, _, h, k, mk => by
    simp only [resAVs, Option.some.injEq, Prod.mk.injEq] at h
    rw [← h.2] at mk; simp at mk
  | x :: r, cts, ks, h, k, mk => by
    simp only [resAVs] at h
    obtain ⟨⟨c1, k1⟩, h1, h⟩ := Option.bind_eq_some_iff.1 h
    obtain ⟨⟨c2, k2⟩, h2, h⟩ := Option.map_eq_some_iff.1 h
    simp only [Prod.mk.injEq] at h
    obtain ⟨rfl, rfl⟩ := h
    rcases List.mem_append.1 mk with mk | mk
    · cases x with
      | c y => cases y <;> simp only [resAV, Option.some.injEq, Prod.mk.injEq] at h1 <;> (rw [← h1.2] at mk; simp at mk)
      | row j =>
        simp only [resAV] at h1
        split at h1
        · rename_i e m xs d hk
          split at h1
          · rename_i hd
            simp only [Option.some.injEq, Prod.mk.injEq] at h1
            rw [← h1.2] at mk
            simp at mk
            subst mk
            exact ⟨e, m, xs, by rw [hk, hd]⟩
          · simp only [Option.some.injEq, Prod.mk.injEq] at h1
            rw [← h1.2] at mk; simp at mk
        · simp only [Option.some.injEq, Prod.mk.injEq] at h1
          rw [← h1.2] at mk; simp at mk
        · simp at h1
      | nil e m =>
        simp only [resAV] at h1
        split at h1
        · simp only [Option.some.injEq, Prod.mk.injEq] at h1
          rw [← h1.2] at mk; simp at mk
        · simp at h1
      | n y =>
        simp only [resAV, Option.some.injEq, Prod.mk.injEq] at h1
        rw [← h1.2] at mk; simp at mk
      | dead =>
        simp only [resAV, Option.some.injEq, Prod.mk.injEq] at h1
        rw [← h1.2] at mk; simp at mk
    · exact ks_row h2 k mk
theorem ks_rows [NW] : ∀ {rs : List ResultVar} {res : List RT} {ks : List Nat}, resOf tt st rs = some (res, ks) → ∀ k ∈ ks, ∃ e m xs, st.ob k = .row e m xs 2
  | [], _, _, h, k, mk => by
    simp only [resOf, Option.some.injEq, Prod.mk.injEq] at h
    rw [← h.2] at mk; simp at mk
  | .tmp t :: r, res, ks, h, k, mk => by
    simp only [resOf] at h
    split at h
    · obtain ⟨⟨c1, k1⟩, h1, h⟩ := Option.bind_eq_some_iff.1 h
      obtain ⟨⟨c2, k2⟩, h2, h⟩ := Option.map_eq_some_iff.1 h
      simp only [Prod.mk.injEq] at h
      obtain ⟨rfl, rfl⟩ := h
      rcases List.mem_append.1 mk with mk | mk
      · exact ks_row h1 k mk
      · exact ks_rows h2 k mk
    · simp at h
  | .cell t ty :: r, res, ks, h, k, mk => by
    simp only [resOf] at h
    split at h
    · obtain ⟨⟨c1, k1⟩, h1, h⟩ := Option.bind_eq_some_iff.1 h
      obtain ⟨⟨c2, k2⟩, h2, h⟩ := Option.map_eq_some_iff.1 h
      simp only [Prod.mk.injEq] at h
      obtain ⟨rfl, rfl⟩ := h
      rcases List.mem_append.1 mk with mk | mk
      · exact ks_row h1 k mk
      · exact ks_rows h2 k mk
    · simp at h
theorem arg_SVR [NW] {z : Nat → Prop} {x : Bool × List CT} {v : Value} (hg : ∀ b, g.own b → z b) (h : ArgR w z x v) : SVR g w (.p x.1 (x.2.map .c)) v := by
  rcases h with ⟨h1, vs, L, rfl, h2, h4⟩ | ⟨h1, ct, L, h2, h3, h4⟩
  · rw [h1]; exact ⟨vs, rfl, h2.avr fun b mb hb => h4 b mb (hg b hb)⟩
  · rw [h1, h2]; exact ⟨_, rfl, L, h3, fun b mb hb => h4 b mb (hg b hb)⟩
theorem unnl_ok [NW] {x : CT} {v : Value} {L : List Nat} (h : RC w x v L) (hL : ∀ b ∈ L, ¬ g.own b) : AVR g w (unnl x) v := by
  cases x with
  | nl e m => exact h.1
  | _ => exact ⟨L, h, hL⟩
theorem unnls_ok [NW] : ∀ {e : List CT} {cs : List Value} {L : List Nat}, RCs w e cs L → (∀ b ∈ L, ¬ g.own b) → All2 (AVR g w) (e.map unnl) cs
  | [], _, _, ⟨h1, h2⟩, _ => by subst h1; trivial
  | x :: r, _, _, ⟨v, cs, L1, L2, h1, h2, h3, h4⟩, hL => by
    subst h1 h2
    exact ⟨unnl_ok h3 fun b m => hL b (by simp [m]), unnls_ok h4 fun b m => hL b (by simp [m])⟩
theorem arg_SVRn [NW] {z : Nat → Prop} {x : Bool × List CT} {v : Value} (hg : ∀ b, g.own b → z b) (h : ArgR w z x v) : SVR g w (.p x.1 (x.2.map unnl)) v := by
  rcases h with ⟨h1, vs, L, rfl, h2, h4⟩ | ⟨h1, ct, L, h2, h3, h4⟩
  · rw [h1]; exact ⟨vs, rfl, unnls_ok h2 fun b mb hb => h4 b mb (hg b hb)⟩
  · rw [h1, h2]; exact ⟨_, rfl, unnl_ok h3 fun b mb hb => h4 b mb (hg b hb)⟩
theorem svU_unnl (e : List CT) : avsU U (e.map unnl) := fun y m => by
  obtain ⟨x, _, rfl⟩ := List.mem_map.1 m
  cases x <;> trivial
/-- the results of a call whose code has run to its end -/
theorem ret_ok [NW] (htt : ∀ t i, tt t = some i → TOk P t i) {fn : Func} {res : List RT} (hI : Inv W U st a w) (hH : HI W g st.ob w) (hS : ∀ t, SVR g w (st.sl t) (a.tmps.getD t undef)) {r : List RT} {ks : List Nat} (hx : resOf tt st fn.results.toList = some (r, ks)) (hnd : ks.Nodup) (hw : wkR r res)
    (hB : ∀ k ∈ ks, ∀ b ∈ g.O k ++ g.D k, W.heap.size ≤ b) (K0 : Nat → Prop) (hK0 : ∀ k, K0 k → mapB (st.ob k) = false ∧ ∀ e m xs d, st.ob k = .row e m xs d → d = 2) :
    ∃ v m, (results fn a.tmps).run P w = .ok v w ∧ ResR w W.heap.size m res v ∧ (∀ b, m b → g.own b) ∧ (∀ b, m b → g.Z b ∨ (∃ k, (k ∈ ks ∨ K0 k) ∧ b ∈ g.O k)) ∧ ∀ b, b ∉ g.F ks → (g.Z b ∨ ∃ k, K0 k ∧ b ∈ g.O k) → m b := by
  obtain ⟨us, r1, r2⟩ := resOf_ok (K := fun k => k ∈ ks ∨ K0 k) htt hH hS hI.wf (fun k hk => by
    rcases hk with hk | hk
    · obtain ⟨e', m', xs', h'⟩ := ks_rows hx k hk
      refine ⟨by rw [h']; rfl, fun e m xs d he => ?_⟩
      rw [he] at h'
      simp only [Ob.row.injEq] at h'
      exact h'.2.2.2
    · exact hK0 k hk) hx (fun k mk => ⟨.inl mk, hB k mk⟩)
  have hndF := hH.nodupF hnd
  obtain ⟨F', s, hF⟩ := wkR_ok r2 hw hndF
  have hge : ∀ b ∈ g.F ks, W.heap.size ≤ b := fun b mb => by
    obtain ⟨k, hk, mk⟩ := mem_F mb
    exact hB k hk b mk
  refine ⟨(if h : us.toArray.size = 1 then us.toArray[0] else .tuple us.toArray), fun b => nK g (fun k => k ∈ ks ∨ K0 k) b ∧ (b ∈ g.F ks → b ∈ F'), ?_, ⟨us, F', hF _ (fun b mb hb => ⟨hb, fun _ => mb⟩) (fun b hb => hb.1) (fun b mb hb => hb.2 mb), ⟨hndF.sublist s, fun b mb => hge b (s.subset mb), fun b mb => ?_⟩, rfl⟩, fun b hb => ?_, fun b hb => hb.1, fun b hb hn => ⟨?_, fun mb => absurd mb hb⟩⟩
  · rw [results_eq]
    have e : fn.results.mapM (resRun a.tmps) = List.toArray <$> fn.results.toList.mapM (resRun a.tmps) := by
      rw [← List.mapM_toArray]
    have e2 : (List.toArray <$> fn.results.toList.mapM (resRun a.tmps)).run P w = .ok us.toArray w := by
      rw [map_eq_pure_bind]
      simp only [Sem.run_bind, r1, Result.andThen_ok, Sem.run_pure]
    rw [e]
    simp only [Sem.run_bind, e2, Result.andThen_ok, Sem.run_pure]
  · obtain ⟨k, hk, mk⟩ := mem_F (s.subset mb)
    obtain ⟨e', m', xs', h'⟩ := ks_rows hx k hk
    have := (hH.plain k b mk).2
    rw [h'] at this
    exact this
  · rcases hb.1 with hz | ⟨k, _, mk⟩
    · exact .inr hz
    · exact .inl ⟨k, mk⟩
  · rcases hn with hz | ⟨k, hk, mk⟩
    · exact .inl hz
    · exact .inr ⟨k, .inr hk, mk⟩
end
abbrev nw0 : NW := ⟨0⟩
section
variable {P : Program} {J : World → Prop} {JF : Nat → Prop} {W : Base} {U : Nat → Prop} {st : St} {w w' : World} {a : Act} {tt : Nat → Option TI} {od : OD} {g : Gh}
/-- how the world's premise bears the changes of a call -/
structure JOk (J : World → Prop) (JF : Nat → Prop) : Prop where
  below : ∀ (x : Nat → Prop) (w w' : World), J w → (∀ b, x b → JF b) → w'.os = w.os → w'.tape = w.tape → w'.output = w.output → w.heap.size ≤ w'.heap.size → (∀ k, k < w.heap.size → ¬ x k → w'.heap[k]? = w.heap[k]?) → J w'
  new : ∀ (w : World) b, J w → w.heap.size ≤ b → JF b
theorem slot_arg {args : List (Bool × List CT)} {vs : List Value} {N t o : Nat} (h : vs.length ≤ N) (v : Value) (hv : vs[t]? = some v) : (vs.toArray ++ Array.replicate (N - vs.toArray.size) undef).getD t undef = v := by
  have hl : t < vs.length := (List.getElem?_eq_some_iff.1 hv).1
  simp only [Array.getD_eq_getD_getElem?, Array.getElem?_append, List.size_toArray, hl, if_true, List.getElem?_toArray, hv, Option.getD_some]
theorem slot_und {vs : List Value} {N t : Nat} (ht : vs.length ≤ t) : (vs.toArray ++ Array.replicate (N - vs.toArray.size) undef).getD t undef = undef := by
  simp only [Array.getD_eq_getD_getElem?, Array.getElem?_append, List.size_toArray, show ¬ t < vs.length by omega, if_false, Array.getElem?_replicate]
  split <;> rfl
theorem fn_sound (htt : ∀ t i, tt t = some i → TOk P t i) (hJ : JOk J JF) (hmix : P.follows .mixedOrders = true) {hds : FuncId → Nat} {f : FuncId} {fn : Func} {c : Code} {args : List (Bool × List CT)} {res : List RT} (hf : P.funcs[f]? = some fn) (hname : (fn.name == "runtime.NumGoroutine") = false) (hb : fn.body = some c)
    (hok : codeOk od tt hds false fn.ntmps c = true) (hlen : Nat.ble args.length fn.ntmps = true) (h : fnS od tt (SC P J JF hds) fn.results.toList c args res) : Sound P J f args res := by
  letI : NW := nw0
  refine ⟨⟨fn, hf, hname, by rw [hb]; rfl⟩, fun w z vs hj hz hargs => ?_⟩
  have hlen' : args.length ≤ fn.ntmps := Nat.le_of_ble_eq_true hlen
  have hvl := hargs.len
  refine calls_of_wp hf hb ?_
  let W : Base := { w with z := z, x := fun _ => False, hv := none }
  let g0 : Gh := ⟨fun _ => undef, fun _ => [], fun _ => [], z⟩
  have hg0 : ∀ b, g0.own b → z b := fun b hb => by
    rcases hb with ⟨k, m⟩ | h
    · simp [g0] at m
    · exact h
  have hI0 : Inv W (fun _ => False) (argSt args) { tmps := vs.toArray ++ Array.replicate (fn.ntmps - vs.toArray.size) undef, defers := [] } w := by
    refine ⟨⟨g0, ⟨⟨rfl, rfl, rfl, Nat.le_refl _, fun _ _ _ => rfl⟩, fun k => ⟨rfl, rfl⟩, fun k => by simp [g0], fun k j _ b m => by simp [g0] at m, fun k b m => by simp [g0] at m, rfl, fun b hb => ⟨hz b hb, fun h => h⟩, fun _ _ => Nat.zero_le _⟩, fun t => ?_⟩, ⟨fun t => ?_, fun k => trivial, fun k _ => rfl⟩, rfl, fun v hv => by simp [W] at hv⟩
    · show SVR g0 w (match args[t]? with | some x => .p x.1 (x.2.map unnl) | none => .und) _
      cases ht : args[t]? with
      | none => exact slot_und (by have : args.length ≤ t := by simpa using ht
                                   omega)
      | some x =>
        obtain ⟨v, hv, hr⟩ := hargs.at ht
        show SVR g0 w (.p x.1 (x.2.map unnl)) ((vs.toArray ++ Array.replicate (fn.ntmps - vs.toArray.size) undef).getD t undef)
        rw [slot_arg (args := args) (o := 0) (by omega) v hv]
        exact arg_SVRn hg0 hr
    · show svU _ (match args[t]? with | some x => .p x.1 (x.2.map unnl) | none => .und)
      split
      · exact svU_unnl _
      · trivial
  have hM : MOk P J JF W tt := ⟨htt, fun w' hb => hJ.below (fun _ => False) w w' hj (fun _ h => h.elim) hb.os hb.tape hb.output hb.size (fun k hk hx => hb.block k hk hx), fun b hb => hJ.new w b hj hb, fun b h => h.elim⟩
  refine swp_sound (W := W) hM hmix (.inl rfl) c hok (retK tt fn.results.toList fun _ r _ => wkR r res) _ ?_ _ (argSt args) _ w hI0 (fun _ _ h => h) (by simp; omega) h
  intro ex U' st' a' w' hI' _ _ hK
  have fin : (match resOf tt st' fn.results.toList with | some x => x.2.Nodup ∧ wkR x.1 res | none => False) → a'.defers = [] ∧ ∃ v, (results fn a'.tmps).run P w' = .ok v w' ∧ ∃ u n, Ending.returned v = .returned u ∧ ResR w' w.heap.size n res u ∧ (∀ b, z b → n b) ∧ Below w.heap.size w w' := fun hK => by
    split at hK
    · rename_i x hx
      obtain ⟨r, ks⟩ := x
      obtain ⟨hnd, hw⟩ := hK
      obtain ⟨g, hH, hS⟩ := hI'.ex
      have hBg : ∀ k ∈ ks, ∀ b ∈ g.O k ++ g.D k, W.heap.size ≤ b := fun k _ b mb => (hH.plain k b mb).1.resolve_right fun h => h
      obtain ⟨v, m, e1, e2, _, _, e4⟩ := ret_ok htt hI' hH hS hx hnd hw hBg (fun _ => False) (fun _ h => h.elim)
      have hbel := hH.below
      exact ⟨hI'.defers, v, e1, v, m, rfl, e2, fun b hb => e4 b (fun mb => by obtain ⟨k, hk, mk⟩ := mem_F mb; have := hBg k hk b mk; have := hz b hb; have e : W.heap.size = w.heap.size := rfl; omega) (.inl (by rw [hH.gz]; exact hb)), hbel.os, hbel.tape, hbel.output, hbel.size, fun k hk => hbel.block k hk fun h => h⟩
    · exact hK.elim
  cases ex with
  | normal => exact fin hK
  | exit id => exact hK.elim
  | ret => exact fin hK
theorem fn_soundB (htt : ∀ t i, tt t = some i → TOk P t i) (hJ : JOk J JF) (hmix : P.follows .mixedOrders = true) {hds : FuncId → Nat} {f : FuncId} {fn : Func} {c : Code} {args : List (Bool × List CT)} {nb : NB} (hf : P.funcs[f]? = some fn) (hname : (fn.name == "runtime.NumGoroutine") = false) (hb : fn.body = some c)
    (hok : codeOk od tt hds false fn.ntmps c = true) (hlen : Nat.ble args.length fn.ntmps = true) (h : fnB od tt (SC P J JF hds) fn.results.toList c args nb) : SoundB P J f args nb := by
  letI : NW := nw0
  refine ⟨⟨fn, hf, hname, by rw [hb]; rfl⟩, fun w z vs hj hz hargs => ?_⟩
  have hlen' : args.length ≤ fn.ntmps := Nat.le_of_ble_eq_true hlen
  have hvl := hargs.len
  refine calls_of_wp hf hb ?_
  let W : Base := { w with z := z, x := fun _ => False, hv := none }
  let g0 : Gh := ⟨fun _ => undef, fun _ => [], fun _ => [], z⟩
  have hg0 : ∀ b, g0.own b → z b := fun b hb => by
    rcases hb with ⟨k, m⟩ | h
    · simp [g0] at m
    · exact h
  have hI0 : Inv W (fun _ => False) (argSt args) { tmps := vs.toArray ++ Array.replicate (fn.ntmps - vs.toArray.size) undef, defers := [] } w := by
    refine ⟨⟨g0, ⟨⟨rfl, rfl, rfl, Nat.le_refl _, fun _ _ _ => rfl⟩, fun k => ⟨rfl, rfl⟩, fun k => by simp [g0], fun k j _ b m => by simp [g0] at m, fun k b m => by simp [g0] at m, rfl, fun b hb => ⟨hz b hb, fun h => h⟩, fun _ _ => Nat.zero_le _⟩, fun t => ?_⟩, ⟨fun t => ?_, fun k => trivial, fun k _ => rfl⟩, rfl, fun v hv => by simp [W] at hv⟩
    · show SVR g0 w (match args[t]? with | some x => .p x.1 (x.2.map unnl) | none => .und) _
      cases ht : args[t]? with
      | none => exact slot_und (by have : args.length ≤ t := by simpa using ht
                                   omega)
      | some x =>
        obtain ⟨v, hv, hr⟩ := hargs.at ht
        show SVR g0 w (.p x.1 (x.2.map unnl)) ((vs.toArray ++ Array.replicate (fn.ntmps - vs.toArray.size) undef).getD t undef)
        rw [slot_arg (args := args) (o := 0) (by omega) v hv]
        exact arg_SVRn hg0 hr
    · show svU _ (match args[t]? with | some x => .p x.1 (x.2.map unnl) | none => .und)
      split
      · exact svU_unnl _
      · trivial
  have hM : MOk P J JF W tt := ⟨htt, fun w' hb => hJ.below (fun _ => False) w w' hj (fun _ h => h.elim) hb.os hb.tape hb.output hb.size (fun k hk hx => hb.block k hk hx), fun b hb => hJ.new w b hj hb, fun b h => h.elim⟩
  refine swp_sound (W := W) hM hmix (.inl rfl) c hok (retB fn.results.toList nb) _ ?_ _ (argSt args) _ w hI0 (fun _ _ h => h) (by simp; omega) h
  intro ex U' st' a' w' hI' _ _ hK
  have fin : newBack st' fn.results.toList nb → a'.defers = [] ∧ ∃ v, (results fn a'.tmps).run P w' = .ok v w' ∧ ∃ (b : Nat) (n : Nat → Prop), Ending.returned v = .returned (nbVal b nb) ∧ w.heap.size ≤ b ∧ nbR w' n b nb ∧ n b ∧ (∀ x, z x → n x) ∧ Below w.heap.size w w' := fun hK => by
    unfold newBack at hK
    split at hK
    · rename_i s hrs
      have er : fn.results = #[.tmp s] := by
        have := congrArg List.toArray hrs
        simpa using this
      obtain ⟨g, hH, hS⟩ := hI'.ex
      have hs := hS s
      have hbel := hH.below
      cases nb with
      | box t cs =>
        obtain ⟨k, ds, k1, k2, k3, k4⟩ := hK
        rw [k1] at hs
        obtain ⟨b, b1, b2⟩ := hs
        have hob := hH.obs k
        rw [k2] at hob
        obtain ⟨b', us, o1, o2, o3, o4, o5⟩ := hob
        have hbb : b' = b := by rw [b1] at o1; simpa using o1.symm
        subst hbb
        obtain ⟨L, hL, hL2⟩ := avArgs_ok hH k4 o5
        have hno := hL2 fun y my => by
          have := List.all_eq_true.1 k3 y my
          cases y <;> simp [avNoRow] at this <;> trivial
        refine ⟨hI'.defers, _, ?_, b', fun x => g.own x, rfl, (hH.plain k b' (by simp [o2])).1.resolve_right fun h => h, ⟨us, L, o4, hL, hno⟩, .inl ⟨k, by simp [o2]⟩, fun x hx => .inr (by rw [hH.gz]; exact hx), hbel.os, hbel.tape, hbel.output, hbel.size, fun k hk => hbel.block k hk fun h => h⟩
        rw [results_eq, er]
        simp [resRun, b2, nbVal]
      | map kk vk kv =>
        obtain ⟨k, k1, k2⟩ := hK
        rw [k1] at hs
        obtain ⟨x, hx, hx3⟩ := hs
        simp only [List.cons.injEq, and_true] at hx
        subst hx
        obtain ⟨hx2, _⟩ := hx3
        have hob := hH.obs k
        rw [k2] at hob
        obtain ⟨b, es, c, o1, o2, o3, o4, o5⟩ := hob
        refine ⟨hI'.defers, _, ?_, b, fun x => g.own x, rfl, (hH.plain k b (by simp [o2])).1.resolve_right fun h => h, ⟨es, c, o4, o5⟩, .inl ⟨k, by simp [o2]⟩, fun x hx => .inr (by rw [hH.gz]; exact hx), hbel.os, hbel.tape, hbel.output, hbel.size, fun k hk => hbel.block k hk fun h => h⟩
        rw [results_eq, er]
        simp [resRun, hx2, o1, nbVal]
    · exact hK.elim
  cases ex with
  | normal => exact fin hK
  | exit id => exact hK.elim
  | ret => exact fin hK
theorem fn_soundH (htt : ∀ t i, tt t = some i → TOk P t i) (hJ : JOk J JF) (hmix : P.follows .mixedOrders = true) {hds : FuncId → Nat} {f : FuncId} {fn : Func} {c : Code} {h h' : Hand} {args : List (Bool × List CT)} {res : List RT} (hf : P.funcs[f]? = some fn) (hname : (fn.name == "runtime.NumGoroutine") = false) (hb : fn.body = some c)
    (hok : codeOk od tt hds true fn.ntmps c = true) (hlen : Nat.blt args.length fn.ntmps = true) (hh : fnH od tt (SC P J JF hds) fn.results.toList c h args res h') : SoundH P J JF f h args res h' := by
  letI : NW := nw0
  refine ⟨⟨fn, hf, hname, by rw [hb]; rfl⟩, fun w z q v0 vs hj hqf hz hhand hargs => ?_⟩
  have hlen' : args.length < fn.ntmps := Nat.le_of_ble_eq_true hlen
  have hvl := hargs.len
  refine calls_of_wp hf hb ?_
  let W : Base := { w with z := z, x := fun b => q = some b, hv := some v0 }
  let g0 : Gh := ⟨fun k => if k = 0 then v0 else undef, fun k => if k = 0 then q.toList else [], fun _ => [], z⟩
  have hg0 : ∀ b, g0.own b → inQ z q b := fun b hb => by
    rcases hb with ⟨k, m⟩ | h
    · simp only [g0] at m
      split at m
      · exact .inr (by simpa using m)
      · simp at m
    · exact .inl h
  have hqlt : ∀ b, q = some b → ∃ cur e, w.heap[b]? = some (.cells cur e (0, 0)) := fun b hb => by
    cases h with
    | row e m xs =>
      obtain ⟨_, _, h3, cs, h4, _⟩ := hhand
      rcases h4.2 with ⟨h0, _⟩ | ⟨gg, o, cap, cur, hv, _, hcc, _⟩
      · rw [h0] at h3; simp [Value.ownBlock] at h3; rw [← h3] at hb; simp at hb
      · rw [hv] at h3; simp only [Value.ownBlock] at h3; rw [hb] at h3; simp at h3; subst h3; exact ⟨_, _, hcc⟩
    | box t cs =>
      obtain ⟨b', vs, L, h1, h2, h3, _⟩ := hhand
      rw [hb] at h1; simp at h1; subst h1
      exact ⟨_, _, h3⟩
  have hob0 : ObR g0 w 0 (handOb h) := by
    cases h with
    | row e m xs =>
      obtain ⟨h1, h2, h3, cs, h4, h5⟩ := hhand
      exact ⟨h2, cs, [], by simpa [g0] using h4, h5, .inl ⟨rfl, by simp [g0, h3], by simp [g0]⟩⟩
    | box t cs =>
      obtain ⟨b, vs, L, h1, h2, h3, h4, h5⟩ := hhand
      exact ⟨b, vs, by simpa [g0] using h2, by simp [g0, h1], by simp [g0], h3, h4.avr fun x mx hx => h5 x mx (hg0 x hx)⟩
  have hsv0 : SVR g0 w (handSV h) v0 := by
    cases h with
    | row e m xs =>
      obtain ⟨h1, h2, h3, cs, h4, h5⟩ := hhand
      obtain ⟨A, cap, hv⟩ := own_val h4
      exact ⟨_, rfl, by simp [g0], by simp [hv, Value.oneCell']⟩
    | box t cs =>
      obtain ⟨b, vs, L, h1, h2, h3, h4, h5⟩ := hhand
      exact ⟨b, by simpa [g0] using h2, h2⟩
  have hI0 : Inv W (fun k => k = 0) (handSt h args) { tmps := (v0 :: vs).toArray ++ Array.replicate (fn.ntmps - (v0 :: vs).toArray.size) undef, defers := [] } w := by
    refine ⟨⟨g0, ⟨⟨rfl, rfl, rfl, Nat.le_refl _, fun _ _ _ => rfl⟩, fun k => ?_, fun k => ?_, fun k j hkj b m => ?_, fun k b m => ?_, rfl, fun b hb => ⟨(hz b hb).1, (hz b hb).2⟩, fun _ _ => Nat.zero_le _⟩, fun t => ?_⟩, ⟨fun t => ?_, fun k => ?_, fun k hk => by simp [handSt, hk]⟩, rfl, fun v hv => ?_⟩
    · show ObR g0 w k (if k = 0 then handOb h else .gone)
      by_cases hk : k = 0
      · subst hk; exact hob0
      · rw [if_neg hk]; exact ⟨by simp [g0, hk], rfl⟩
    · by_cases hk : k = 0
      · subst hk; cases q <;> simp [g0]
      · simp [g0, hk]
    · by_cases hk : k = 0
      · have : ¬ j = 0 := fun e => hkj (by omega)
        simp [g0, this]
      · simp [g0, hk] at m
    · by_cases hk : k = 0
      · subst hk
        have hb : q = some b := by simpa [g0] using m
        refine ⟨.inr hb, ?_⟩
        have hp : ∃ cur e, w.heap[b]? = some (.cells cur e (0, 0)) := hqlt b hb
        show PlainAt w (if 0 = 0 then handOb h else .gone) b
        rw [if_pos rfl]
        cases h <;> exact hp
      · simp [g0, hk] at m
    · show SVR g0 w (match t with | 0 => handSV h | t + 1 => (match args[t]? with | some x => .p x.1 (x.2.map .c) | none => .und)) _
      cases t with
      | zero =>
        show SVR g0 w (handSV h) (((v0 :: vs).toArray ++ Array.replicate (fn.ntmps - (v0 :: vs).toArray.size) undef).getD 0 undef)
        rw [slot_arg (args := args) (o := 0) (by simp; omega) v0 rfl]
        exact hsv0
      | succ t =>
        show SVR g0 w (match args[t]? with | some x => .p x.1 (x.2.map .c) | none => .und) _
        cases ht : args[t]? with
        | none => exact slot_und (by have : args.length ≤ t := by simpa using ht
                                     simp; omega)
        | some x =>
          obtain ⟨v, hv, hr⟩ := hargs.at ht
          show SVR g0 w (.p x.1 (x.2.map .c)) (((v0 :: vs).toArray ++ Array.replicate (fn.ntmps - (v0 :: vs).toArray.size) undef).getD (t + 1) undef)
          rw [slot_arg (args := args) (o := 0) (by simp; omega) v (by simpa using hv)]
          exact arg_SVR hg0 hr
    · show svU _ (match t with | 0 => handSV h | t + 1 => (match args[t]? with | some x => .p x.1 (x.2.map .c) | none => .und))
      cases t with
      | zero => cases h with
        | row e m xs => intro y my; simp at my; subst my; rfl
        | box t cs => rfl
      | succ t =>
        show svU _ (match args[t]? with | some x => .p x.1 (x.2.map .c) | none => .und)
        split
        · exact svU_cs true _
        · trivial
    · show obU _ (if k = 0 then handOb h else .gone)
      by_cases hk : k = 0
      · rw [if_pos hk]
        cases h with
        | row e m xs => trivial
        | box t cs => exact svU_cs true _
      · rw [if_neg hk]; trivial
    · have : v0 = v := by simpa [W] using hv
      subst this
      exact slot_arg (args := args) (o := 0) (by simp; omega) v0 rfl
  have hM : MOk P J JF W tt := ⟨htt, fun w' hb => hJ.below (fun b => q = some b) w w' hj hqf hb.os hb.tape hb.output hb.size (fun k hk hx => hb.block k hk hx), fun b hb => hJ.new w b hj hb, hqf⟩
  refine swp_sound (W := W) hM hmix (.inr rfl) c hok (retK tt fn.results.toList fun st r ks => wkR r res ∧ handBack st ks h') _ ?_ _ (handSt h args) _ w hI0 (fun k hk h0 => by simp [handSt] at hk; omega) (by simp; omega) hh
  intro ex U' st' a' w' hI' _ _ hK
  have fin : (match resOf tt st' fn.results.toList with | some x => x.2.Nodup ∧ wkR x.1 res ∧ handBack st' x.2 h' | none => False) → a'.defers = [] ∧ ∃ v, (results fn a'.tmps).run P w' = .ok v w' ∧ ∃ u n, Ending.returned v = .returned u ∧ ResR w' w.heap.size n res u ∧ (∀ b, inQ z q b → n b) ∧ HandR w' n q h' v0 ∧ BelQ q w w' := fun hK => by
    split at hK
    · rename_i x hx
      obtain ⟨r, ks⟩ := x
      obtain ⟨hnd, hw, hbk⟩ := hK
      obtain ⟨g, hH, hS⟩ := hI'.ex
      have hv0 : a'.tmps.getD 0 undef = v0 := hI'.hand v0 rfl
      have hS0 := hS 0
      rw [hv0] at hS0
      -- the key of what was handed in
      have hkey : ∃ k, g.val k = v0 ∧ g.O k = q.toList ∧ g.D k = [] ∧ k ∉ ks ∧ (mapB (st'.ob k) = false ∧ ∀ e m xs d, st'.ob k = .row e m xs d → d = 2) ∧ ∀ n : Nat → Prop, (∀ b, n b → g.own b) → HandR w' n q h' v0 := by
        cases h' with
        | row e m xs =>
          obtain ⟨k, hk1, hk2, hk3, hk4⟩ := hbk
          rw [hk1] at hS0
          obtain ⟨x, hx1, hx2⟩ := hS0
          simp only [List.cons.injEq, and_true] at hx1
          subst hx1
          have hob := hH.obs k
          rw [hk2] at hob
          obtain ⟨hm, cs, L, o1, o2, o3⟩ := hob
          obtain rfl := REs_flat o2 hk3
          rcases o3 with ⟨_, q1, q2⟩ | ⟨q1, _⟩ | ⟨q1, _⟩
          · have hq : v0.ownBlock = q := by
              cases h with
              | row e1 m1 xs1 => exact hhand.2.2.1
              | box t1 cs1 =>
                obtain ⟨b, vs, L, h1, h2, _⟩ := hhand
                obtain ⟨A, cap, hv⟩ := own_val o1
                rw [← hx2.1, h2] at hv
                simp at hv
            exact ⟨k, hx2.1.symm, by rw [q1, ← hx2.1, hq], q2, hk4, ⟨by rw [hk2]; rfl, fun e' m' xs' d' h => by rw [hk2] at h; simp only [Ob.row.injEq] at h; exact h.2.2.2.symm⟩, fun n _ => ⟨hk3, hm, hq, cs, by rw [hx2.1]; exact o1, o2⟩⟩
          · omega
          · omega
        | box t cs =>
          obtain ⟨k, ds, hk1, hk2, hk3, hk4⟩ := hbk
          rw [hk1] at hS0
          obtain ⟨b, hb1, hb2⟩ := hS0
          have hob := hH.obs k
          rw [hk2] at hob
          obtain ⟨b', vs', o1, o2, o3, o4, o5⟩ := hob
          have hbb : b' = b := by rw [hb1] at o1; simpa using o1.symm
          subst hbb
          have hq : q = some b' := by
            cases h with
            | row e1 m1 xs1 =>
              obtain ⟨_, _, _, cs1, h4, _⟩ := hhand
              obtain ⟨A, cap, hv⟩ := own_val h4
              rw [hv] at hb2
              simp at hb2
            | box t1 cs1 =>
              obtain ⟨b2, vs2, L2, h1, h2, _⟩ := hhand
              rw [h2] at hb2
              simp at hb2
              rw [h1, hb2]
          obtain ⟨L, hL, hL2⟩ := avArgs_ok hH hk4 o5
          refine ⟨k, by rw [o1, hb2], by rw [o2, hq]; rfl, o3, fun mk => ?_, ⟨by rw [hk2]; rfl, fun e' m' xs' d' h => by rw [hk2] at h; simp at h⟩, fun n hn => ⟨b', vs', L, hq, hb2, o4, hL, fun x mx hx => hL2 (fun y my => ?_) x mx (hn x hx)⟩⟩
          · obtain ⟨e', m', xs', h'⟩ := ks_rows hx k mk
            rw [hk2] at h'
            simp at h'
          · have := List.all_eq_true.1 hk3 y my
            cases y <;> simp [avNoRow] at this <;> trivial
      obtain ⟨k0, c1, c2, c3, c4, c5, c6⟩ := hkey
      have hBg : ∀ k ∈ ks, ∀ b ∈ g.O k ++ g.D k, W.heap.size ≤ b := fun k hk b mb => (hH.plain k b mb).1.resolve_right fun h => hH.apart k k0 (fun e => c4 (e ▸ hk)) b mb (by rw [c2]; simp; exact .inl h)
      obtain ⟨v, m, e1, e2, e3, _, e4⟩ := ret_ok htt hI' hH hS hx hnd hw hBg (fun k => k = k0) (fun k hk => hk ▸ c5)
      have hbel := hH.below
      refine ⟨hI'.defers, v, e1, v, m, rfl, e2, fun b hb => ?_, c6 m e3, hbel.os, hbel.tape, hbel.output, hbel.size, fun k hk hq => hbel.block k hk hq⟩
      refine e4 b (fun mb => ?_) ?_
      · obtain ⟨k, hk, mk⟩ := mem_F mb
        have hge := hBg k hk b mk
        have e : W.heap.size = w.heap.size := rfl
        rcases hb with hb | hb
        · have := (hz b hb).1; omega
        · obtain ⟨cur, e', hc⟩ := hqlt b hb
          have := (Array.getElem?_eq_some_iff.1 hc).1
          omega
      · rcases hb with hb | hb
        · exact .inl (by rw [hH.gz]; exact hb)
        · exact .inr ⟨k0, rfl, by rw [c2, hb]; simp⟩
    · exact hK.elim
  cases ex with
  | normal => exact fin hK
  | exit id => exact hK.elim
  | ret => exact fin hK
end
instance nwD : NW := nw0
end
end Go.Proofs.Ytnacpkmpdlodoaa
