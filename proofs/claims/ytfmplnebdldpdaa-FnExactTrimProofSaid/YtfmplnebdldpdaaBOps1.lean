/- Operations that leave the world as it is. -/
import Derived.Test.YtfmplnebdldpdaaBRun
namespace Go.Proofs.Ytfmplnebdldpdaa
open Go.RowKit
def Uk (U : Nat → Prop) (key : Nat) : Nat → Prop := fun k => U k ∨ (key ≤ k ∧ k < key + 16)
theorem avU.mono {U U' : Nat → Prop} (h : ∀ k, U k → U' k) {x : AV} (hx : avU U x) : avU U' x := by cases x <;> first | exact h _ hx | trivial
theorem avsU.mono {U U' : Nat → Prop} (h : ∀ k, U k → U' k) {x : List AV} (hx : avsU U x) : avsU U' x := fun y m => (hx y m).mono h
theorem svU.mono {U U' : Nat → Prop} (h : ∀ k, U k → U' k) {x : SV} (hx : svU U x) : svU U' x := by
  cases x <;> first | exact avsU.mono h hx | exact fun y m => avsU.mono h (hx y m) | exact h _ hx | trivial
theorem obU.mono {U U' : Nat → Prop} (h : ∀ k, U k → U' k) {x : Ob} (hx : obU U x) : obU U' x := by
  cases x <;> first | exact avsU.mono h hx | trivial
def Fin (P : Program) (W : World) (U : Nat → Prop) (key : Nat) (st : St) (g : Gh) (w : World) (s : Sem Next) (r : SV × List (Nat × Ob)) : Prop :=
  ∃ g' cv w', (s.run P w = .ok (.value cv) w' ∨ (s.run P w = .ok .skip w' ∧ cv = undef)) ∧ HI W g' (updAll st.ob r.2) w' ∧ SVR g' w' r.1 cv ∧ (∀ x v, svU U x → SVR g w x v → SVR g' w' x v) ∧
    svU (Uk U key) r.1 ∧ (∀ k, obU (Uk U key) (updAll st.ob r.2 k)) ∧ ∀ k, ¬ Uk U key k → updAll st.ob r.2 k = .gone
section
variable {P : Program} {W : World} {U : Nat → Prop} {key : Nat} {st : St} {g : Gh} {w : World} {a : Act} {tt : Nat → Option TI}
theorem fin_pure {s : Sem Next} {v : SV} {cv : Value} (hI : HI W g st.ob w) (hU : StU U st) (hrun : s.run P w = .ok (.value cv) w) (hv : SVR g w v cv) (hu : svU U v) : Fin P W U key st g w s (v, []) :=
  ⟨g, cv, w, .inl hrun, hI, hv, fun _ _ _ h => h, hu.mono fun _ => .inl, fun k => (hU.ob k).mono fun _ => .inl, fun k hk => hU.gone k fun h => hk (.inl h)⟩
theorem avU_c (x : CT) : avU U (.c x) := trivial
theorem svU_c (x : CT) : svU U (.p false [.c x]) := fun y m => by simp at m; subst m; trivial
theorem SVR_int (k : IntKind) (n : Int) : SVR g w (.p false [.c (.int k n)]) (.int k n) := ⟨_, rfl, [], ⟨rfl, rfl⟩, by simp⟩
theorem SVR_bool (b : Bool) : SVR g w (.p false [.c (.bool b)]) (.bool b) := ⟨_, rfl, [], ⟨rfl, rfl⟩, by simp⟩
theorem SVR_str {s : ByteArray} (h : s.size ≤ 9223372036854775807) : SVR g w (.p false [.c (.str s)]) (.string s) := ⟨_, rfl, [], ⟨rfl, rfl, h⟩, by simp⟩
theorem int_of {k : IntKind} {n : Int} {v : Value} (h : SVR g w (.p false [.c (.int k n)]) v) : v = .int k n := by
  obtain ⟨x, hx, h⟩ := h; simp at hx; subst hx; obtain ⟨L, h1, _⟩ := h; exact h1.1
theorem bool_of {b : Bool} {v : Value} (h : SVR g w (.p false [.c (.bool b)]) v) : v = .bool b := by
  obtain ⟨x, hx, h⟩ := h; simp at hx; subst hx; obtain ⟨L, h1, _⟩ := h; exact h1.1
theorem str_of {s : ByteArray} {v : Value} (h : SVR g w (.p false [.c (.str s)]) v) : v = .string s ∧ s.size ≤ 9223372036854775807 := by
  obtain ⟨x, hx, h⟩ := h; simp at hx; subst hx; obtain ⟨L, h1, _⟩ := h; exact ⟨h1.1, h1.2.2⟩
theorem cv_ok {t : Nat} (htt : ∀ t i, tt t = some i → TOk P t i) (v : Value) : SVR g w (cvT (tt t) v) v ∧ svU U (cvT (tt t) v) := by
  unfold cvT
  split
  · exact ⟨SVR_int _ _, svU_c _⟩
  · exact ⟨SVR_bool _, svU_c _⟩
  · split
    · rename_i h; exact ⟨SVR_str (strOk_le h), svU_c _⟩
    · exact ⟨trivial, trivial⟩
  · split
    · exact ⟨⟨_, rfl, rfl⟩, fun y m => by simp at m; subst m; trivial⟩
    · exact ⟨trivial, trivial⟩
  · exact ⟨trivial, trivial⟩
theorem ev_ok (htt : ∀ t i, tt t = some i → TOk P t i) (hS : ∀ t, SVR g w (st.sl t) (a.tmps.getD t undef)) (hU : StU U st) (t : Nat) (x : Operand) :
    SVR g w (st.ev tt t x) (a.eval x) ∧ svU U (st.ev tt t x) := by
  cases x with
  | tmp s => exact ⟨hS s, hU.sl s⟩
  | const v => exact cv_ok htt v
  | global _ => exact ⟨trivial, trivial⟩
  | func f => exact ⟨rfl, trivial⟩
set_option maxHeartbeats 1000000 in
theorem bin_int {op : BinOp} {t : Nat} {ox oy : Operand} {k k' : IntKind} {n n' : Int} {z : CT} (hk : k = k' ∨ op = .shl ∨ op = .shr) (hz : intV op k n n' = some z) :
    ∃ cv, (do eqGuard op t ox oy (.int k n) (.int k' n'); binOp op t (.int k n) (.int k' n') : Sem Value).run P w = .ok cv w ∧ SVR g w (.p false [.c z]) cv := by
  have hg : (eqGuard op t ox oy (.int k n) (.int k' n')).run P w = .ok () w := by
    cases op <;> rfl
  simp only [Sem.run_bind, hg, Result.andThen_ok]
  cases op <;> simp only [intV, bitV, Option.map_none, Option.map_some, Option.some.injEq, reduceCtorEq] at hz <;> (try subst hz) <;>
    (try (split at hz <;> simp only [Option.some.injEq, reduceCtorEq] at hz; subst hz)) <;>
    simp only [reduceCtorEq, or_false, or_true] at hk <;> (try subst hk) <;>
    first
      | (refine ⟨_, ?_, SVR_int _ _⟩; simp [binOp, Op.intArith, Op.intDiv, Op.intBits, Op.shift, *]; done)
      | (refine ⟨_, ?_, SVR_bool _⟩; simp [binOp, Op.intCmp]; done)
set_option maxHeartbeats 1000000 in
theorem bin_str {op : BinOp} {t : Nat} {ox oy : Operand} {s s' : ByteArray} {z : CT} (hz : strV op s s' = some z) :
    ∃ cv, (do eqGuard op t ox oy (.string s) (.string s'); binOp op t (.string s) (.string s') : Sem Value).run P w = .ok cv w ∧ SVR g w (.p false [.c z]) cv := by
  have hg : (eqGuard op t ox oy (.string s) (.string s')).run P w = .ok () w := by
    cases op <;> rfl
  simp only [Sem.run_bind, hg, Result.andThen_ok]
  cases op <;> simp only [strV, Option.some.injEq, reduceCtorEq] at hz <;> (try subst hz) <;>
    first
      | (refine ⟨_, ?_, SVR_bool _⟩; simp only [binOp, Op.stringOp, sLt, sEq, ← ba_list]; rfl)
      | (split at hz
         · rename_i hl
           simp only [Option.some.injEq] at hz
           subst hz
           refine ⟨_, ?_, SVR_str (by rw [ByteArray.size_append]; exact hl)⟩
           have hl' : ¬ ((s.size + s'.size : Nat) : Int) > IntKind.i64.max := by
             have : IntKind.i64.max = 9223372036854775807 := by decide
             omega
           simp only [binOp, Op.stringOp, hl', if_false]
           rfl
         · simp at hz)
theorem bin_bool {op : BinOp} {t : Nat} {ox oy : Operand} {b b' : Bool} {r : Bool} (ht : P.underlying t = some .bool) (hop : (op = .eql ∧ r = (b == b')) ∨ (op = .neq ∧ r = !(b == b'))) :
    (do eqGuard op t ox oy (.bool b) (.bool b'); binOp op t (.bool b) (.bool b') : Sem Value).run P w = .ok (.bool r) w := by
  have hg : (eqGuard op t ox oy (.bool b) (.bool b')).run P w = .ok () w := by
    cases op <;> rfl
  have he : (Op.equal t (.bool b) (.bool b')).run P w = .ok (b == b') w := by
    have key : ∀ d : Nat, (Op.equalIn (d + 1) t (.bool b) (.bool b')).run P w = .ok (b == b') w := fun d => by
      rw [Op.equalIn]
      simp only [Sem.run_bind, run_und ht, Result.andThen_ok, Sem.run_pure]
    exact key 9999
  simp only [Sem.run_bind, hg, Result.andThen_ok]
  rcases hop with ⟨rfl, rfl⟩ | ⟨rfl, rfl⟩
  · simp only [binOp, Sem.run_bind, he, Result.andThen_ok, Sem.run_pure]
  · simp only [binOp, Sem.run_bind, he, Result.andThen_ok, Sem.run_pure]
theorem bin_ok (htt : ∀ t i, tt t = some i → TOk P t i) {op : BinOp} {t : Nat} {ox oy : Operand} {x y v : SV} {vx vy : Value} (h : binV (tt t) op x y = some v) (hx : SVR g w x vx) (hy : SVR g w y vy) :
    ∃ cv, (do eqGuard op t ox oy vx vy; binOp op t vx vy : Sem Value).run P w = .ok cv w ∧ SVR g w v cv ∧ svU U v := by
  unfold binV at h
  split at h
  · have ex := int_of hx
    have ey := int_of hy
    subst ex ey
    split at h
    · rename_i hk
      obtain ⟨z, hz, rfl⟩ := Option.map_eq_some_iff.1 h
      obtain ⟨cv, h1, h2⟩ := bin_int (P := P) (g := g) (w := w) (t := t) (ox := ox) (oy := oy) hk hz
      exact ⟨cv, h1, h2, svU_c _⟩
    · simp at h
  · obtain ⟨ex, lx⟩ := str_of hx
    obtain ⟨ey, ly⟩ := str_of hy
    subst ex ey
    obtain ⟨z, hz, rfl⟩ := Option.map_eq_some_iff.1 h
    obtain ⟨cv, h1, h2⟩ := bin_str (P := P) (g := g) (w := w) (t := t) (ox := ox) (oy := oy) hz
    exact ⟨cv, h1, h2, svU_c _⟩
  · have ex := bool_of hx
    have ey := bool_of hy
    subst ex ey
    split at h
    · rename_i hti
      simp only [Option.some.injEq] at h
      subst h
      obtain ⟨d, zv, i, h1, h2, _⟩ := htt t _ hti
      have hd : d = .bool := by cases d <;> simp [kindB] at h2; rfl
      subst hd
      exact ⟨_, bin_bool h1 (.inl ⟨rfl, rfl⟩), SVR_bool _, svU_c _⟩
    · rename_i hti
      simp only [Option.some.injEq] at h
      subst h
      obtain ⟨d, zv, i, h1, h2, _⟩ := htt t _ hti
      have hd : d = .bool := by cases d <;> simp [kindB] at h2; rfl
      subst hd
      exact ⟨_, bin_bool h1 (.inr ⟨rfl, rfl⟩), SVR_bool _, svU_c _⟩
    · simp at h
  · simp at h
theorem un_ok {op : UnOp} {x v : SV} {vx : Value} (h : unV op x = some v) (hx : SVR g w x vx) : ∃ cv, (Op.unary op vx).run P w = .ok cv w ∧ SVR g w v cv ∧ svU U v := by
  unfold unV at h
  split at h
  · have ex := bool_of hx
    subst ex
    split at h <;> simp at h
    subst h
    exact ⟨_, by simp [Op.unary], SVR_bool _, svU_c _⟩
  · have ex := int_of hx
    subst ex
    split at h <;> simp at h
    subst h
    exact ⟨_, by simp [Op.unary, Op.intArith], SVR_int _ _, svU_c _⟩
  · simp at h
end
end Go.Proofs.Ytfmplnebdldpdaa
